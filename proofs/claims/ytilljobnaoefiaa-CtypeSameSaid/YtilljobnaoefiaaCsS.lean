/- The walk of merlon/ctype.Same on types that are trees. No condition. -/
import Derived.Test.YtilljobnaoefiaaCsP
namespace Go.Proofs.Ytilljobnaoefiaa
open Go.RowKit
set_option linter.unusedVariables false
set_option maxHeartbeats 4000000
set_option maxRecDepth 100000
theorem same_ne (w : World) (k1 k2 : Int) (a1 a2 a3 a4 a5 a6 a7 a8 b1 b2 b3 b4 b5 b6 b7 b8 : Value) (h : k1 ≠ k2) : Calls Try.prog 8 #[.agg #[.int .i64 k1, a1, a2, a3, a4, a5, a6, a7, a8], .agg #[.int .i64 k2, b1, b2, b3, b4, b5, b6, b7, b8]] w fun e w' => e = .returned (.bool false) ∧ Below w.heap.size w w' := by
  go_enter Try.func8, Try.ntmps8
  go_wp2_with fail
  go_returns
  exact ⟨rfl, ((Below.refl _ _).alloc (Nat.le_refl _) _).alloc (by simp) _⟩
theorem same_int (w : World) (s1 s2 : Int) (g1 g2 c1 c2 : Bool) : Calls Try.prog 8 #[.agg #[.int .i64 1, .int .i64 s1, .bool g1, .bool c1, .pointer none, .int .i64 0, .int .i64 0, .slice none 0 0, .pointer none], .agg #[.int .i64 1, .int .i64 s2, .bool g2, .bool c2, .pointer none, .int .i64 0, .int .i64 0, .slice none 0 0, .pointer none]] w fun e w' => e = .returned (.bool (s1 == s2 && g1 == g2 && c1 == c2)) ∧ Below w.heap.size w w' := by
  by_cases hs : s1 = s2
  · subst hs
    rw [show (s1 == s1) = true by simp]
    cases g1 <;> cases g2 <;> cases c1 <;> cases c2
    all_goals
      go_enter Try.func8, Try.ntmps8
      go_wp2_with fail
      go_returns
      exact ⟨rfl, ((Below.refl _ _).alloc (Nat.le_refl _) _).alloc (by simp) _⟩
  · have hs2 : (s1 == s2) = false := by simpa using hs
    clear hs
    rw [hs2]
    cases g1 <;> cases g2 <;> cases c1 <;> cases c2
    all_goals
      go_enter Try.func8, Try.ntmps8
      go_wp2_with fail
      go_returns
      exact ⟨rfl, ((Below.refl _ _).alloc (Nat.le_refl _) _).alloc (by simp) _⟩
theorem same_str (w : World) (n1 n2 : Int) : Calls Try.prog 8 #[.agg #[.int .i64 4, .int .i64 0, .bool false, .bool false, .pointer none, .int .i64 0, .int .i64 n1, .slice none 0 0, .pointer none], .agg #[.int .i64 4, .int .i64 0, .bool false, .bool false, .pointer none, .int .i64 0, .int .i64 n2, .slice none 0 0, .pointer none]] w fun e w' => e = .returned (.bool (n1 == n2)) ∧ Below w.heap.size w w' := by
  go_enter Try.func8, Try.ntmps8
  go_wp2_with fail
  go_returns
  exact ⟨rfl, ((Below.refl _ _).alloc (Nat.le_refl _) _).alloc (by simp) _⟩
theorem same_ptr (w : World) (p1 p2 : Nat) (x0 x1 x2 x3 x4 x5 x6 x7 x8 y0 y1 y2 y3 y4 y5 y6 y7 y8 : Value) (r : Bool) (h1 : w.heap[p1]? = some (.cells #[x0, x1, x2, x3, x4, x5, x6, x7, x8] 29 (0, 0))) (h2 : w.heap[p2]? = some (.cells #[y0, y1, y2, y3, y4, y5, y6, y7, y8] 29 (0, 0))) (hI : ∀ W, Below w.heap.size w W → Calls Try.prog 8 #[.agg #[x0, x1, x2, x3, x4, x5, x6, x7, x8], .agg #[y0, y1, y2, y3, y4, y5, y6, y7, y8]] W fun e w' => e = .returned (.bool r) ∧ Below W.heap.size W w') : Calls Try.prog 8 #[.agg #[.int .i64 2, .int .i64 8, .bool false, .bool false, .pointer (some ⟨p1, 0, none⟩), .int .i64 0, .int .i64 0, .slice none 0 0, .pointer none], .agg #[.int .i64 2, .int .i64 8, .bool false, .bool false, .pointer (some ⟨p2, 0, none⟩), .int .i64 0, .int .i64 0, .slice none 0 0, .pointer none]] w fun e w' => e = .returned (.bool r) ∧ Below w.heap.size w w' := by
  have HI := Lib.hid hI
  clear hI
  go_enter Try.func8, Try.ntmps8
  go_wp2_with fail
  obtain ⟨W2, hW2⟩ : ∃ z, z = (w.alloc (.cells #[.int .i64 2, .int .i64 8, .bool false, .bool false, .pointer (some ⟨p1, 0, none⟩), .int .i64 0, .int .i64 0, .slice none 0 0, .pointer none] 29)).alloc (.cells #[.int .i64 2, .int .i64 8, .bool false, .bool false, .pointer (some ⟨p2, 0, none⟩), .int .i64 0, .int .i64 0, .slice none 0 0, .pointer none] 29) := ⟨_, rfl⟩
  have q1 : W2.heap[w.heap.size]? = some (.cells #[.int .i64 2, .int .i64 8, .bool false, .bool false, .pointer (some ⟨p1, 0, none⟩), .int .i64 0, .int .i64 0, .slice none 0 0, .pointer none] 29 (0, 0)) := by rw [hW2]; exact blk_alloc (blk_new w _) _
  have q2 : W2.heap[w.heap.size + 1]? = some (.cells #[.int .i64 2, .int .i64 8, .bool false, .bool false, .pointer (some ⟨p2, 0, none⟩), .int .i64 0, .int .i64 0, .slice none 0 0, .pointer none] 29 (0, 0)) := by rw [hW2]; exact blk_new' (by simp)
  have HB := Lib.hid (show Below w.heap.size w W2 by rw [hW2]; exact below_alloc _ (below_alloc _ (Below.refl _ _)))
  rw [← hW2]
  clear hW2
  have h1 := blk_below h1 HB.out
  have h2 := blk_below h2 HB.out
  have u0 : W2.cell? ⟨p1, 0, none⟩ = some x0 := blk_cell h1 rfl
  have u1 : W2.cell? ⟨p1, 1, none⟩ = some x1 := blk_cell h1 rfl
  have u2 : W2.cell? ⟨p1, 2, none⟩ = some x2 := blk_cell h1 rfl
  have u3 : W2.cell? ⟨p1, 3, none⟩ = some x3 := blk_cell h1 rfl
  have u4 : W2.cell? ⟨p1, 4, none⟩ = some x4 := blk_cell h1 rfl
  have u5 : W2.cell? ⟨p1, 5, none⟩ = some x5 := blk_cell h1 rfl
  have u6 : W2.cell? ⟨p1, 6, none⟩ = some x6 := blk_cell h1 rfl
  have u7 : W2.cell? ⟨p1, 7, none⟩ = some x7 := blk_cell h1 rfl
  have u8 : W2.cell? ⟨p1, 8, none⟩ = some x8 := blk_cell h1 rfl
  have v0 : W2.cell? ⟨p2, 0, none⟩ = some y0 := blk_cell h2 rfl
  have v1 : W2.cell? ⟨p2, 1, none⟩ = some y1 := blk_cell h2 rfl
  have v2 : W2.cell? ⟨p2, 2, none⟩ = some y2 := blk_cell h2 rfl
  have v3 : W2.cell? ⟨p2, 3, none⟩ = some y3 := blk_cell h2 rfl
  have v4 : W2.cell? ⟨p2, 4, none⟩ = some y4 := blk_cell h2 rfl
  have v5 : W2.cell? ⟨p2, 5, none⟩ = some y5 := blk_cell h2 rfl
  have v6 : W2.cell? ⟨p2, 6, none⟩ = some y6 := blk_cell h2 rfl
  have v7 : W2.cell? ⟨p2, 7, none⟩ = some y7 := blk_cell h2 rfl
  have v8 : W2.cell? ⟨p2, 8, none⟩ = some y8 := blk_cell h2 rfl
  have m4 : W2.cell? ⟨w.heap.size, 4, none⟩ = some (.pointer (some ⟨p1, 0, none⟩)) := blk_cell q1 rfl
  have n4 : W2.cell? ⟨w.heap.size + 1, 4, none⟩ = some (.pointer (some ⟨p2, 0, none⟩)) := blk_cell q2 rfl
  have l1 := blk_lt h1
  have l2 := blk_lt h2
  have l3 := blk_lt q1
  have l4 := blk_lt q2
  clear h1 h2 q1 q2
  refine wp_region_over (by kernel_rfl) (by kernel_rfl) ?_
  repeat (go_big_quiet_step ((go_at_call 8; refine calls_over (Nat.le_refl _) (HI.out _ (HB.out.bt (over_below _ _ _))))))
  refine wpQuiet_nil ?_
  intro w3 hb3
  go_wp2_with fail
  go_returns
  exact ⟨rfl, HB.out.bt hb3⟩
theorem same_arr (w : World) (p1 p2 : Nat) (n1 n2 : Int) (x0 x1 x2 x3 x4 x5 x6 x7 x8 y0 y1 y2 y3 y4 y5 y6 y7 y8 : Value) (r : Bool) (h1 : w.heap[p1]? = some (.cells #[x0, x1, x2, x3, x4, x5, x6, x7, x8] 29 (0, 0))) (h2 : w.heap[p2]? = some (.cells #[y0, y1, y2, y3, y4, y5, y6, y7, y8] 29 (0, 0))) (hI : ∀ W, Below w.heap.size w W → Calls Try.prog 8 #[.agg #[x0, x1, x2, x3, x4, x5, x6, x7, x8], .agg #[y0, y1, y2, y3, y4, y5, y6, y7, y8]] W fun e w' => e = .returned (.bool r) ∧ Below W.heap.size W w') : Calls Try.prog 8 #[.agg #[.int .i64 3, .int .i64 0, .bool false, .bool false, .pointer (some ⟨p1, 0, none⟩), .int .i64 n1, .int .i64 0, .slice none 0 0, .pointer none], .agg #[.int .i64 3, .int .i64 0, .bool false, .bool false, .pointer (some ⟨p2, 0, none⟩), .int .i64 n2, .int .i64 0, .slice none 0 0, .pointer none]] w fun e w' => e = .returned (.bool (n1 == n2 && r)) ∧ Below w.heap.size w w' := by
  have HI := Lib.hid hI
  clear hI
  by_cases hn : n1 = n2
  · subst hn
    rw [show (n1 == n1) = true by simp]
    go_enter Try.func8, Try.ntmps8
    go_wp2_with fail
    obtain ⟨W2, hW2⟩ : ∃ z, z = (w.alloc (.cells #[.int .i64 3, .int .i64 0, .bool false, .bool false, .pointer (some ⟨p1, 0, none⟩), .int .i64 n1, .int .i64 0, .slice none 0 0, .pointer none] 29)).alloc (.cells #[.int .i64 3, .int .i64 0, .bool false, .bool false, .pointer (some ⟨p2, 0, none⟩), .int .i64 n1, .int .i64 0, .slice none 0 0, .pointer none] 29) := ⟨_, rfl⟩
    have q1 : W2.heap[w.heap.size]? = some (.cells #[.int .i64 3, .int .i64 0, .bool false, .bool false, .pointer (some ⟨p1, 0, none⟩), .int .i64 n1, .int .i64 0, .slice none 0 0, .pointer none] 29 (0, 0)) := by rw [hW2]; exact blk_alloc (blk_new w _) _
    have q2 : W2.heap[w.heap.size + 1]? = some (.cells #[.int .i64 3, .int .i64 0, .bool false, .bool false, .pointer (some ⟨p2, 0, none⟩), .int .i64 n1, .int .i64 0, .slice none 0 0, .pointer none] 29 (0, 0)) := by rw [hW2]; exact blk_new' (by simp)
    have HB := Lib.hid (show Below w.heap.size w W2 by rw [hW2]; exact below_alloc _ (below_alloc _ (Below.refl _ _)))
    rw [← hW2]
    clear hW2
    have h1 := blk_below h1 HB.out
    have h2 := blk_below h2 HB.out
    have u0 : W2.cell? ⟨p1, 0, none⟩ = some x0 := blk_cell h1 rfl
    have u1 : W2.cell? ⟨p1, 1, none⟩ = some x1 := blk_cell h1 rfl
    have u2 : W2.cell? ⟨p1, 2, none⟩ = some x2 := blk_cell h1 rfl
    have u3 : W2.cell? ⟨p1, 3, none⟩ = some x3 := blk_cell h1 rfl
    have u4 : W2.cell? ⟨p1, 4, none⟩ = some x4 := blk_cell h1 rfl
    have u5 : W2.cell? ⟨p1, 5, none⟩ = some x5 := blk_cell h1 rfl
    have u6 : W2.cell? ⟨p1, 6, none⟩ = some x6 := blk_cell h1 rfl
    have u7 : W2.cell? ⟨p1, 7, none⟩ = some x7 := blk_cell h1 rfl
    have u8 : W2.cell? ⟨p1, 8, none⟩ = some x8 := blk_cell h1 rfl
    have v0 : W2.cell? ⟨p2, 0, none⟩ = some y0 := blk_cell h2 rfl
    have v1 : W2.cell? ⟨p2, 1, none⟩ = some y1 := blk_cell h2 rfl
    have v2 : W2.cell? ⟨p2, 2, none⟩ = some y2 := blk_cell h2 rfl
    have v3 : W2.cell? ⟨p2, 3, none⟩ = some y3 := blk_cell h2 rfl
    have v4 : W2.cell? ⟨p2, 4, none⟩ = some y4 := blk_cell h2 rfl
    have v5 : W2.cell? ⟨p2, 5, none⟩ = some y5 := blk_cell h2 rfl
    have v6 : W2.cell? ⟨p2, 6, none⟩ = some y6 := blk_cell h2 rfl
    have v7 : W2.cell? ⟨p2, 7, none⟩ = some y7 := blk_cell h2 rfl
    have v8 : W2.cell? ⟨p2, 8, none⟩ = some y8 := blk_cell h2 rfl
    have m4 : W2.cell? ⟨w.heap.size, 4, none⟩ = some (.pointer (some ⟨p1, 0, none⟩)) := blk_cell q1 rfl
    have m5 : W2.cell? ⟨w.heap.size, 5, none⟩ = some (.int .i64 n1) := blk_cell q1 rfl
    have n4 : W2.cell? ⟨w.heap.size + 1, 4, none⟩ = some (.pointer (some ⟨p2, 0, none⟩)) := blk_cell q2 rfl
    have n5 : W2.cell? ⟨w.heap.size + 1, 5, none⟩ = some (.int .i64 n1) := blk_cell q2 rfl
    have l1 := blk_lt h1
    have l2 := blk_lt h2
    have l3 := blk_lt q1
    have l4 := blk_lt q2
    clear h1 h2 q1 q2
    refine wp_region_over (by kernel_rfl) (by kernel_rfl) ?_
    repeat (go_big_quiet_step ((go_at_call 8; refine calls_over (Nat.le_refl _) (HI.out _ (HB.out.bt (over_below _ _ _))))))
    refine wpQuiet_nil ?_
    intro w3 hb3
    go_wp2_with fail
    go_returns
    exact ⟨rfl, HB.out.bt hb3⟩
  · have hn2 : (n1 == n2) = false := by simpa using hn
    rw [hn2]
    clear hn
    go_enter Try.func8, Try.ntmps8
    go_wp2_with fail
    obtain ⟨W2, hW2⟩ : ∃ z, z = (w.alloc (.cells #[.int .i64 3, .int .i64 0, .bool false, .bool false, .pointer (some ⟨p1, 0, none⟩), .int .i64 n1, .int .i64 0, .slice none 0 0, .pointer none] 29)).alloc (.cells #[.int .i64 3, .int .i64 0, .bool false, .bool false, .pointer (some ⟨p2, 0, none⟩), .int .i64 n2, .int .i64 0, .slice none 0 0, .pointer none] 29) := ⟨_, rfl⟩
    have q1 : W2.heap[w.heap.size]? = some (.cells #[.int .i64 3, .int .i64 0, .bool false, .bool false, .pointer (some ⟨p1, 0, none⟩), .int .i64 n1, .int .i64 0, .slice none 0 0, .pointer none] 29 (0, 0)) := by rw [hW2]; exact blk_alloc (blk_new w _) _
    have q2 : W2.heap[w.heap.size + 1]? = some (.cells #[.int .i64 3, .int .i64 0, .bool false, .bool false, .pointer (some ⟨p2, 0, none⟩), .int .i64 n2, .int .i64 0, .slice none 0 0, .pointer none] 29 (0, 0)) := by rw [hW2]; exact blk_new' (by simp)
    have HB := Lib.hid (show Below w.heap.size w W2 by rw [hW2]; exact below_alloc _ (below_alloc _ (Below.refl _ _)))
    rw [← hW2]
    clear hW2
    have h1 := blk_below h1 HB.out
    have h2 := blk_below h2 HB.out
    have u0 : W2.cell? ⟨p1, 0, none⟩ = some x0 := blk_cell h1 rfl
    have u1 : W2.cell? ⟨p1, 1, none⟩ = some x1 := blk_cell h1 rfl
    have u2 : W2.cell? ⟨p1, 2, none⟩ = some x2 := blk_cell h1 rfl
    have u3 : W2.cell? ⟨p1, 3, none⟩ = some x3 := blk_cell h1 rfl
    have u4 : W2.cell? ⟨p1, 4, none⟩ = some x4 := blk_cell h1 rfl
    have u5 : W2.cell? ⟨p1, 5, none⟩ = some x5 := blk_cell h1 rfl
    have u6 : W2.cell? ⟨p1, 6, none⟩ = some x6 := blk_cell h1 rfl
    have u7 : W2.cell? ⟨p1, 7, none⟩ = some x7 := blk_cell h1 rfl
    have u8 : W2.cell? ⟨p1, 8, none⟩ = some x8 := blk_cell h1 rfl
    have v0 : W2.cell? ⟨p2, 0, none⟩ = some y0 := blk_cell h2 rfl
    have v1 : W2.cell? ⟨p2, 1, none⟩ = some y1 := blk_cell h2 rfl
    have v2 : W2.cell? ⟨p2, 2, none⟩ = some y2 := blk_cell h2 rfl
    have v3 : W2.cell? ⟨p2, 3, none⟩ = some y3 := blk_cell h2 rfl
    have v4 : W2.cell? ⟨p2, 4, none⟩ = some y4 := blk_cell h2 rfl
    have v5 : W2.cell? ⟨p2, 5, none⟩ = some y5 := blk_cell h2 rfl
    have v6 : W2.cell? ⟨p2, 6, none⟩ = some y6 := blk_cell h2 rfl
    have v7 : W2.cell? ⟨p2, 7, none⟩ = some y7 := blk_cell h2 rfl
    have v8 : W2.cell? ⟨p2, 8, none⟩ = some y8 := blk_cell h2 rfl
    have m4 : W2.cell? ⟨w.heap.size, 4, none⟩ = some (.pointer (some ⟨p1, 0, none⟩)) := blk_cell q1 rfl
    have m5 : W2.cell? ⟨w.heap.size, 5, none⟩ = some (.int .i64 n1) := blk_cell q1 rfl
    have n4 : W2.cell? ⟨w.heap.size + 1, 4, none⟩ = some (.pointer (some ⟨p2, 0, none⟩)) := blk_cell q2 rfl
    have n5 : W2.cell? ⟨w.heap.size + 1, 5, none⟩ = some (.int .i64 n2) := blk_cell q2 rfl
    have l1 := blk_lt h1
    have l2 := blk_lt h2
    have l3 := blk_lt q1
    have l4 := blk_lt q2
    clear h1 h2 q1 q2
    refine wp_region_over (by kernel_rfl) (by kernel_rfl) ?_
    repeat (go_big_quiet_step ((go_at_call 8; refine calls_over (Nat.le_refl _) (HI.out _ (HB.out.bt (over_below _ _ _))))))
    refine wpQuiet_nil ?_
    intro w3 hb3
    go_wp2_with fail
    go_returns
    exact ⟨rfl, HB.out.bt hb3⟩
theorem same_fn (w : World) (p1 p2 g1 g2 k1 k2 : Nat) (x0 x1 x2 x3 x4 x5 x6 x7 x8 y0 y1 y2 y3 y4 y5 y6 y7 y8 a0 a1 a2 a3 a4 a5 a6 a7 a8 b0 b1 b2 b3 b4 b5 b6 b7 b8 c0 c1 c2 c3 c4 c5 c6 c7 c8 d0 d1 d2 d3 d4 d5 d6 d7 d8 : Value) (rr ra rb : Bool) (h1 : w.heap[p1]? = some (.cells #[x0, x1, x2, x3, x4, x5, x6, x7, x8] 29 (0, 0))) (h2 : w.heap[p2]? = some (.cells #[y0, y1, y2, y3, y4, y5, y6, y7, y8] 29 (0, 0)))
    (h3 : w.heap[g1]? = some (.cells #[a0, a1, a2, a3, a4, a5, a6, a7, a8, b0, b1, b2, b3, b4, b5, b6, b7, b8] 29 (0, 0))) (h4 : w.heap[g2]? = some (.cells #[c0, c1, c2, c3, c4, c5, c6, c7, c8, d0, d1, d2, d3, d4, d5, d6, d7, d8] 29 (0, 0)))
    (hR : ∀ W, Below w.heap.size w W → Calls Try.prog 8 #[.agg #[x0, x1, x2, x3, x4, x5, x6, x7, x8], .agg #[y0, y1, y2, y3, y4, y5, y6, y7, y8]] W fun e w' => e = .returned (.bool rr) ∧ Below W.heap.size W w')
    (hA : ∀ W, Below w.heap.size w W → Calls Try.prog 8 #[.agg #[a0, a1, a2, a3, a4, a5, a6, a7, a8], .agg #[c0, c1, c2, c3, c4, c5, c6, c7, c8]] W fun e w' => e = .returned (.bool ra) ∧ Below W.heap.size W w')
    (hB : ∀ W, Below w.heap.size w W → Calls Try.prog 8 #[.agg #[b0, b1, b2, b3, b4, b5, b6, b7, b8], .agg #[d0, d1, d2, d3, d4, d5, d6, d7, d8]] W fun e w' => e = .returned (.bool rb) ∧ Below W.heap.size W w') : Calls Try.prog 8 #[.agg #[.int .i64 5, .int .i64 0, .bool false, .bool false, .pointer none, .int .i64 0, .int .i64 0, .slice (some ⟨g1, 0, none⟩) 2 k1, .pointer (some ⟨p1, 0, none⟩)], .agg #[.int .i64 5, .int .i64 0, .bool false, .bool false, .pointer none, .int .i64 0, .int .i64 0, .slice (some ⟨g2, 0, none⟩) 2 k2, .pointer (some ⟨p2, 0, none⟩)]] w fun e w' => e = .returned (.bool (rr && ra && rb)) ∧ Below w.heap.size w w' := by
  have HR := Lib.hid hR
  have HA := Lib.hid hA
  have HBB := Lib.hid hB
  clear hR hA hB
  cases rr
  · simp only [Bool.false_and]
    go_enter Try.func8, Try.ntmps8
    go_wp2_with fail
    obtain ⟨W2, hW2⟩ : ∃ z, z = (w.alloc (.cells #[.int .i64 5, .int .i64 0, .bool false, .bool false, .pointer none, .int .i64 0, .int .i64 0, .slice (some ⟨g1, 0, none⟩) 2 k1, .pointer (some ⟨p1, 0, none⟩)] 29)).alloc (.cells #[.int .i64 5, .int .i64 0, .bool false, .bool false, .pointer none, .int .i64 0, .int .i64 0, .slice (some ⟨g2, 0, none⟩) 2 k2, .pointer (some ⟨p2, 0, none⟩)] 29) := ⟨_, rfl⟩
    have HQ1 := Lib.hid (show W2.heap[w.heap.size]? = some (.cells #[.int .i64 5, .int .i64 0, .bool false, .bool false, .pointer none, .int .i64 0, .int .i64 0, .slice (some ⟨g1, 0, none⟩) 2 k1, .pointer (some ⟨p1, 0, none⟩)] 29 (0, 0)) by rw [hW2]; exact blk_alloc (blk_new w _) _)
    have HQ2 := Lib.hid (show W2.heap[w.heap.size + 1]? = some (.cells #[.int .i64 5, .int .i64 0, .bool false, .bool false, .pointer none, .int .i64 0, .int .i64 0, .slice (some ⟨g2, 0, none⟩) 2 k2, .pointer (some ⟨p2, 0, none⟩)] 29 (0, 0)) by rw [hW2]; exact blk_new' (by simp))
    have HB := Lib.hid (show Below w.heap.size w W2 by rw [hW2]; exact below_alloc _ (below_alloc _ (Below.refl _ _)))
    rw [← hW2]
    clear hW2
    have H1 := Lib.hid (blk_below h1 HB.out)
    have H2 := Lib.hid (blk_below h2 HB.out)
    have H3 := Lib.hid (blk_below h3 HB.out)
    have H4 := Lib.hid (blk_below h4 HB.out)
    clear h1 h2 h3 h4
    have u0 : W2.cell? ⟨p1, 0, none⟩ = some x0 := blk_cell H1.out rfl
    have u1 : W2.cell? ⟨p1, 1, none⟩ = some x1 := blk_cell H1.out rfl
    have u2 : W2.cell? ⟨p1, 2, none⟩ = some x2 := blk_cell H1.out rfl
    have u3 : W2.cell? ⟨p1, 3, none⟩ = some x3 := blk_cell H1.out rfl
    have u4 : W2.cell? ⟨p1, 4, none⟩ = some x4 := blk_cell H1.out rfl
    have u5 : W2.cell? ⟨p1, 5, none⟩ = some x5 := blk_cell H1.out rfl
    have u6 : W2.cell? ⟨p1, 6, none⟩ = some x6 := blk_cell H1.out rfl
    have u7 : W2.cell? ⟨p1, 7, none⟩ = some x7 := blk_cell H1.out rfl
    have u8 : W2.cell? ⟨p1, 8, none⟩ = some x8 := blk_cell H1.out rfl
    have v0 : W2.cell? ⟨p2, 0, none⟩ = some y0 := blk_cell H2.out rfl
    have v1 : W2.cell? ⟨p2, 1, none⟩ = some y1 := blk_cell H2.out rfl
    have v2 : W2.cell? ⟨p2, 2, none⟩ = some y2 := blk_cell H2.out rfl
    have v3 : W2.cell? ⟨p2, 3, none⟩ = some y3 := blk_cell H2.out rfl
    have v4 : W2.cell? ⟨p2, 4, none⟩ = some y4 := blk_cell H2.out rfl
    have v5 : W2.cell? ⟨p2, 5, none⟩ = some y5 := blk_cell H2.out rfl
    have v6 : W2.cell? ⟨p2, 6, none⟩ = some y6 := blk_cell H2.out rfl
    have v7 : W2.cell? ⟨p2, 7, none⟩ = some y7 := blk_cell H2.out rfl
    have v8 : W2.cell? ⟨p2, 8, none⟩ = some y8 := blk_cell H2.out rfl
    have m7 : W2.cell? ⟨w.heap.size, 7, none⟩ = some (.slice (some ⟨g1, 0, none⟩) 2 k1) := blk_cell HQ1.out rfl
    have n7 : W2.cell? ⟨w.heap.size + 1, 7, none⟩ = some (.slice (some ⟨g2, 0, none⟩) 2 k2) := blk_cell HQ2.out rfl
    have m8 : W2.cell? ⟨w.heap.size, 8, none⟩ = some (.pointer (some ⟨p1, 0, none⟩)) := blk_cell HQ1.out rfl
    have n8 : W2.cell? ⟨w.heap.size + 1, 8, none⟩ = some (.pointer (some ⟨p2, 0, none⟩)) := blk_cell HQ2.out rfl
    have l1 := blk_lt H1.out
    have l2 := blk_lt H2.out
    have l3 := blk_lt HQ1.out
    have l4 := blk_lt HQ2.out
    refine wp_region_over (by kernel_rfl) (by kernel_rfl) ?_
    repeat (go_big_quiet_step ((go_at_call 8; refine calls_over (Nat.le_refl _) (HR.out _ (HB.out.bt (over_below _ _ _))))))
    refine wpQuiet_nil ?_
    intro w3 hb3
    replace HB := Lib.hid (HB.out.bt hb3)
    replace HQ1 := Lib.hid (blk_below HQ1.out hb3)
    replace HQ2 := Lib.hid (blk_below HQ2.out hb3)
    replace H1 := Lib.hid (blk_below H1.out hb3)
    replace H2 := Lib.hid (blk_below H2.out hb3)
    replace H3 := Lib.hid (blk_below H3.out hb3)
    replace H4 := Lib.hid (blk_below H4.out hb3)
    clear hb3
    clear u0 v0 u1 v1 u2 v2 u3 v3 u4 v4 u5 v5 u6 v6 u7 v7 u8 v8 m7 n7 m8 n8 l1 l2 l3 l4
    go_wp2_with fail
    go_returns
    exact ⟨rfl, HB.out⟩
  cases ra
  · simp only [Bool.true_and, Bool.false_and]
    go_enter Try.func8, Try.ntmps8
    go_wp2_with fail
    obtain ⟨W2, hW2⟩ : ∃ z, z = (w.alloc (.cells #[.int .i64 5, .int .i64 0, .bool false, .bool false, .pointer none, .int .i64 0, .int .i64 0, .slice (some ⟨g1, 0, none⟩) 2 k1, .pointer (some ⟨p1, 0, none⟩)] 29)).alloc (.cells #[.int .i64 5, .int .i64 0, .bool false, .bool false, .pointer none, .int .i64 0, .int .i64 0, .slice (some ⟨g2, 0, none⟩) 2 k2, .pointer (some ⟨p2, 0, none⟩)] 29) := ⟨_, rfl⟩
    have HQ1 := Lib.hid (show W2.heap[w.heap.size]? = some (.cells #[.int .i64 5, .int .i64 0, .bool false, .bool false, .pointer none, .int .i64 0, .int .i64 0, .slice (some ⟨g1, 0, none⟩) 2 k1, .pointer (some ⟨p1, 0, none⟩)] 29 (0, 0)) by rw [hW2]; exact blk_alloc (blk_new w _) _)
    have HQ2 := Lib.hid (show W2.heap[w.heap.size + 1]? = some (.cells #[.int .i64 5, .int .i64 0, .bool false, .bool false, .pointer none, .int .i64 0, .int .i64 0, .slice (some ⟨g2, 0, none⟩) 2 k2, .pointer (some ⟨p2, 0, none⟩)] 29 (0, 0)) by rw [hW2]; exact blk_new' (by simp))
    have HB := Lib.hid (show Below w.heap.size w W2 by rw [hW2]; exact below_alloc _ (below_alloc _ (Below.refl _ _)))
    rw [← hW2]
    clear hW2
    have H1 := Lib.hid (blk_below h1 HB.out)
    have H2 := Lib.hid (blk_below h2 HB.out)
    have H3 := Lib.hid (blk_below h3 HB.out)
    have H4 := Lib.hid (blk_below h4 HB.out)
    clear h1 h2 h3 h4
    have u0 : W2.cell? ⟨p1, 0, none⟩ = some x0 := blk_cell H1.out rfl
    have u1 : W2.cell? ⟨p1, 1, none⟩ = some x1 := blk_cell H1.out rfl
    have u2 : W2.cell? ⟨p1, 2, none⟩ = some x2 := blk_cell H1.out rfl
    have u3 : W2.cell? ⟨p1, 3, none⟩ = some x3 := blk_cell H1.out rfl
    have u4 : W2.cell? ⟨p1, 4, none⟩ = some x4 := blk_cell H1.out rfl
    have u5 : W2.cell? ⟨p1, 5, none⟩ = some x5 := blk_cell H1.out rfl
    have u6 : W2.cell? ⟨p1, 6, none⟩ = some x6 := blk_cell H1.out rfl
    have u7 : W2.cell? ⟨p1, 7, none⟩ = some x7 := blk_cell H1.out rfl
    have u8 : W2.cell? ⟨p1, 8, none⟩ = some x8 := blk_cell H1.out rfl
    have v0 : W2.cell? ⟨p2, 0, none⟩ = some y0 := blk_cell H2.out rfl
    have v1 : W2.cell? ⟨p2, 1, none⟩ = some y1 := blk_cell H2.out rfl
    have v2 : W2.cell? ⟨p2, 2, none⟩ = some y2 := blk_cell H2.out rfl
    have v3 : W2.cell? ⟨p2, 3, none⟩ = some y3 := blk_cell H2.out rfl
    have v4 : W2.cell? ⟨p2, 4, none⟩ = some y4 := blk_cell H2.out rfl
    have v5 : W2.cell? ⟨p2, 5, none⟩ = some y5 := blk_cell H2.out rfl
    have v6 : W2.cell? ⟨p2, 6, none⟩ = some y6 := blk_cell H2.out rfl
    have v7 : W2.cell? ⟨p2, 7, none⟩ = some y7 := blk_cell H2.out rfl
    have v8 : W2.cell? ⟨p2, 8, none⟩ = some y8 := blk_cell H2.out rfl
    have m7 : W2.cell? ⟨w.heap.size, 7, none⟩ = some (.slice (some ⟨g1, 0, none⟩) 2 k1) := blk_cell HQ1.out rfl
    have n7 : W2.cell? ⟨w.heap.size + 1, 7, none⟩ = some (.slice (some ⟨g2, 0, none⟩) 2 k2) := blk_cell HQ2.out rfl
    have m8 : W2.cell? ⟨w.heap.size, 8, none⟩ = some (.pointer (some ⟨p1, 0, none⟩)) := blk_cell HQ1.out rfl
    have n8 : W2.cell? ⟨w.heap.size + 1, 8, none⟩ = some (.pointer (some ⟨p2, 0, none⟩)) := blk_cell HQ2.out rfl
    have l1 := blk_lt H1.out
    have l2 := blk_lt H2.out
    have l3 := blk_lt HQ1.out
    have l4 := blk_lt HQ2.out
    refine wp_region_over (by kernel_rfl) (by kernel_rfl) ?_
    repeat (go_big_quiet_step ((go_at_call 8; refine calls_over (Nat.le_refl _) (HR.out _ (HB.out.bt (over_below _ _ _))))))
    refine wpQuiet_nil ?_
    intro w3 hb3
    replace HB := Lib.hid (HB.out.bt hb3)
    replace HQ1 := Lib.hid (blk_below HQ1.out hb3)
    replace HQ2 := Lib.hid (blk_below HQ2.out hb3)
    replace H1 := Lib.hid (blk_below H1.out hb3)
    replace H2 := Lib.hid (blk_below H2.out hb3)
    replace H3 := Lib.hid (blk_below H3.out hb3)
    replace H4 := Lib.hid (blk_below H4.out hb3)
    clear hb3
    clear u0 v0 u1 v1 u2 v2 u3 v3 u4 v4 u5 v5 u6 v6 u7 v7 u8 v8 m7 n7 m8 n8 l1 l2 l3 l4
    have m7 : w3.cell? ⟨w.heap.size, 7, none⟩ = some (.slice (some ⟨g1, 0, none⟩) 2 k1) := blk_cell HQ1.out rfl
    have n7 : w3.cell? ⟨w.heap.size + 1, 7, none⟩ = some (.slice (some ⟨g2, 0, none⟩) 2 k2) := blk_cell HQ2.out rfl
    have l3 := blk_lt HQ1.out
    have l4 := blk_lt HQ2.out
    go_wp2_with fail
    clear m7 n7 l3 l4
    obtain ⟨wa, rfl⟩ : ∃ z : World, z = w3 := ⟨_, rfl⟩
    refine wp_loop_rounds 3 ?_
    rw [rounds_succ]
    have u0 : wa.cell? ⟨g1, 0, none⟩ = some a0 := blk_cell H3.out rfl
    have u1 : wa.cell? ⟨g1, 1, none⟩ = some a1 := blk_cell H3.out rfl
    have u2 : wa.cell? ⟨g1, 2, none⟩ = some a2 := blk_cell H3.out rfl
    have u3 : wa.cell? ⟨g1, 3, none⟩ = some a3 := blk_cell H3.out rfl
    have u4 : wa.cell? ⟨g1, 4, none⟩ = some a4 := blk_cell H3.out rfl
    have u5 : wa.cell? ⟨g1, 5, none⟩ = some a5 := blk_cell H3.out rfl
    have u6 : wa.cell? ⟨g1, 6, none⟩ = some a6 := blk_cell H3.out rfl
    have u7 : wa.cell? ⟨g1, 7, none⟩ = some a7 := blk_cell H3.out rfl
    have u8 : wa.cell? ⟨g1, 8, none⟩ = some a8 := blk_cell H3.out rfl
    have v0 : wa.cell? ⟨g2, 0, none⟩ = some c0 := blk_cell H4.out rfl
    have v1 : wa.cell? ⟨g2, 1, none⟩ = some c1 := blk_cell H4.out rfl
    have v2 : wa.cell? ⟨g2, 2, none⟩ = some c2 := blk_cell H4.out rfl
    have v3 : wa.cell? ⟨g2, 3, none⟩ = some c3 := blk_cell H4.out rfl
    have v4 : wa.cell? ⟨g2, 4, none⟩ = some c4 := blk_cell H4.out rfl
    have v5 : wa.cell? ⟨g2, 5, none⟩ = some c5 := blk_cell H4.out rfl
    have v6 : wa.cell? ⟨g2, 6, none⟩ = some c6 := blk_cell H4.out rfl
    have v7 : wa.cell? ⟨g2, 7, none⟩ = some c7 := blk_cell H4.out rfl
    have v8 : wa.cell? ⟨g2, 8, none⟩ = some c8 := blk_cell H4.out rfl
    have m7 : wa.cell? ⟨w.heap.size, 7, none⟩ = some (.slice (some ⟨g1, 0, none⟩) 2 k1) := blk_cell HQ1.out rfl
    have n7 : wa.cell? ⟨w.heap.size + 1, 7, none⟩ = some (.slice (some ⟨g2, 0, none⟩) 2 k2) := blk_cell HQ2.out rfl
    have m8 : wa.cell? ⟨w.heap.size, 8, none⟩ = some (.pointer (some ⟨p1, 0, none⟩)) := blk_cell HQ1.out rfl
    have n8 : wa.cell? ⟨w.heap.size + 1, 8, none⟩ = some (.pointer (some ⟨p2, 0, none⟩)) := blk_cell HQ2.out rfl
    have l1 := blk_lt H3.out
    have l2 := blk_lt H4.out
    have l3 := blk_lt HQ1.out
    have l4 := blk_lt HQ2.out
    go_wp2_with fail
    refine wp_region_over (by kernel_rfl) (by kernel_rfl) ?_
    repeat (go_big_quiet_step ((go_at_call 8; refine calls_over (Nat.le_refl _) (HA.out _ (HB.out.bt (over_below _ _ _))))))
    refine wpQuiet_nil ?_
    intro w3 hb3
    replace HB := Lib.hid (HB.out.bt hb3)
    replace HQ1 := Lib.hid (blk_below HQ1.out hb3)
    replace HQ2 := Lib.hid (blk_below HQ2.out hb3)
    replace H1 := Lib.hid (blk_below H1.out hb3)
    replace H2 := Lib.hid (blk_below H2.out hb3)
    replace H3 := Lib.hid (blk_below H3.out hb3)
    replace H4 := Lib.hid (blk_below H4.out hb3)
    clear hb3
    clear u0 v0 u1 v1 u2 v2 u3 v3 u4 v4 u5 v5 u6 v6 u7 v7 u8 v8 m7 n7 m8 n8 l1 l2 l3 l4
    go_wp2_with fail
    go_returns
    exact ⟨rfl, HB.out⟩
  cases rb
  · simp only [Bool.true_and]
    go_enter Try.func8, Try.ntmps8
    go_wp2_with fail
    obtain ⟨W2, hW2⟩ : ∃ z, z = (w.alloc (.cells #[.int .i64 5, .int .i64 0, .bool false, .bool false, .pointer none, .int .i64 0, .int .i64 0, .slice (some ⟨g1, 0, none⟩) 2 k1, .pointer (some ⟨p1, 0, none⟩)] 29)).alloc (.cells #[.int .i64 5, .int .i64 0, .bool false, .bool false, .pointer none, .int .i64 0, .int .i64 0, .slice (some ⟨g2, 0, none⟩) 2 k2, .pointer (some ⟨p2, 0, none⟩)] 29) := ⟨_, rfl⟩
    have HQ1 := Lib.hid (show W2.heap[w.heap.size]? = some (.cells #[.int .i64 5, .int .i64 0, .bool false, .bool false, .pointer none, .int .i64 0, .int .i64 0, .slice (some ⟨g1, 0, none⟩) 2 k1, .pointer (some ⟨p1, 0, none⟩)] 29 (0, 0)) by rw [hW2]; exact blk_alloc (blk_new w _) _)
    have HQ2 := Lib.hid (show W2.heap[w.heap.size + 1]? = some (.cells #[.int .i64 5, .int .i64 0, .bool false, .bool false, .pointer none, .int .i64 0, .int .i64 0, .slice (some ⟨g2, 0, none⟩) 2 k2, .pointer (some ⟨p2, 0, none⟩)] 29 (0, 0)) by rw [hW2]; exact blk_new' (by simp))
    have HB := Lib.hid (show Below w.heap.size w W2 by rw [hW2]; exact below_alloc _ (below_alloc _ (Below.refl _ _)))
    rw [← hW2]
    clear hW2
    have H1 := Lib.hid (blk_below h1 HB.out)
    have H2 := Lib.hid (blk_below h2 HB.out)
    have H3 := Lib.hid (blk_below h3 HB.out)
    have H4 := Lib.hid (blk_below h4 HB.out)
    clear h1 h2 h3 h4
    have u0 : W2.cell? ⟨p1, 0, none⟩ = some x0 := blk_cell H1.out rfl
    have u1 : W2.cell? ⟨p1, 1, none⟩ = some x1 := blk_cell H1.out rfl
    have u2 : W2.cell? ⟨p1, 2, none⟩ = some x2 := blk_cell H1.out rfl
    have u3 : W2.cell? ⟨p1, 3, none⟩ = some x3 := blk_cell H1.out rfl
    have u4 : W2.cell? ⟨p1, 4, none⟩ = some x4 := blk_cell H1.out rfl
    have u5 : W2.cell? ⟨p1, 5, none⟩ = some x5 := blk_cell H1.out rfl
    have u6 : W2.cell? ⟨p1, 6, none⟩ = some x6 := blk_cell H1.out rfl
    have u7 : W2.cell? ⟨p1, 7, none⟩ = some x7 := blk_cell H1.out rfl
    have u8 : W2.cell? ⟨p1, 8, none⟩ = some x8 := blk_cell H1.out rfl
    have v0 : W2.cell? ⟨p2, 0, none⟩ = some y0 := blk_cell H2.out rfl
    have v1 : W2.cell? ⟨p2, 1, none⟩ = some y1 := blk_cell H2.out rfl
    have v2 : W2.cell? ⟨p2, 2, none⟩ = some y2 := blk_cell H2.out rfl
    have v3 : W2.cell? ⟨p2, 3, none⟩ = some y3 := blk_cell H2.out rfl
    have v4 : W2.cell? ⟨p2, 4, none⟩ = some y4 := blk_cell H2.out rfl
    have v5 : W2.cell? ⟨p2, 5, none⟩ = some y5 := blk_cell H2.out rfl
    have v6 : W2.cell? ⟨p2, 6, none⟩ = some y6 := blk_cell H2.out rfl
    have v7 : W2.cell? ⟨p2, 7, none⟩ = some y7 := blk_cell H2.out rfl
    have v8 : W2.cell? ⟨p2, 8, none⟩ = some y8 := blk_cell H2.out rfl
    have m7 : W2.cell? ⟨w.heap.size, 7, none⟩ = some (.slice (some ⟨g1, 0, none⟩) 2 k1) := blk_cell HQ1.out rfl
    have n7 : W2.cell? ⟨w.heap.size + 1, 7, none⟩ = some (.slice (some ⟨g2, 0, none⟩) 2 k2) := blk_cell HQ2.out rfl
    have m8 : W2.cell? ⟨w.heap.size, 8, none⟩ = some (.pointer (some ⟨p1, 0, none⟩)) := blk_cell HQ1.out rfl
    have n8 : W2.cell? ⟨w.heap.size + 1, 8, none⟩ = some (.pointer (some ⟨p2, 0, none⟩)) := blk_cell HQ2.out rfl
    have l1 := blk_lt H1.out
    have l2 := blk_lt H2.out
    have l3 := blk_lt HQ1.out
    have l4 := blk_lt HQ2.out
    refine wp_region_over (by kernel_rfl) (by kernel_rfl) ?_
    repeat (go_big_quiet_step ((go_at_call 8; refine calls_over (Nat.le_refl _) (HR.out _ (HB.out.bt (over_below _ _ _))))))
    refine wpQuiet_nil ?_
    intro w3 hb3
    replace HB := Lib.hid (HB.out.bt hb3)
    replace HQ1 := Lib.hid (blk_below HQ1.out hb3)
    replace HQ2 := Lib.hid (blk_below HQ2.out hb3)
    replace H1 := Lib.hid (blk_below H1.out hb3)
    replace H2 := Lib.hid (blk_below H2.out hb3)
    replace H3 := Lib.hid (blk_below H3.out hb3)
    replace H4 := Lib.hid (blk_below H4.out hb3)
    clear hb3
    clear u0 v0 u1 v1 u2 v2 u3 v3 u4 v4 u5 v5 u6 v6 u7 v7 u8 v8 m7 n7 m8 n8 l1 l2 l3 l4
    have m7 : w3.cell? ⟨w.heap.size, 7, none⟩ = some (.slice (some ⟨g1, 0, none⟩) 2 k1) := blk_cell HQ1.out rfl
    have n7 : w3.cell? ⟨w.heap.size + 1, 7, none⟩ = some (.slice (some ⟨g2, 0, none⟩) 2 k2) := blk_cell HQ2.out rfl
    have l3 := blk_lt HQ1.out
    have l4 := blk_lt HQ2.out
    go_wp2_with fail
    clear m7 n7 l3 l4
    obtain ⟨wa, rfl⟩ : ∃ z : World, z = w3 := ⟨_, rfl⟩
    refine wp_loop_rounds 3 ?_
    rw [rounds_succ]
    have u0 : wa.cell? ⟨g1, 0, none⟩ = some a0 := blk_cell H3.out rfl
    have u1 : wa.cell? ⟨g1, 1, none⟩ = some a1 := blk_cell H3.out rfl
    have u2 : wa.cell? ⟨g1, 2, none⟩ = some a2 := blk_cell H3.out rfl
    have u3 : wa.cell? ⟨g1, 3, none⟩ = some a3 := blk_cell H3.out rfl
    have u4 : wa.cell? ⟨g1, 4, none⟩ = some a4 := blk_cell H3.out rfl
    have u5 : wa.cell? ⟨g1, 5, none⟩ = some a5 := blk_cell H3.out rfl
    have u6 : wa.cell? ⟨g1, 6, none⟩ = some a6 := blk_cell H3.out rfl
    have u7 : wa.cell? ⟨g1, 7, none⟩ = some a7 := blk_cell H3.out rfl
    have u8 : wa.cell? ⟨g1, 8, none⟩ = some a8 := blk_cell H3.out rfl
    have v0 : wa.cell? ⟨g2, 0, none⟩ = some c0 := blk_cell H4.out rfl
    have v1 : wa.cell? ⟨g2, 1, none⟩ = some c1 := blk_cell H4.out rfl
    have v2 : wa.cell? ⟨g2, 2, none⟩ = some c2 := blk_cell H4.out rfl
    have v3 : wa.cell? ⟨g2, 3, none⟩ = some c3 := blk_cell H4.out rfl
    have v4 : wa.cell? ⟨g2, 4, none⟩ = some c4 := blk_cell H4.out rfl
    have v5 : wa.cell? ⟨g2, 5, none⟩ = some c5 := blk_cell H4.out rfl
    have v6 : wa.cell? ⟨g2, 6, none⟩ = some c6 := blk_cell H4.out rfl
    have v7 : wa.cell? ⟨g2, 7, none⟩ = some c7 := blk_cell H4.out rfl
    have v8 : wa.cell? ⟨g2, 8, none⟩ = some c8 := blk_cell H4.out rfl
    have m7 : wa.cell? ⟨w.heap.size, 7, none⟩ = some (.slice (some ⟨g1, 0, none⟩) 2 k1) := blk_cell HQ1.out rfl
    have n7 : wa.cell? ⟨w.heap.size + 1, 7, none⟩ = some (.slice (some ⟨g2, 0, none⟩) 2 k2) := blk_cell HQ2.out rfl
    have m8 : wa.cell? ⟨w.heap.size, 8, none⟩ = some (.pointer (some ⟨p1, 0, none⟩)) := blk_cell HQ1.out rfl
    have n8 : wa.cell? ⟨w.heap.size + 1, 8, none⟩ = some (.pointer (some ⟨p2, 0, none⟩)) := blk_cell HQ2.out rfl
    have l1 := blk_lt H3.out
    have l2 := blk_lt H4.out
    have l3 := blk_lt HQ1.out
    have l4 := blk_lt HQ2.out
    go_wp2_with fail
    refine wp_region_over (by kernel_rfl) (by kernel_rfl) ?_
    repeat (go_big_quiet_step ((go_at_call 8; refine calls_over (Nat.le_refl _) (HA.out _ (HB.out.bt (over_below _ _ _))))))
    refine wpQuiet_nil ?_
    intro w3 hb3
    replace HB := Lib.hid (HB.out.bt hb3)
    replace HQ1 := Lib.hid (blk_below HQ1.out hb3)
    replace HQ2 := Lib.hid (blk_below HQ2.out hb3)
    replace H1 := Lib.hid (blk_below H1.out hb3)
    replace H2 := Lib.hid (blk_below H2.out hb3)
    replace H3 := Lib.hid (blk_below H3.out hb3)
    replace H4 := Lib.hid (blk_below H4.out hb3)
    clear hb3
    clear u0 v0 u1 v1 u2 v2 u3 v3 u4 v4 u5 v5 u6 v6 u7 v7 u8 v8 m7 n7 m8 n8 l1 l2 l3 l4
    go_wp2_with fail
    obtain ⟨wb, rfl⟩ : ∃ z : World, z = w3 := ⟨_, rfl⟩
    rw [rounds_succ]
    have u0 : wb.cell? ⟨g1, 9, none⟩ = some b0 := blk_cell H3.out rfl
    have u1 : wb.cell? ⟨g1, 10, none⟩ = some b1 := blk_cell H3.out rfl
    have u2 : wb.cell? ⟨g1, 11, none⟩ = some b2 := blk_cell H3.out rfl
    have u3 : wb.cell? ⟨g1, 12, none⟩ = some b3 := blk_cell H3.out rfl
    have u4 : wb.cell? ⟨g1, 13, none⟩ = some b4 := blk_cell H3.out rfl
    have u5 : wb.cell? ⟨g1, 14, none⟩ = some b5 := blk_cell H3.out rfl
    have u6 : wb.cell? ⟨g1, 15, none⟩ = some b6 := blk_cell H3.out rfl
    have u7 : wb.cell? ⟨g1, 16, none⟩ = some b7 := blk_cell H3.out rfl
    have u8 : wb.cell? ⟨g1, 17, none⟩ = some b8 := blk_cell H3.out rfl
    have v0 : wb.cell? ⟨g2, 9, none⟩ = some d0 := blk_cell H4.out rfl
    have v1 : wb.cell? ⟨g2, 10, none⟩ = some d1 := blk_cell H4.out rfl
    have v2 : wb.cell? ⟨g2, 11, none⟩ = some d2 := blk_cell H4.out rfl
    have v3 : wb.cell? ⟨g2, 12, none⟩ = some d3 := blk_cell H4.out rfl
    have v4 : wb.cell? ⟨g2, 13, none⟩ = some d4 := blk_cell H4.out rfl
    have v5 : wb.cell? ⟨g2, 14, none⟩ = some d5 := blk_cell H4.out rfl
    have v6 : wb.cell? ⟨g2, 15, none⟩ = some d6 := blk_cell H4.out rfl
    have v7 : wb.cell? ⟨g2, 16, none⟩ = some d7 := blk_cell H4.out rfl
    have v8 : wb.cell? ⟨g2, 17, none⟩ = some d8 := blk_cell H4.out rfl
    have m7 : wb.cell? ⟨w.heap.size, 7, none⟩ = some (.slice (some ⟨g1, 0, none⟩) 2 k1) := blk_cell HQ1.out rfl
    have n7 : wb.cell? ⟨w.heap.size + 1, 7, none⟩ = some (.slice (some ⟨g2, 0, none⟩) 2 k2) := blk_cell HQ2.out rfl
    have m8 : wb.cell? ⟨w.heap.size, 8, none⟩ = some (.pointer (some ⟨p1, 0, none⟩)) := blk_cell HQ1.out rfl
    have n8 : wb.cell? ⟨w.heap.size + 1, 8, none⟩ = some (.pointer (some ⟨p2, 0, none⟩)) := blk_cell HQ2.out rfl
    have l1 := blk_lt H3.out
    have l2 := blk_lt H4.out
    have l3 := blk_lt HQ1.out
    have l4 := blk_lt HQ2.out
    go_wp2_with fail
    refine wp_region_over (by kernel_rfl) (by kernel_rfl) ?_
    repeat (go_big_quiet_step ((go_at_call 8; refine calls_over (Nat.le_refl _) (HBB.out _ (HB.out.bt (over_below _ _ _))))))
    refine wpQuiet_nil ?_
    intro w3 hb3
    replace HB := Lib.hid (HB.out.bt hb3)
    replace HQ1 := Lib.hid (blk_below HQ1.out hb3)
    replace HQ2 := Lib.hid (blk_below HQ2.out hb3)
    replace H1 := Lib.hid (blk_below H1.out hb3)
    replace H2 := Lib.hid (blk_below H2.out hb3)
    replace H3 := Lib.hid (blk_below H3.out hb3)
    replace H4 := Lib.hid (blk_below H4.out hb3)
    clear hb3
    clear u0 v0 u1 v1 u2 v2 u3 v3 u4 v4 u5 v5 u6 v6 u7 v7 u8 v8 m7 n7 m8 n8 l1 l2 l3 l4
    go_wp2_with fail
    go_returns
    exact ⟨rfl, HB.out⟩
  · simp only [Bool.true_and]
    go_enter Try.func8, Try.ntmps8
    go_wp2_with fail
    obtain ⟨W2, hW2⟩ : ∃ z, z = (w.alloc (.cells #[.int .i64 5, .int .i64 0, .bool false, .bool false, .pointer none, .int .i64 0, .int .i64 0, .slice (some ⟨g1, 0, none⟩) 2 k1, .pointer (some ⟨p1, 0, none⟩)] 29)).alloc (.cells #[.int .i64 5, .int .i64 0, .bool false, .bool false, .pointer none, .int .i64 0, .int .i64 0, .slice (some ⟨g2, 0, none⟩) 2 k2, .pointer (some ⟨p2, 0, none⟩)] 29) := ⟨_, rfl⟩
    have HQ1 := Lib.hid (show W2.heap[w.heap.size]? = some (.cells #[.int .i64 5, .int .i64 0, .bool false, .bool false, .pointer none, .int .i64 0, .int .i64 0, .slice (some ⟨g1, 0, none⟩) 2 k1, .pointer (some ⟨p1, 0, none⟩)] 29 (0, 0)) by rw [hW2]; exact blk_alloc (blk_new w _) _)
    have HQ2 := Lib.hid (show W2.heap[w.heap.size + 1]? = some (.cells #[.int .i64 5, .int .i64 0, .bool false, .bool false, .pointer none, .int .i64 0, .int .i64 0, .slice (some ⟨g2, 0, none⟩) 2 k2, .pointer (some ⟨p2, 0, none⟩)] 29 (0, 0)) by rw [hW2]; exact blk_new' (by simp))
    have HB := Lib.hid (show Below w.heap.size w W2 by rw [hW2]; exact below_alloc _ (below_alloc _ (Below.refl _ _)))
    rw [← hW2]
    clear hW2
    have H1 := Lib.hid (blk_below h1 HB.out)
    have H2 := Lib.hid (blk_below h2 HB.out)
    have H3 := Lib.hid (blk_below h3 HB.out)
    have H4 := Lib.hid (blk_below h4 HB.out)
    clear h1 h2 h3 h4
    have u0 : W2.cell? ⟨p1, 0, none⟩ = some x0 := blk_cell H1.out rfl
    have u1 : W2.cell? ⟨p1, 1, none⟩ = some x1 := blk_cell H1.out rfl
    have u2 : W2.cell? ⟨p1, 2, none⟩ = some x2 := blk_cell H1.out rfl
    have u3 : W2.cell? ⟨p1, 3, none⟩ = some x3 := blk_cell H1.out rfl
    have u4 : W2.cell? ⟨p1, 4, none⟩ = some x4 := blk_cell H1.out rfl
    have u5 : W2.cell? ⟨p1, 5, none⟩ = some x5 := blk_cell H1.out rfl
    have u6 : W2.cell? ⟨p1, 6, none⟩ = some x6 := blk_cell H1.out rfl
    have u7 : W2.cell? ⟨p1, 7, none⟩ = some x7 := blk_cell H1.out rfl
    have u8 : W2.cell? ⟨p1, 8, none⟩ = some x8 := blk_cell H1.out rfl
    have v0 : W2.cell? ⟨p2, 0, none⟩ = some y0 := blk_cell H2.out rfl
    have v1 : W2.cell? ⟨p2, 1, none⟩ = some y1 := blk_cell H2.out rfl
    have v2 : W2.cell? ⟨p2, 2, none⟩ = some y2 := blk_cell H2.out rfl
    have v3 : W2.cell? ⟨p2, 3, none⟩ = some y3 := blk_cell H2.out rfl
    have v4 : W2.cell? ⟨p2, 4, none⟩ = some y4 := blk_cell H2.out rfl
    have v5 : W2.cell? ⟨p2, 5, none⟩ = some y5 := blk_cell H2.out rfl
    have v6 : W2.cell? ⟨p2, 6, none⟩ = some y6 := blk_cell H2.out rfl
    have v7 : W2.cell? ⟨p2, 7, none⟩ = some y7 := blk_cell H2.out rfl
    have v8 : W2.cell? ⟨p2, 8, none⟩ = some y8 := blk_cell H2.out rfl
    have m7 : W2.cell? ⟨w.heap.size, 7, none⟩ = some (.slice (some ⟨g1, 0, none⟩) 2 k1) := blk_cell HQ1.out rfl
    have n7 : W2.cell? ⟨w.heap.size + 1, 7, none⟩ = some (.slice (some ⟨g2, 0, none⟩) 2 k2) := blk_cell HQ2.out rfl
    have m8 : W2.cell? ⟨w.heap.size, 8, none⟩ = some (.pointer (some ⟨p1, 0, none⟩)) := blk_cell HQ1.out rfl
    have n8 : W2.cell? ⟨w.heap.size + 1, 8, none⟩ = some (.pointer (some ⟨p2, 0, none⟩)) := blk_cell HQ2.out rfl
    have l1 := blk_lt H1.out
    have l2 := blk_lt H2.out
    have l3 := blk_lt HQ1.out
    have l4 := blk_lt HQ2.out
    refine wp_region_over (by kernel_rfl) (by kernel_rfl) ?_
    repeat (go_big_quiet_step ((go_at_call 8; refine calls_over (Nat.le_refl _) (HR.out _ (HB.out.bt (over_below _ _ _))))))
    refine wpQuiet_nil ?_
    intro w3 hb3
    replace HB := Lib.hid (HB.out.bt hb3)
    replace HQ1 := Lib.hid (blk_below HQ1.out hb3)
    replace HQ2 := Lib.hid (blk_below HQ2.out hb3)
    replace H1 := Lib.hid (blk_below H1.out hb3)
    replace H2 := Lib.hid (blk_below H2.out hb3)
    replace H3 := Lib.hid (blk_below H3.out hb3)
    replace H4 := Lib.hid (blk_below H4.out hb3)
    clear hb3
    clear u0 v0 u1 v1 u2 v2 u3 v3 u4 v4 u5 v5 u6 v6 u7 v7 u8 v8 m7 n7 m8 n8 l1 l2 l3 l4
    have m7 : w3.cell? ⟨w.heap.size, 7, none⟩ = some (.slice (some ⟨g1, 0, none⟩) 2 k1) := blk_cell HQ1.out rfl
    have n7 : w3.cell? ⟨w.heap.size + 1, 7, none⟩ = some (.slice (some ⟨g2, 0, none⟩) 2 k2) := blk_cell HQ2.out rfl
    have l3 := blk_lt HQ1.out
    have l4 := blk_lt HQ2.out
    go_wp2_with fail
    clear m7 n7 l3 l4
    obtain ⟨wa, rfl⟩ : ∃ z : World, z = w3 := ⟨_, rfl⟩
    refine wp_loop_rounds 3 ?_
    rw [rounds_succ]
    have u0 : wa.cell? ⟨g1, 0, none⟩ = some a0 := blk_cell H3.out rfl
    have u1 : wa.cell? ⟨g1, 1, none⟩ = some a1 := blk_cell H3.out rfl
    have u2 : wa.cell? ⟨g1, 2, none⟩ = some a2 := blk_cell H3.out rfl
    have u3 : wa.cell? ⟨g1, 3, none⟩ = some a3 := blk_cell H3.out rfl
    have u4 : wa.cell? ⟨g1, 4, none⟩ = some a4 := blk_cell H3.out rfl
    have u5 : wa.cell? ⟨g1, 5, none⟩ = some a5 := blk_cell H3.out rfl
    have u6 : wa.cell? ⟨g1, 6, none⟩ = some a6 := blk_cell H3.out rfl
    have u7 : wa.cell? ⟨g1, 7, none⟩ = some a7 := blk_cell H3.out rfl
    have u8 : wa.cell? ⟨g1, 8, none⟩ = some a8 := blk_cell H3.out rfl
    have v0 : wa.cell? ⟨g2, 0, none⟩ = some c0 := blk_cell H4.out rfl
    have v1 : wa.cell? ⟨g2, 1, none⟩ = some c1 := blk_cell H4.out rfl
    have v2 : wa.cell? ⟨g2, 2, none⟩ = some c2 := blk_cell H4.out rfl
    have v3 : wa.cell? ⟨g2, 3, none⟩ = some c3 := blk_cell H4.out rfl
    have v4 : wa.cell? ⟨g2, 4, none⟩ = some c4 := blk_cell H4.out rfl
    have v5 : wa.cell? ⟨g2, 5, none⟩ = some c5 := blk_cell H4.out rfl
    have v6 : wa.cell? ⟨g2, 6, none⟩ = some c6 := blk_cell H4.out rfl
    have v7 : wa.cell? ⟨g2, 7, none⟩ = some c7 := blk_cell H4.out rfl
    have v8 : wa.cell? ⟨g2, 8, none⟩ = some c8 := blk_cell H4.out rfl
    have m7 : wa.cell? ⟨w.heap.size, 7, none⟩ = some (.slice (some ⟨g1, 0, none⟩) 2 k1) := blk_cell HQ1.out rfl
    have n7 : wa.cell? ⟨w.heap.size + 1, 7, none⟩ = some (.slice (some ⟨g2, 0, none⟩) 2 k2) := blk_cell HQ2.out rfl
    have m8 : wa.cell? ⟨w.heap.size, 8, none⟩ = some (.pointer (some ⟨p1, 0, none⟩)) := blk_cell HQ1.out rfl
    have n8 : wa.cell? ⟨w.heap.size + 1, 8, none⟩ = some (.pointer (some ⟨p2, 0, none⟩)) := blk_cell HQ2.out rfl
    have l1 := blk_lt H3.out
    have l2 := blk_lt H4.out
    have l3 := blk_lt HQ1.out
    have l4 := blk_lt HQ2.out
    go_wp2_with fail
    refine wp_region_over (by kernel_rfl) (by kernel_rfl) ?_
    repeat (go_big_quiet_step ((go_at_call 8; refine calls_over (Nat.le_refl _) (HA.out _ (HB.out.bt (over_below _ _ _))))))
    refine wpQuiet_nil ?_
    intro w3 hb3
    replace HB := Lib.hid (HB.out.bt hb3)
    replace HQ1 := Lib.hid (blk_below HQ1.out hb3)
    replace HQ2 := Lib.hid (blk_below HQ2.out hb3)
    replace H1 := Lib.hid (blk_below H1.out hb3)
    replace H2 := Lib.hid (blk_below H2.out hb3)
    replace H3 := Lib.hid (blk_below H3.out hb3)
    replace H4 := Lib.hid (blk_below H4.out hb3)
    clear hb3
    clear u0 v0 u1 v1 u2 v2 u3 v3 u4 v4 u5 v5 u6 v6 u7 v7 u8 v8 m7 n7 m8 n8 l1 l2 l3 l4
    go_wp2_with fail
    obtain ⟨wb, rfl⟩ : ∃ z : World, z = w3 := ⟨_, rfl⟩
    rw [rounds_succ]
    have u0 : wb.cell? ⟨g1, 9, none⟩ = some b0 := blk_cell H3.out rfl
    have u1 : wb.cell? ⟨g1, 10, none⟩ = some b1 := blk_cell H3.out rfl
    have u2 : wb.cell? ⟨g1, 11, none⟩ = some b2 := blk_cell H3.out rfl
    have u3 : wb.cell? ⟨g1, 12, none⟩ = some b3 := blk_cell H3.out rfl
    have u4 : wb.cell? ⟨g1, 13, none⟩ = some b4 := blk_cell H3.out rfl
    have u5 : wb.cell? ⟨g1, 14, none⟩ = some b5 := blk_cell H3.out rfl
    have u6 : wb.cell? ⟨g1, 15, none⟩ = some b6 := blk_cell H3.out rfl
    have u7 : wb.cell? ⟨g1, 16, none⟩ = some b7 := blk_cell H3.out rfl
    have u8 : wb.cell? ⟨g1, 17, none⟩ = some b8 := blk_cell H3.out rfl
    have v0 : wb.cell? ⟨g2, 9, none⟩ = some d0 := blk_cell H4.out rfl
    have v1 : wb.cell? ⟨g2, 10, none⟩ = some d1 := blk_cell H4.out rfl
    have v2 : wb.cell? ⟨g2, 11, none⟩ = some d2 := blk_cell H4.out rfl
    have v3 : wb.cell? ⟨g2, 12, none⟩ = some d3 := blk_cell H4.out rfl
    have v4 : wb.cell? ⟨g2, 13, none⟩ = some d4 := blk_cell H4.out rfl
    have v5 : wb.cell? ⟨g2, 14, none⟩ = some d5 := blk_cell H4.out rfl
    have v6 : wb.cell? ⟨g2, 15, none⟩ = some d6 := blk_cell H4.out rfl
    have v7 : wb.cell? ⟨g2, 16, none⟩ = some d7 := blk_cell H4.out rfl
    have v8 : wb.cell? ⟨g2, 17, none⟩ = some d8 := blk_cell H4.out rfl
    have m7 : wb.cell? ⟨w.heap.size, 7, none⟩ = some (.slice (some ⟨g1, 0, none⟩) 2 k1) := blk_cell HQ1.out rfl
    have n7 : wb.cell? ⟨w.heap.size + 1, 7, none⟩ = some (.slice (some ⟨g2, 0, none⟩) 2 k2) := blk_cell HQ2.out rfl
    have m8 : wb.cell? ⟨w.heap.size, 8, none⟩ = some (.pointer (some ⟨p1, 0, none⟩)) := blk_cell HQ1.out rfl
    have n8 : wb.cell? ⟨w.heap.size + 1, 8, none⟩ = some (.pointer (some ⟨p2, 0, none⟩)) := blk_cell HQ2.out rfl
    have l1 := blk_lt H3.out
    have l2 := blk_lt H4.out
    have l3 := blk_lt HQ1.out
    have l4 := blk_lt HQ2.out
    go_wp2_with fail
    refine wp_region_over (by kernel_rfl) (by kernel_rfl) ?_
    repeat (go_big_quiet_step ((go_at_call 8; refine calls_over (Nat.le_refl _) (HBB.out _ (HB.out.bt (over_below _ _ _))))))
    refine wpQuiet_nil ?_
    intro w3 hb3
    replace HB := Lib.hid (HB.out.bt hb3)
    replace HQ1 := Lib.hid (blk_below HQ1.out hb3)
    replace HQ2 := Lib.hid (blk_below HQ2.out hb3)
    replace H1 := Lib.hid (blk_below H1.out hb3)
    replace H2 := Lib.hid (blk_below H2.out hb3)
    replace H3 := Lib.hid (blk_below H3.out hb3)
    replace H4 := Lib.hid (blk_below H4.out hb3)
    clear hb3
    clear u0 v0 u1 v1 u2 v2 u3 v3 u4 v4 u5 v5 u6 v6 u7 v7 u8 v8 m7 n7 m8 n8 l1 l2 l3 l4
    go_wp2_with fail
    rw [rounds_succ]
    go_wp2_with fail
    go_returns
    exact ⟨rfl, HB.out⟩
/-- on any two types that are trees -/
theorem same_any : ∀ (t u : Ty) (w : World) (lo lo' : Nat → Prop) (cs ds : List Value), TyC w lo t cs → TyC w lo' u ds → Calls Try.prog 8 #[.agg cs.toArray, .agg ds.toArray] w fun e w' => e = .returned (.bool (sameT t u)) ∧ Below w.heap.size w w' := by
  intro t
  induction t with
  | int s g c =>
    intro u w lo lo' cs ds h k
    by_cases hk : (Ty.int s g c).kind = u.kind
    · cases u <;> first | (exfalso; revert hk; simp [Ty.kind]; done) | skip
      subst h k
      exact same_int w s _ g _ c _
    · rw [sameT_kind _ _ hk]
      obtain ⟨_, _, _, _, _, _, _, _, _, rfl, rfl, _⟩ := h.nine
      obtain ⟨_, _, _, _, _, _, _, _, _, rfl, rfl, _⟩ := k.nine
      exact same_ne w _ _ _ _ _ _ _ _ _ _ _ _ _ _ _ _ _ _ hk
  | str n =>
    intro u w lo lo' cs ds h k
    by_cases hk : (Ty.str n).kind = u.kind
    · cases u <;> first | (exfalso; revert hk; simp [Ty.kind]; done) | skip
      subst h k
      exact same_str w n _
    · rw [sameT_kind _ _ hk]
      obtain ⟨_, _, _, _, _, _, _, _, _, rfl, rfl, _⟩ := h.nine
      obtain ⟨_, _, _, _, _, _, _, _, _, rfl, rfl, _⟩ := k.nine
      exact same_ne w _ _ _ _ _ _ _ _ _ _ _ _ _ _ _ _ _ _ hk
  | ptr e ih =>
    intro u w lo lo' cs ds h k
    by_cases hk : (Ty.ptr e).kind = u.kind
    · cases u <;> first | (exfalso; revert hk; simp [Ty.kind]; done) | skip
      obtain ⟨b, xs, rfl, _, h1, h2⟩ := h
      obtain ⟨b', ys, rfl, _, k1, k2⟩ := k
      have hI := fun (W : World) (hb : Below w.heap.size w W) => ih _ W lo lo' xs ys (h2.later hb) (k2.later hb)
      obtain ⟨_, _, _, _, _, _, _, _, _, rfl, _⟩ := h2.nine
      obtain ⟨_, _, _, _, _, _, _, _, _, rfl, _⟩ := k2.nine
      exact same_ptr w b b' _ _ _ _ _ _ _ _ _ _ _ _ _ _ _ _ _ _ _ h1 k1 hI
    · rw [sameT_kind _ _ hk]
      obtain ⟨_, _, _, _, _, _, _, _, _, rfl, rfl, _⟩ := h.nine
      obtain ⟨_, _, _, _, _, _, _, _, _, rfl, rfl, _⟩ := k.nine
      exact same_ne w _ _ _ _ _ _ _ _ _ _ _ _ _ _ _ _ _ _ hk
  | arr e n ih =>
    intro u w lo lo' cs ds h k
    by_cases hk : (Ty.arr e n).kind = u.kind
    · cases u <;> first | (exfalso; revert hk; simp [Ty.kind]; done) | skip
      obtain ⟨b, xs, rfl, _, h1, h2⟩ := h
      obtain ⟨b', ys, rfl, _, k1, k2⟩ := k
      have hI := fun (W : World) (hb : Below w.heap.size w W) => ih _ W lo lo' xs ys (h2.later hb) (k2.later hb)
      obtain ⟨_, _, _, _, _, _, _, _, _, rfl, _⟩ := h2.nine
      obtain ⟨_, _, _, _, _, _, _, _, _, rfl, _⟩ := k2.nine
      exact same_arr w b b' n _ _ _ _ _ _ _ _ _ _ _ _ _ _ _ _ _ _ _ _ h1 k1 hI
    · rw [sameT_kind _ _ hk]
      obtain ⟨_, _, _, _, _, _, _, _, _, rfl, rfl, _⟩ := h.nine
      obtain ⟨_, _, _, _, _, _, _, _, _, rfl, rfl, _⟩ := k.nine
      exact same_ne w _ _ _ _ _ _ _ _ _ _ _ _ _ _ _ _ _ _ hk
  | fn r a b ihr iha ihb =>
    intro u w lo lo' cs ds h k
    by_cases hk : (Ty.fn r a b).kind = u.kind
    · cases u <;> first | (exfalso; revert hk; simp [Ty.kind]; done) | skip
      obtain ⟨q, g, cap, xs, es, fs, rfl, _, h1, h2, h3, h4, h5⟩ := h
      obtain ⟨q', g', cap', xs', es', fs', rfl, _, k1, k2, k3, k4, k5⟩ := k
      have hR := fun (W : World) (hb : Below w.heap.size w W) => ihr _ W lo lo' xs xs' (h3.later hb) (k3.later hb)
      have hA := fun (W : World) (hb : Below w.heap.size w W) => iha _ W lo lo' es es' (h4.later hb) (k4.later hb)
      have hB := fun (W : World) (hb : Below w.heap.size w W) => ihb _ W lo lo' fs fs' (h5.later hb) (k5.later hb)
      obtain ⟨_, _, _, _, _, _, _, _, _, rfl, _⟩ := h3.nine
      obtain ⟨_, _, _, _, _, _, _, _, _, rfl, _⟩ := k3.nine
      obtain ⟨_, _, _, _, _, _, _, _, _, rfl, _⟩ := h4.nine
      obtain ⟨_, _, _, _, _, _, _, _, _, rfl, _⟩ := k4.nine
      obtain ⟨_, _, _, _, _, _, _, _, _, rfl, _⟩ := h5.nine
      obtain ⟨_, _, _, _, _, _, _, _, _, rfl, _⟩ := k5.nine
      exact same_fn w q q' g g' cap cap' _ _ _ _ _ _ _ _ _ _ _ _ _ _ _ _ _ _ _ _ _ _ _ _ _ _ _ _ _ _ _ _ _ _ _ _ _ _ _ _ _ _ _ _ _ _ _ _ _ _ _ _ _ _ _ _ _ h1 k1 h2 k2 hR hA hB
    · rw [sameT_kind _ _ hk]
      obtain ⟨_, _, _, _, _, _, _, _, _, rfl, rfl, _⟩ := h.nine
      obtain ⟨_, _, _, _, _, _, _, _, _, rfl, rfl, _⟩ := k.nine
      exact same_ne w _ _ _ _ _ _ _ _ _ _ _ _ _ _ _ _ _ _ hk
end Go.Proofs.Ytilljobnaoefiaa
