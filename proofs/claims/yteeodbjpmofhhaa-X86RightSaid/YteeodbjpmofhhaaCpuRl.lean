/- The walk of X86Right. No condition. -/
import Derived.Test.YteeodbjpmofhhaaCpuVk
import Derived.Test.YteeodbjpmofhhaaOpen
namespace Go.Proofs.Yteeodbjpmofhhaa
open Go.RowKit
set_option linter.unusedVariables false
set_option maxHeartbeats 8000000
theorem calls_over_eq {P : Program} {f : FuncId} {args : Array Value} {B : Nat} {w x : World} {v : Value} (hB : B ≤ w.heap.size)
    (h : Calls P f args (over B w x) fun e w' => e = .returned v ∧ over B w x = w') :
    Calls P f args (over B w x) fun e w'' => e = .returned v ∧ ∃ y, w'' = over B w y :=
  h.mono fun _ w' ⟨he, hb⟩ => ⟨he, x, hb.symm⟩
theorem jumps_walk (op : Int) (w : World) : Calls Try.prog 15 #[.int .i64 op] w fun e w' => e = .returned (.bool (decide (op = 6 ∨ op = 33 ∨ op = 34 ∨ op = 35))) ∧ w = w' := by
  by_cases h1 : op = 33
  · subst h1
    go_enter Try.func15, Try.ntmps15
    go_wp2
    all_goals go_returns
    all_goals exact ⟨rfl, rfl⟩
  by_cases h2 : op = 34
  · subst h2
    go_enter Try.func15, Try.ntmps15
    go_wp2
    all_goals go_returns
    all_goals exact ⟨rfl, rfl⟩
  by_cases h3 : op = 35
  · subst h3
    go_enter Try.func15, Try.ntmps15
    go_wp2
    all_goals go_returns
    all_goals exact ⟨rfl, rfl⟩
  by_cases h4 : op = 6
  · subst h4
    go_enter Try.func15, Try.ntmps15
    go_wp2
    all_goals go_returns
    all_goals exact ⟨rfl, rfl⟩
  have e1 : (op == 33) = false := by simpa using h1
  have e2 : (op == 34) = false := by simpa using h2
  have e3 : (op == 35) = false := by simpa using h3
  have e4 : (op == 6) = false := by simpa using h4
  have hd : decide (op = 6 ∨ op = 33 ∨ op = 34 ∨ op = 35) = false := decide_eq_false (by omega)
  rw [hd]
  clear hd
  go_enter Try.func15, Try.ntmps15
  go_wp2
  all_goals go_returns
  all_goals exact ⟨rfl, rfl⟩
theorem rightIs_of {P : Program} {f : FuncId} {args : Array Value} {w : World} {R : Prop} {b : Bool} (hb : b = true ↔ R) (h : Calls P f args w fun en w' => RightIs R en ∧ Below w.heap.size w w') :
    Calls P f args w fun en w' => en = .returned (.bool b) ∧ Below w.heap.size w w' :=
  h.mono fun en w' ⟨⟨c, hc, hr⟩, hk⟩ => by
    have : c = b := by rw [Bool.eq_iff_iff, hr, hb]
    subst this; exact ⟨hc, hk⟩
theorem right_law (op dst src imm size : Int) (sg : Bool) (cond : Int) (to_ : ByteArray) (w : World) (ho : In64 op) (hd : In64 dst) (hsr : In64 src) (hi : In64 imm) (hz : In64 size) (hc : In64 cond) (hl : to_.size ≤ maxLen) :
    Calls Try.prog 5 #[.agg #[.int .i64 op, .int .i64 dst, .int .i64 src, .int .i64 imm, .int .i64 size, .bool sg, .int .i64 cond, .string to_]] w fun e w' => e = .returned (.bool true) ∧ Below w.heap.size w w' := by
  obtain ⟨s, hs, rfl⟩ : ∃ s : Int, (s = 0 ∨ s = 1) ∧ sg = decide (s = 1) := by
    cases sg
    · exact ⟨0, by omega, by decide⟩
    · exact ⟨1, by omega, by decide⟩
  obtain ⟨e, he, hE⟩ : ∃ e : Int, (e = 0 ∨ e = 1) ∧ to_.toList.isEmpty = decide (e = 1) := by
    cases to_.toList.isEmpty
    · exact ⟨0, by omega, by decide⟩
    · exact ⟨1, by omega, by decide⟩
  obtain ⟨b, hb⟩ : ∃ b : Bool, b = true ↔ RP op dst src imm size s cond e := by
    by_cases h : RP op dst src imm size s cond e
    · exact ⟨true, by simpa using h⟩
    · exact ⟨false, by simpa using h⟩
  have RX := Lib.hid (fun w => rightIs_of hb (right_x op dst src imm size s cond e to_ w ho hd hsr hi hs he hE hz hc))
  have RR := Lib.hid (fun w => rightIs_of hb (right_r op dst src imm size s cond e to_ w ho hd hsr hi hs he hE hz hc))
  have JW := Lib.hid (fun w => jumps_walk op w)
  clear hb ho hd hsr hi hs he hE hz hc
  generalize decide (s = 1) = sg at *
  unfold maxLen at hl
  by_cases hlen : (1000 : Int) < to_.size
  · go_enter Try.func5, Try.ntmps5
    go_wp2_with fail
    refine (fit_walk _).mono ?_
    rintro e w1 ⟨rfl, hb1⟩
    obtain ⟨hc1, hf1⟩ := bcell hb1
    have hz1 : w.heap.size < w1.heap.size := by have := hb1.size; simp at this; omega
    have kb1 := below_new hb1
    go_wp2_with fail
    go_returns
    exact ⟨rfl, kb1⟩
  · by_cases hop : op = 6 ∨ op = 33 ∨ op = 34 ∨ op = 35
    · rw [decide_eq_true hop] at JW
      rcases hop with rfl | rfl | rfl | rfl <;> cases b
      all_goals
        go_enter Try.func5, Try.ntmps5
        go_wp2_with fail
        refine (fit_walk _).mono ?_
        rintro e w1 ⟨rfl, hb1⟩
        obtain ⟨hc1, hf1⟩ := bcell hb1
        have hz1 : w.heap.size < w1.heap.size := by have := hb1.size; simp at this; omega
        have kb1 := below_new hb1
        clear hb1
        go_wp2_with fail
        refine wp_region_over (by kernel_rfl) (by kernel_rfl) ?_
        repeat (go_big_quiet_step (first
          | (go_at_call 13; exact calls_over (by exact Nat.le_refl _) (RX.out _))
          | (go_at_call 14; exact calls_over (by exact Nat.le_refl _) (RR.out _))
          | (go_at_call 15; exact calls_over_eq (by exact Nat.le_refl _) (JW.out _))))
        refine wpQuiet_nil ?_
        intro w4 hb4
        go_wp2
        go_returns
        exact ⟨rfl, kb1.bt hb4⟩
    · rw [decide_eq_false hop] at JW
      have e1 : (op == 33) = false := by simp; omega
      have e2 : (op == 34) = false := by simp; omega
      have e3 : (op == 35) = false := by simp; omega
      have e4 : (op == 6) = false := by simp; omega
      clear hop
      cases b
      all_goals
        go_enter Try.func5, Try.ntmps5
        go_wp2_with fail
        refine (fit_walk _).mono ?_
        rintro e w1 ⟨rfl, hb1⟩
        obtain ⟨hc1, hf1⟩ := bcell hb1
        have hz1 : w.heap.size < w1.heap.size := by have := hb1.size; simp at this; omega
        have kb1 := below_new hb1
        clear hb1
        go_wp2_with fail
        refine wp_region_over (by kernel_rfl) (by kernel_rfl) ?_
        repeat (go_big_quiet_step (first
          | (go_at_call 13; exact calls_over (by exact Nat.le_refl _) (RX.out _))
          | (go_at_call 14; exact calls_over (by exact Nat.le_refl _) (RR.out _))
          | (go_at_call 15; exact calls_over_eq (by exact Nat.le_refl _) (JW.out _))))
        refine wpQuiet_nil ?_
        intro w4 hb4
        go_wp2
        go_returns
        exact ⟨rfl, kb1.bt hb4⟩
theorem open_ins {H : Type} {enc : TypeId × Value → H} {w : World} {base : Nat} {spare : Nat → Bool} {held : Bool} {r : Reach} {b0 : Nat} {v : Value} {d : DataW H} {p : List MemPlace}
    (hv : Value.okWide Try.prog w r b0 38 v) (h : DataW.Trod enc Try.prog w base spare held 38 v d p) :
    ∃ (op dst src imm size : Int) (sg : Bool) (cond : Int) (to_ : ByteArray), v = .agg #[.int .i64 op, .int .i64 dst, .int .i64 src, .int .i64 imm, .int .i64 size, .bool sg, .int .i64 cond, .string to_] ∧
      In64 op ∧ In64 dst ∧ In64 src ∧ In64 imm ∧ In64 size ∧ In64 cond ∧ to_.size ≤ maxLen := by
  obtain ⟨v0, v1, v2, v3, v4, v5, v6, v7, y0, y1, y2, y3, y4, y5, y6, y7, n, rfl, t0, t1, t2, t3, t4, t5, t6, t7⟩ := open_agg8' Try.underlying38 (by kernel_rfl) (by kernel_rfl) hv h
  obtain ⟨a0, e0, _, w0⟩ := DataW.trod_int Try.underlying3 t0
  obtain ⟨a1, e1, _, w1⟩ := DataW.trod_int Try.underlying3 t1
  obtain ⟨a2, e2, _, w2⟩ := DataW.trod_int Try.underlying3 t2
  obtain ⟨a3, e3, _, w3⟩ := DataW.trod_int Try.underlying2 t3
  obtain ⟨a4, e4, _, w4⟩ := DataW.trod_int Try.underlying3 t4
  obtain ⟨a5, e5, _⟩ := DataW.trod_bool Try.underlying4 t5
  obtain ⟨a6, e6, _, w6⟩ := DataW.trod_int Try.underlying3 t6
  obtain ⟨a7, e7, _, w7⟩ := DataW.trod_string Try.underlying9 t7
  simp only [List.cons.injEq, and_true] at e0 e1 e2 e3 e4 e5 e6 e7
  subst e0 e1 e2 e3 e4 e5 e6 e7
  exact ⟨a0, a1, a2, a3, a4, a5, a6, a7, rfl, in64_of w0, in64_of w1, in64_of w2, in64_of w3, in64_of w4, in64_of w6, w7⟩
end Go.Proofs.Yteeodbjpmofhhaa
