/- pick: what reckons, extends, compares (printed by gen_plq.py). No condition. -/
import Derived.Test.YtbogcompeefoaaaDoorQe
import Derived.Test.YtbogcompeefoaaaDoorQa
namespace Go.Proofs.YtbogcompeefoaaaDoor
open Go.RowKit
set_option linter.unusedVariables false
set_option maxHeartbeats 4000000
section
variable (W0 : World) (gk : Nat) (k : PK) (pl sl : List Int)
theorem traps_any (w : World) (op : Int) : Calls Tryd.prog 65 #[.int .i64 op] w fun e w' => e = .returned (.bool (decide (6 ≤ op ∧ op ≤ 9))) ∧ w' = w := by
  by_cases h1 : 6 ≤ op
  · by_cases h2 : op ≤ 9
    · have HD := Lib.hid (show decide (6 ≤ op ∧ op ≤ 9) = true from decide_eq_true ⟨h1, h2⟩)
      have d1 : decide (6 ≤ op) = true := decide_eq_true h1
      have d2 : decide (op ≥ 6) = true := decide_eq_true h1
      have d3 : decide (op ≤ 9) = true := decide_eq_true h2
      go_enter Tryd.func65, Tryd.ntmps65
      go_wp2_with fail
      go_returns
      exact ⟨by first | rfl | (rw [HD.out]; rfl), rfl⟩
    · have HD := Lib.hid (show decide (6 ≤ op ∧ op ≤ 9) = false from decide_eq_false (by omega))
      have d1 : decide (6 ≤ op) = true := decide_eq_true h1
      have d2 : decide (op ≥ 6) = true := decide_eq_true h1
      have d3 : decide (op ≤ 9) = false := decide_eq_false h2
      go_enter Tryd.func65, Tryd.ntmps65
      go_wp2_with fail
      go_returns
      exact ⟨by first | rfl | (rw [HD.out]; rfl), rfl⟩
  · have HD := Lib.hid (show decide (6 ≤ op ∧ op ≤ 9) = false from decide_eq_false (by omega))
    have d1 : decide (6 ≤ op) = false := decide_eq_false h1
    have d2 : decide (op ≥ 6) = false := decide_eq_false h1
    go_enter Tryd.func65, Tryd.ntmps65
    go_wp2_with fail
    go_returns
    exact ⟨by first | rfl | (rw [HD.out]; rfl), rfl⟩
/-- what alu answers -/
def AluOk (op o n : Int) : Prop := (op ≤ 12 → ¬ (6 ≤ op ∧ op ≤ 9) → 7 ≤ o ∧ o ≤ 12 ∧ 14 ≤ n ∧ n ≤ 19) ∧ (13 ≤ op → 21 ≤ o ∧ o ≤ 23 ∧ 24 ≤ n ∧ n ≤ 26)
theorem alu_any (w : World) (op : Int) (h1 : 3 ≤ op) (h2 : op ≤ 15) : Calls Tryd.prog 64 #[.int .i64 op] w fun e w' => ∃ o n, AluOk op o n ∧ e = .returned (.tuple #[.int .i64 o, .int .i64 n]) ∧ w' = w := by
  have hc : op = 3 ∨ op = 4 ∨ op = 5 ∨ op = 6 ∨ op = 7 ∨ op = 8 ∨ op = 9 ∨ op = 10 ∨ op = 11 ∨ op = 12 ∨ op = 13 ∨ op = 14 ∨ op = 15 := by omega
  clear h1 h2
  rcases hc with rfl | rfl | rfl | rfl | rfl | rfl | rfl | rfl | rfl | rfl | rfl | rfl | rfl <;>
    (go_enter Tryd.func64, Tryd.ntmps64
     go_wp2_with fail
     go_returns
     exact ⟨_, _, ⟨by omega, by omega⟩, rfl, rfl⟩)
set_option maxRecDepth 100000 in
theorem quotient_lays (hk : KOk W0 k pl) (nb n : Nat) (ls0 : List LineD) (w : World) (h : PSeg W0 gk k pl sl nb ls0 n w) (hn : n ≤ 99999000) (x : InsD) (vx : Value) (rn : Nat) (px : Int) (hr : pl[rn]? = some px) (ha : ArgOk pl x.a) (hb : ArgOk pl x.b) (ho : 6 ≤ x.op ∧ x.op ≤ 9) :
    Calls Tryd.prog 66 #[.pointer (some ⟨gk, 0, none⟩), .agg #[.int .i64 x.op, .int .i64 (rn : Nat), .int .i64 x.a.reg, .int .i64 x.a.num, .int .i64 x.b.reg, .int .i64 x.b.num, .int .i64 x.size, .bool x.signed, .bool x.secret, .int .i64 x.ref, .int .i64 x.off, vx]] w (Lays W0 gk k pl sl nb ls0 (n + 5) w (.tuple #[])) := by
  have r10 : RR 10 := by unfold RR; decide
  have r0 : RR 0 := by unfold RR; decide
  have r2 : RR 2 := by unfold RR; decide
  have hc : x.op = 6 ∨ x.op = 7 ∨ x.op = 8 ∨ x.op = 9 := by omega
  clear ho
  obtain ⟨op, hop⟩ : ∃ op, op = x.op := ⟨_, rfl⟩
  rw [← hop] at hc ⊢
  rcases hc with hc | hc | hc | hc
  · subst hc
    have HA := Lib.hid (below_alloc (.cells #[.int .i64 6, .int .i64 (rn : Nat), .int .i64 x.a.reg, .int .i64 x.a.num, .int .i64 x.b.reg, .int .i64 x.b.num, .int .i64 x.size, .bool x.signed, .bool x.secret, .int .i64 x.ref, .int .i64 x.off, vx] 74) (Below.refl w.heap.size w))
    have HP0 := Lib.hid (h.later HA.out)
    have HK0 := Lib.hid (KeptL.of_below HA.out)
    have HX0 := Lib.hid (blk_new w (.cells #[.int .i64 6, .int .i64 (rn : Nat), .int .i64 x.a.reg, .int .i64 x.a.num, .int .i64 x.b.reg, .int .i64 x.b.num, .int .i64 x.size, .bool x.signed, .bool x.secret, .int .i64 x.ref, .int .i64 x.off, vx] 74))
    obtain ⟨w1, hw1⟩ : ∃ w1, w1 = w.alloc (.cells #[.int .i64 6, .int .i64 (rn : Nat), .int .i64 x.a.reg, .int .i64 x.a.num, .int .i64 x.b.reg, .int .i64 x.b.num, .int .i64 x.size, .bool x.signed, .bool x.secret, .int .i64 x.ref, .int .i64 x.off, vx] 74) := ⟨_, rfl⟩
    rw [← hw1] at HP0 HK0 HX0
    obtain ⟨gx, hgx⟩ : ∃ gx, gx = w.heap.size := ⟨_, rfl⟩
    rw [← hgx] at HX0
    clear HA h
    clear hop
    have q0 := blk_cell (i := 0) HX0.out rfl
    have q1 := blk_cell (i := 1) HX0.out rfl
    have q2 := blk_cell (i := 2) HX0.out rfl
    have q3 := blk_cell (i := 3) HX0.out rfl
    have q4 := blk_cell (i := 4) HX0.out rfl
    have q5 := blk_cell (i := 5) HX0.out rfl
    have ql := blk_lt HX0.out
    have HGX := Lib.hid hgx
    go_enter Tryd.func66, Tryd.ntmps66
    go_upto_region 1 with (fail)
    rw [← hw1, ← hgx]
    clear hw1 hgx
    go_wp2_with fail
    refine (fetch_lays W0 gk k pl sl hk nb (n + 0) ls0 _ HP0.out (by omega) 10 r10 x.b hb).mono ?_
    rintro e w2 ⟨rfl, hp, hkk⟩
    have HP1 := Lib.hid hp
    have HK1 := Lib.hid (HK0.out.trans hkk)
    have HX1 := Lib.hid (hkk.2 _ _ _ _ HX0.out (by decide) (by decide))
    clear hp hkk q0 q1 q2 q3 q4 q5 ql
    have q0 := blk_cell (i := 0) HX1.out rfl
    have q1 := blk_cell (i := 1) HX1.out rfl
    have q2 := blk_cell (i := 2) HX1.out rfl
    have q3 := blk_cell (i := 3) HX1.out rfl
    have q4 := blk_cell (i := 4) HX1.out rfl
    have q5 := blk_cell (i := 5) HX1.out rfl
    have ql := blk_lt HX1.out
    go_wp2_with fail
    refine (fetch_lays W0 gk k pl sl hk nb (n + 1) ls0 _ HP1.out (by omega) 0 r0 x.a ha).mono ?_
    rintro e w3 ⟨rfl, hp, hkk⟩
    have HP2 := Lib.hid hp
    have HK2 := Lib.hid (HK1.out.trans hkk)
    have HX2 := Lib.hid (hkk.2 _ _ _ _ HX1.out (by decide) (by decide))
    clear hp hkk q0 q1 q2 q3 q4 q5 ql
    have q0 := blk_cell (i := 0) HX2.out rfl
    have q1 := blk_cell (i := 1) HX2.out rfl
    have q2 := blk_cell (i := 2) HX2.out rfl
    have q3 := blk_cell (i := 3) HX2.out rfl
    have q4 := blk_cell (i := 4) HX2.out rfl
    have q5 := blk_cell (i := 5) HX2.out rfl
    have ql := blk_lt HX2.out
    go_wp2_with fail
    refine (ins_lays W0 gk k pl sl nb (n + 2) ls0 _ HP2.out (by omega) 27 0 0 0 0 false 0 [] (none_ok (by omega)) (by decide) (by decide)).mono ?_
    rintro e w4 ⟨rfl, hp, hkk⟩
    have HP3 := Lib.hid hp
    have HK3 := Lib.hid (HK2.out.trans hkk)
    have HX3 := Lib.hid (hkk.2 _ _ _ _ HX2.out (by decide) (by decide))
    clear hp hkk q0 q1 q2 q3 q4 q5 ql
    have q0 := blk_cell (i := 0) HX3.out rfl
    have q1 := blk_cell (i := 1) HX3.out rfl
    have q2 := blk_cell (i := 2) HX3.out rfl
    have q3 := blk_cell (i := 3) HX3.out rfl
    have q4 := blk_cell (i := 4) HX3.out rfl
    have q5 := blk_cell (i := 5) HX3.out rfl
    have ql := blk_lt HX3.out
    go_wp2_with fail
    refine (ins_lays W0 gk k pl sl nb (n + 3) ls0 _ HP3.out (by omega) 28 10 0 0 0 false 0 [] (one_ok (by omega) r10) (by decide) (by decide)).mono ?_
    rintro e w5 ⟨rfl, hp, hkk⟩
    have HP4 := Lib.hid hp
    have HK4 := Lib.hid (HK3.out.trans hkk)
    have HX4 := Lib.hid (hkk.2 _ _ _ _ HX3.out (by decide) (by decide))
    clear hp hkk q0 q1 q2 q3 q4 q5 ql
    have q0 := blk_cell (i := 0) HX4.out rfl
    have q1 := blk_cell (i := 1) HX4.out rfl
    have q2 := blk_cell (i := 2) HX4.out rfl
    have q3 := blk_cell (i := 3) HX4.out rfl
    have q4 := blk_cell (i := 4) HX4.out rfl
    have q5 := blk_cell (i := 5) HX4.out rfl
    have ql := blk_lt HX4.out
    go_wp2_with fail
    refine (keep_lays W0 gk k pl sl hk nb (n + 4) ls0 _ HP4.out (by omega) rn px hr (0) r0).mono ?_
    rintro e w6 ⟨rfl, hp, hkk⟩
    have HP5 := Lib.hid hp
    have HK5 := Lib.hid (HK4.out.trans hkk)
    have HX5 := Lib.hid (hkk.2 _ _ _ _ HX4.out (by decide) (by decide))
    clear hp hkk q0 q1 q2 q3 q4 q5 ql
    have q0 := blk_cell (i := 0) HX5.out rfl
    have q1 := blk_cell (i := 1) HX5.out rfl
    have q2 := blk_cell (i := 2) HX5.out rfl
    have q3 := blk_cell (i := 3) HX5.out rfl
    have q4 := blk_cell (i := 4) HX5.out rfl
    have q5 := blk_cell (i := 5) HX5.out rfl
    have ql := blk_lt HX5.out
    go_wp2_with fail
    go_returns
    exact ⟨rfl, HP5.out.le (by omega), HK5.out⟩
  · subst hc
    have HA := Lib.hid (below_alloc (.cells #[.int .i64 7, .int .i64 (rn : Nat), .int .i64 x.a.reg, .int .i64 x.a.num, .int .i64 x.b.reg, .int .i64 x.b.num, .int .i64 x.size, .bool x.signed, .bool x.secret, .int .i64 x.ref, .int .i64 x.off, vx] 74) (Below.refl w.heap.size w))
    have HP0 := Lib.hid (h.later HA.out)
    have HK0 := Lib.hid (KeptL.of_below HA.out)
    have HX0 := Lib.hid (blk_new w (.cells #[.int .i64 7, .int .i64 (rn : Nat), .int .i64 x.a.reg, .int .i64 x.a.num, .int .i64 x.b.reg, .int .i64 x.b.num, .int .i64 x.size, .bool x.signed, .bool x.secret, .int .i64 x.ref, .int .i64 x.off, vx] 74))
    obtain ⟨w1, hw1⟩ : ∃ w1, w1 = w.alloc (.cells #[.int .i64 7, .int .i64 (rn : Nat), .int .i64 x.a.reg, .int .i64 x.a.num, .int .i64 x.b.reg, .int .i64 x.b.num, .int .i64 x.size, .bool x.signed, .bool x.secret, .int .i64 x.ref, .int .i64 x.off, vx] 74) := ⟨_, rfl⟩
    rw [← hw1] at HP0 HK0 HX0
    obtain ⟨gx, hgx⟩ : ∃ gx, gx = w.heap.size := ⟨_, rfl⟩
    rw [← hgx] at HX0
    clear HA h
    clear hop
    have q0 := blk_cell (i := 0) HX0.out rfl
    have q1 := blk_cell (i := 1) HX0.out rfl
    have q2 := blk_cell (i := 2) HX0.out rfl
    have q3 := blk_cell (i := 3) HX0.out rfl
    have q4 := blk_cell (i := 4) HX0.out rfl
    have q5 := blk_cell (i := 5) HX0.out rfl
    have ql := blk_lt HX0.out
    have HGX := Lib.hid hgx
    go_enter Tryd.func66, Tryd.ntmps66
    go_upto_region 1 with (fail)
    rw [← hw1, ← hgx]
    clear hw1 hgx
    go_wp2_with fail
    refine (fetch_lays W0 gk k pl sl hk nb (n + 0) ls0 _ HP0.out (by omega) 10 r10 x.b hb).mono ?_
    rintro e w2 ⟨rfl, hp, hkk⟩
    have HP1 := Lib.hid hp
    have HK1 := Lib.hid (HK0.out.trans hkk)
    have HX1 := Lib.hid (hkk.2 _ _ _ _ HX0.out (by decide) (by decide))
    clear hp hkk q0 q1 q2 q3 q4 q5 ql
    have q0 := blk_cell (i := 0) HX1.out rfl
    have q1 := blk_cell (i := 1) HX1.out rfl
    have q2 := blk_cell (i := 2) HX1.out rfl
    have q3 := blk_cell (i := 3) HX1.out rfl
    have q4 := blk_cell (i := 4) HX1.out rfl
    have q5 := blk_cell (i := 5) HX1.out rfl
    have ql := blk_lt HX1.out
    go_wp2_with fail
    refine (fetch_lays W0 gk k pl sl hk nb (n + 1) ls0 _ HP1.out (by omega) 0 r0 x.a ha).mono ?_
    rintro e w3 ⟨rfl, hp, hkk⟩
    have HP2 := Lib.hid hp
    have HK2 := Lib.hid (HK1.out.trans hkk)
    have HX2 := Lib.hid (hkk.2 _ _ _ _ HX1.out (by decide) (by decide))
    clear hp hkk q0 q1 q2 q3 q4 q5 ql
    have q0 := blk_cell (i := 0) HX2.out rfl
    have q1 := blk_cell (i := 1) HX2.out rfl
    have q2 := blk_cell (i := 2) HX2.out rfl
    have q3 := blk_cell (i := 3) HX2.out rfl
    have q4 := blk_cell (i := 4) HX2.out rfl
    have q5 := blk_cell (i := 5) HX2.out rfl
    have ql := blk_lt HX2.out
    go_wp2_with fail
    refine (ins_lays W0 gk k pl sl nb (n + 2) ls0 _ HP2.out (by omega) 2 2 0 0 0 false 0 [] (movi_ok r2 ⟨by decide, by decide⟩) (by decide) (by decide)).mono ?_
    rintro e w4 ⟨rfl, hp, hkk⟩
    have HP3 := Lib.hid hp
    have HK3 := Lib.hid (HK2.out.trans hkk)
    have HX3 := Lib.hid (hkk.2 _ _ _ _ HX2.out (by decide) (by decide))
    clear hp hkk q0 q1 q2 q3 q4 q5 ql
    have q0 := blk_cell (i := 0) HX3.out rfl
    have q1 := blk_cell (i := 1) HX3.out rfl
    have q2 := blk_cell (i := 2) HX3.out rfl
    have q3 := blk_cell (i := 3) HX3.out rfl
    have q4 := blk_cell (i := 4) HX3.out rfl
    have q5 := blk_cell (i := 5) HX3.out rfl
    have ql := blk_lt HX3.out
    go_wp2_with fail
    refine (ins_lays W0 gk k pl sl nb (n + 3) ls0 _ HP3.out (by omega) 29 10 0 0 0 false 0 [] (one_ok (by omega) r10) (by decide) (by decide)).mono ?_
    rintro e w5 ⟨rfl, hp, hkk⟩
    have HP4 := Lib.hid hp
    have HK4 := Lib.hid (HK3.out.trans hkk)
    have HX4 := Lib.hid (hkk.2 _ _ _ _ HX3.out (by decide) (by decide))
    clear hp hkk q0 q1 q2 q3 q4 q5 ql
    have q0 := blk_cell (i := 0) HX4.out rfl
    have q1 := blk_cell (i := 1) HX4.out rfl
    have q2 := blk_cell (i := 2) HX4.out rfl
    have q3 := blk_cell (i := 3) HX4.out rfl
    have q4 := blk_cell (i := 4) HX4.out rfl
    have q5 := blk_cell (i := 5) HX4.out rfl
    have ql := blk_lt HX4.out
    go_wp2_with fail
    refine (keep_lays W0 gk k pl sl hk nb (n + 4) ls0 _ HP4.out (by omega) rn px hr (0) r0).mono ?_
    rintro e w6 ⟨rfl, hp, hkk⟩
    have HP5 := Lib.hid hp
    have HK5 := Lib.hid (HK4.out.trans hkk)
    have HX5 := Lib.hid (hkk.2 _ _ _ _ HX4.out (by decide) (by decide))
    clear hp hkk q0 q1 q2 q3 q4 q5 ql
    have q0 := blk_cell (i := 0) HX5.out rfl
    have q1 := blk_cell (i := 1) HX5.out rfl
    have q2 := blk_cell (i := 2) HX5.out rfl
    have q3 := blk_cell (i := 3) HX5.out rfl
    have q4 := blk_cell (i := 4) HX5.out rfl
    have q5 := blk_cell (i := 5) HX5.out rfl
    have ql := blk_lt HX5.out
    go_wp2_with fail
    go_returns
    exact ⟨rfl, HP5.out.le (by omega), HK5.out⟩
  · subst hc
    have HA := Lib.hid (below_alloc (.cells #[.int .i64 8, .int .i64 (rn : Nat), .int .i64 x.a.reg, .int .i64 x.a.num, .int .i64 x.b.reg, .int .i64 x.b.num, .int .i64 x.size, .bool x.signed, .bool x.secret, .int .i64 x.ref, .int .i64 x.off, vx] 74) (Below.refl w.heap.size w))
    have HP0 := Lib.hid (h.later HA.out)
    have HK0 := Lib.hid (KeptL.of_below HA.out)
    have HX0 := Lib.hid (blk_new w (.cells #[.int .i64 8, .int .i64 (rn : Nat), .int .i64 x.a.reg, .int .i64 x.a.num, .int .i64 x.b.reg, .int .i64 x.b.num, .int .i64 x.size, .bool x.signed, .bool x.secret, .int .i64 x.ref, .int .i64 x.off, vx] 74))
    obtain ⟨w1, hw1⟩ : ∃ w1, w1 = w.alloc (.cells #[.int .i64 8, .int .i64 (rn : Nat), .int .i64 x.a.reg, .int .i64 x.a.num, .int .i64 x.b.reg, .int .i64 x.b.num, .int .i64 x.size, .bool x.signed, .bool x.secret, .int .i64 x.ref, .int .i64 x.off, vx] 74) := ⟨_, rfl⟩
    rw [← hw1] at HP0 HK0 HX0
    obtain ⟨gx, hgx⟩ : ∃ gx, gx = w.heap.size := ⟨_, rfl⟩
    rw [← hgx] at HX0
    clear HA h
    clear hop
    have q0 := blk_cell (i := 0) HX0.out rfl
    have q1 := blk_cell (i := 1) HX0.out rfl
    have q2 := blk_cell (i := 2) HX0.out rfl
    have q3 := blk_cell (i := 3) HX0.out rfl
    have q4 := blk_cell (i := 4) HX0.out rfl
    have q5 := blk_cell (i := 5) HX0.out rfl
    have ql := blk_lt HX0.out
    have HGX := Lib.hid hgx
    go_enter Tryd.func66, Tryd.ntmps66
    go_upto_region 1 with (fail)
    rw [← hw1, ← hgx]
    clear hw1 hgx
    go_wp2_with fail
    refine (fetch_lays W0 gk k pl sl hk nb (n + 0) ls0 _ HP0.out (by omega) 10 r10 x.b hb).mono ?_
    rintro e w2 ⟨rfl, hp, hkk⟩
    have HP1 := Lib.hid hp
    have HK1 := Lib.hid (HK0.out.trans hkk)
    have HX1 := Lib.hid (hkk.2 _ _ _ _ HX0.out (by decide) (by decide))
    clear hp hkk q0 q1 q2 q3 q4 q5 ql
    have q0 := blk_cell (i := 0) HX1.out rfl
    have q1 := blk_cell (i := 1) HX1.out rfl
    have q2 := blk_cell (i := 2) HX1.out rfl
    have q3 := blk_cell (i := 3) HX1.out rfl
    have q4 := blk_cell (i := 4) HX1.out rfl
    have q5 := blk_cell (i := 5) HX1.out rfl
    have ql := blk_lt HX1.out
    go_wp2_with fail
    refine (fetch_lays W0 gk k pl sl hk nb (n + 1) ls0 _ HP1.out (by omega) 0 r0 x.a ha).mono ?_
    rintro e w3 ⟨rfl, hp, hkk⟩
    have HP2 := Lib.hid hp
    have HK2 := Lib.hid (HK1.out.trans hkk)
    have HX2 := Lib.hid (hkk.2 _ _ _ _ HX1.out (by decide) (by decide))
    clear hp hkk q0 q1 q2 q3 q4 q5 ql
    have q0 := blk_cell (i := 0) HX2.out rfl
    have q1 := blk_cell (i := 1) HX2.out rfl
    have q2 := blk_cell (i := 2) HX2.out rfl
    have q3 := blk_cell (i := 3) HX2.out rfl
    have q4 := blk_cell (i := 4) HX2.out rfl
    have q5 := blk_cell (i := 5) HX2.out rfl
    have ql := blk_lt HX2.out
    go_wp2_with fail
    refine (ins_lays W0 gk k pl sl nb (n + 2) ls0 _ HP2.out (by omega) 27 0 0 0 0 false 0 [] (none_ok (by omega)) (by decide) (by decide)).mono ?_
    rintro e w4 ⟨rfl, hp, hkk⟩
    have HP3 := Lib.hid hp
    have HK3 := Lib.hid (HK2.out.trans hkk)
    have HX3 := Lib.hid (hkk.2 _ _ _ _ HX2.out (by decide) (by decide))
    clear hp hkk q0 q1 q2 q3 q4 q5 ql
    have q0 := blk_cell (i := 0) HX3.out rfl
    have q1 := blk_cell (i := 1) HX3.out rfl
    have q2 := blk_cell (i := 2) HX3.out rfl
    have q3 := blk_cell (i := 3) HX3.out rfl
    have q4 := blk_cell (i := 4) HX3.out rfl
    have q5 := blk_cell (i := 5) HX3.out rfl
    have ql := blk_lt HX3.out
    go_wp2_with fail
    refine (ins_lays W0 gk k pl sl nb (n + 3) ls0 _ HP3.out (by omega) 28 10 0 0 0 false 0 [] (one_ok (by omega) r10) (by decide) (by decide)).mono ?_
    rintro e w5 ⟨rfl, hp, hkk⟩
    have HP4 := Lib.hid hp
    have HK4 := Lib.hid (HK3.out.trans hkk)
    have HX4 := Lib.hid (hkk.2 _ _ _ _ HX3.out (by decide) (by decide))
    clear hp hkk q0 q1 q2 q3 q4 q5 ql
    have q0 := blk_cell (i := 0) HX4.out rfl
    have q1 := blk_cell (i := 1) HX4.out rfl
    have q2 := blk_cell (i := 2) HX4.out rfl
    have q3 := blk_cell (i := 3) HX4.out rfl
    have q4 := blk_cell (i := 4) HX4.out rfl
    have q5 := blk_cell (i := 5) HX4.out rfl
    have ql := blk_lt HX4.out
    go_wp2_with fail
    refine (keep_lays W0 gk k pl sl hk nb (n + 4) ls0 _ HP4.out (by omega) rn px hr (2) r2).mono ?_
    rintro e w6 ⟨rfl, hp, hkk⟩
    have HP5 := Lib.hid hp
    have HK5 := Lib.hid (HK4.out.trans hkk)
    have HX5 := Lib.hid (hkk.2 _ _ _ _ HX4.out (by decide) (by decide))
    clear hp hkk q0 q1 q2 q3 q4 q5 ql
    have q0 := blk_cell (i := 0) HX5.out rfl
    have q1 := blk_cell (i := 1) HX5.out rfl
    have q2 := blk_cell (i := 2) HX5.out rfl
    have q3 := blk_cell (i := 3) HX5.out rfl
    have q4 := blk_cell (i := 4) HX5.out rfl
    have q5 := blk_cell (i := 5) HX5.out rfl
    have ql := blk_lt HX5.out
    go_wp2_with fail
    go_returns
    exact ⟨rfl, HP5.out.le (by omega), HK5.out⟩
  · subst hc
    have HA := Lib.hid (below_alloc (.cells #[.int .i64 9, .int .i64 (rn : Nat), .int .i64 x.a.reg, .int .i64 x.a.num, .int .i64 x.b.reg, .int .i64 x.b.num, .int .i64 x.size, .bool x.signed, .bool x.secret, .int .i64 x.ref, .int .i64 x.off, vx] 74) (Below.refl w.heap.size w))
    have HP0 := Lib.hid (h.later HA.out)
    have HK0 := Lib.hid (KeptL.of_below HA.out)
    have HX0 := Lib.hid (blk_new w (.cells #[.int .i64 9, .int .i64 (rn : Nat), .int .i64 x.a.reg, .int .i64 x.a.num, .int .i64 x.b.reg, .int .i64 x.b.num, .int .i64 x.size, .bool x.signed, .bool x.secret, .int .i64 x.ref, .int .i64 x.off, vx] 74))
    obtain ⟨w1, hw1⟩ : ∃ w1, w1 = w.alloc (.cells #[.int .i64 9, .int .i64 (rn : Nat), .int .i64 x.a.reg, .int .i64 x.a.num, .int .i64 x.b.reg, .int .i64 x.b.num, .int .i64 x.size, .bool x.signed, .bool x.secret, .int .i64 x.ref, .int .i64 x.off, vx] 74) := ⟨_, rfl⟩
    rw [← hw1] at HP0 HK0 HX0
    obtain ⟨gx, hgx⟩ : ∃ gx, gx = w.heap.size := ⟨_, rfl⟩
    rw [← hgx] at HX0
    clear HA h
    clear hop
    have q0 := blk_cell (i := 0) HX0.out rfl
    have q1 := blk_cell (i := 1) HX0.out rfl
    have q2 := blk_cell (i := 2) HX0.out rfl
    have q3 := blk_cell (i := 3) HX0.out rfl
    have q4 := blk_cell (i := 4) HX0.out rfl
    have q5 := blk_cell (i := 5) HX0.out rfl
    have ql := blk_lt HX0.out
    have HGX := Lib.hid hgx
    go_enter Tryd.func66, Tryd.ntmps66
    go_upto_region 1 with (fail)
    rw [← hw1, ← hgx]
    clear hw1 hgx
    go_wp2_with fail
    refine (fetch_lays W0 gk k pl sl hk nb (n + 0) ls0 _ HP0.out (by omega) 10 r10 x.b hb).mono ?_
    rintro e w2 ⟨rfl, hp, hkk⟩
    have HP1 := Lib.hid hp
    have HK1 := Lib.hid (HK0.out.trans hkk)
    have HX1 := Lib.hid (hkk.2 _ _ _ _ HX0.out (by decide) (by decide))
    clear hp hkk q0 q1 q2 q3 q4 q5 ql
    have q0 := blk_cell (i := 0) HX1.out rfl
    have q1 := blk_cell (i := 1) HX1.out rfl
    have q2 := blk_cell (i := 2) HX1.out rfl
    have q3 := blk_cell (i := 3) HX1.out rfl
    have q4 := blk_cell (i := 4) HX1.out rfl
    have q5 := blk_cell (i := 5) HX1.out rfl
    have ql := blk_lt HX1.out
    go_wp2_with fail
    refine (fetch_lays W0 gk k pl sl hk nb (n + 1) ls0 _ HP1.out (by omega) 0 r0 x.a ha).mono ?_
    rintro e w3 ⟨rfl, hp, hkk⟩
    have HP2 := Lib.hid hp
    have HK2 := Lib.hid (HK1.out.trans hkk)
    have HX2 := Lib.hid (hkk.2 _ _ _ _ HX1.out (by decide) (by decide))
    clear hp hkk q0 q1 q2 q3 q4 q5 ql
    have q0 := blk_cell (i := 0) HX2.out rfl
    have q1 := blk_cell (i := 1) HX2.out rfl
    have q2 := blk_cell (i := 2) HX2.out rfl
    have q3 := blk_cell (i := 3) HX2.out rfl
    have q4 := blk_cell (i := 4) HX2.out rfl
    have q5 := blk_cell (i := 5) HX2.out rfl
    have ql := blk_lt HX2.out
    go_wp2_with fail
    refine (ins_lays W0 gk k pl sl nb (n + 2) ls0 _ HP2.out (by omega) 2 2 0 0 0 false 0 [] (movi_ok r2 ⟨by decide, by decide⟩) (by decide) (by decide)).mono ?_
    rintro e w4 ⟨rfl, hp, hkk⟩
    have HP3 := Lib.hid hp
    have HK3 := Lib.hid (HK2.out.trans hkk)
    have HX3 := Lib.hid (hkk.2 _ _ _ _ HX2.out (by decide) (by decide))
    clear hp hkk q0 q1 q2 q3 q4 q5 ql
    have q0 := blk_cell (i := 0) HX3.out rfl
    have q1 := blk_cell (i := 1) HX3.out rfl
    have q2 := blk_cell (i := 2) HX3.out rfl
    have q3 := blk_cell (i := 3) HX3.out rfl
    have q4 := blk_cell (i := 4) HX3.out rfl
    have q5 := blk_cell (i := 5) HX3.out rfl
    have ql := blk_lt HX3.out
    go_wp2_with fail
    refine (ins_lays W0 gk k pl sl nb (n + 3) ls0 _ HP3.out (by omega) 29 10 0 0 0 false 0 [] (one_ok (by omega) r10) (by decide) (by decide)).mono ?_
    rintro e w5 ⟨rfl, hp, hkk⟩
    have HP4 := Lib.hid hp
    have HK4 := Lib.hid (HK3.out.trans hkk)
    have HX4 := Lib.hid (hkk.2 _ _ _ _ HX3.out (by decide) (by decide))
    clear hp hkk q0 q1 q2 q3 q4 q5 ql
    have q0 := blk_cell (i := 0) HX4.out rfl
    have q1 := blk_cell (i := 1) HX4.out rfl
    have q2 := blk_cell (i := 2) HX4.out rfl
    have q3 := blk_cell (i := 3) HX4.out rfl
    have q4 := blk_cell (i := 4) HX4.out rfl
    have q5 := blk_cell (i := 5) HX4.out rfl
    have ql := blk_lt HX4.out
    go_wp2_with fail
    refine (keep_lays W0 gk k pl sl hk nb (n + 4) ls0 _ HP4.out (by omega) rn px hr (2) r2).mono ?_
    rintro e w6 ⟨rfl, hp, hkk⟩
    have HP5 := Lib.hid hp
    have HK5 := Lib.hid (HK4.out.trans hkk)
    have HX5 := Lib.hid (hkk.2 _ _ _ _ HX4.out (by decide) (by decide))
    clear hp hkk q0 q1 q2 q3 q4 q5 ql
    have q0 := blk_cell (i := 0) HX5.out rfl
    have q1 := blk_cell (i := 1) HX5.out rfl
    have q2 := blk_cell (i := 2) HX5.out rfl
    have q3 := blk_cell (i := 3) HX5.out rfl
    have q4 := blk_cell (i := 4) HX5.out rfl
    have q5 := blk_cell (i := 5) HX5.out rfl
    have ql := blk_lt HX5.out
    go_wp2_with fail
    go_returns
    exact ⟨rfl, HP5.out.le (by omega), HK5.out⟩
theorem slr_nil (w : World) : SlR w 2 ArgR (.slice none 0 0) [] := ⟨none, 0, rfl, by decide, by decide, fun i x hi => by simp at hi⟩
theorem slr_one {w : World} {g : Nat} {a : ArgD} (h : w.heap[g]? = some (.cells #[.int .i64 a.reg, .int .i64 a.num] 52 (0, 0))) (h1 : In64 a.reg) (h2 : In64 a.num) : SlR w 2 ArgR (.slice (some ⟨g, 0, none⟩) 1 1) [a] := by
  refine ⟨_, 1, rfl, Nat.le_refl _, by decide, fun i x hi => ?_⟩
  obtain rfl : i = 0 := by have := (List.getElem?_eq_some_iff.1 hi).1; simpa using this
  obtain rfl : a = x := by simpa using hi
  refine ⟨g, 0, _, rfl, rfl, fun j hj => ?_, rfl, h1, h2⟩
  have hc : j = 0 ∨ j = 1 := by omega
  rcases hc with rfl | rfl
  · exact blk_cell h rfl
  · exact blk_cell h rfl
theorem result_p (hk : KOk W0 k pl) (nb n : Nat) (ls0 : List LineD) (w : World) (h : PSeg W0 gk k pl sl nb ls0 n w) (r : Nat) (x : Int) (hr : pl[r]? = some x) (vl : Value) (al : List ArgD) (hs : SlR w 2 ArgR vl al) (ha : ∀ a ∈ al, ArgOk pl a) (hal : al.length ≤ 100) :
    Calls Tryd.prog 43 #[.pointer (some ⟨gk, 0, none⟩), .int .i64 (r : Nat), vl] w fun e w' => ∃ d, RR d ∧ e = .returned (.int .i64 d) ∧ Below w.heap.size w w' := by
  obtain ⟨_, s, _, _, h3⟩ := h
  exact result_any W0 gk k pl sl hk _ w h3 r x hr vl al hs ha hal
set_option maxRecDepth 100000 in
theorem extend_lays (hk : KOk W0 k pl) (nb n : Nat) (ls0 : List LineD) (w : World) (h : PSeg W0 gk k pl sl nb ls0 n w) (hn : n ≤ 99999000) (x : InsD) (vx : Value) (rn : Nat) (px : Int) (hr : pl[rn]? = some px) (ha : ArgOk pl x.a) (hz : x.size = 1 ∨ x.size = 2 ∨ x.size = 4 ∨ x.size = 8) :
    Calls Tryd.prog 47 #[.pointer (some ⟨gk, 0, none⟩), .agg #[.int .i64 x.op, .int .i64 (rn : Nat), .int .i64 x.a.reg, .int .i64 x.a.num, .int .i64 x.b.reg, .int .i64 x.b.num, .int .i64 x.size, .bool x.signed, .bool x.secret, .int .i64 x.ref, .int .i64 x.off, vx]] w (Lays W0 gk k pl sl nb ls0 (n + 3) w (.tuple #[])) := by
  have r0 : RR 0 := by unfold RR; decide
  by_cases h8 : x.size = 8
  · have b8 : (x.size == 8) = true := by simpa using h8
    have HA := Lib.hid (below_alloc (.cells #[.int .i64 x.op, .int .i64 (rn : Nat), .int .i64 x.a.reg, .int .i64 x.a.num, .int .i64 x.b.reg, .int .i64 x.b.num, .int .i64 x.size, .bool x.signed, .bool x.secret, .int .i64 x.ref, .int .i64 x.off, vx] 74) (Below.refl w.heap.size w))
    have HP0 := Lib.hid (h.later HA.out)
    have HK0 := Lib.hid (KeptL.of_below HA.out)
    have HX0 := Lib.hid (blk_new w (.cells #[.int .i64 x.op, .int .i64 (rn : Nat), .int .i64 x.a.reg, .int .i64 x.a.num, .int .i64 x.b.reg, .int .i64 x.b.num, .int .i64 x.size, .bool x.signed, .bool x.secret, .int .i64 x.ref, .int .i64 x.off, vx] 74))
    obtain ⟨w1, hw1⟩ : ∃ w1, w1 = w.alloc (.cells #[.int .i64 x.op, .int .i64 (rn : Nat), .int .i64 x.a.reg, .int .i64 x.a.num, .int .i64 x.b.reg, .int .i64 x.b.num, .int .i64 x.size, .bool x.signed, .bool x.secret, .int .i64 x.ref, .int .i64 x.off, vx] 74) := ⟨_, rfl⟩
    rw [← hw1] at HP0 HK0 HX0
    obtain ⟨gx, hgx⟩ : ∃ gx, gx = w.heap.size := ⟨_, rfl⟩
    rw [← hgx] at HX0
    clear HA h
    clear h8
    have q1 := blk_cell (i := 1) HX0.out rfl
    have q2 := blk_cell (i := 2) HX0.out rfl
    have q3 := blk_cell (i := 3) HX0.out rfl
    have q6 := blk_cell (i := 6) HX0.out rfl
    have ql := blk_lt HX0.out
    have HGX := Lib.hid hgx
    go_enter Tryd.func47, Tryd.ntmps47
    go_upto_region 1 with (fail)
    rw [← hw1, ← hgx]
    clear hw1 hgx
    go_wp2_with fail
    refine (result_p W0 gk k pl sl hk nb (n + 0) ls0 _ HP0.out rn px hr _ [] (slr_nil _) (fun a h => by simp at h) (by simp)).mono ?_
    rintro e w2 ⟨d, hd, rfl, hbb⟩
    have HP1 := Lib.hid (HP0.out.later hbb)
    have HK1 := Lib.hid (HK0.out.trans (KeptL.of_below hbb))
    have HX1 := Lib.hid (blk_below HX0.out hbb)
    clear hbb q1 q2 q3 q6 ql
    have q1 := blk_cell (i := 1) HX1.out rfl
    have q2 := blk_cell (i := 2) HX1.out rfl
    have q3 := blk_cell (i := 3) HX1.out rfl
    have q6 := blk_cell (i := 6) HX1.out rfl
    have ql := blk_lt HX1.out
    go_wp2_with fail
    refine (fetch_lays W0 gk k pl sl hk nb (n + 0) ls0 _ HP1.out (by omega) _ hd x.a ha).mono ?_
    rintro e w3 ⟨rfl, hp, hkk⟩
    have HP2 := Lib.hid hp
    have HK2 := Lib.hid (HK1.out.trans hkk)
    have HX2 := Lib.hid (hkk.2 _ _ _ _ HX1.out (by decide) (by decide))
    clear hp hkk q1 q2 q3 q6 ql
    have q1 := blk_cell (i := 1) HX2.out rfl
    have q2 := blk_cell (i := 2) HX2.out rfl
    have q3 := blk_cell (i := 3) HX2.out rfl
    have q6 := blk_cell (i := 6) HX2.out rfl
    have ql := blk_lt HX2.out
    go_wp2_with fail
    refine (keep_lays W0 gk k pl sl hk nb (n + 1) ls0 _ HP2.out (by omega) rn px hr (_) hd).mono ?_
    rintro e w4 ⟨rfl, hp, hkk⟩
    have HP3 := Lib.hid hp
    have HK3 := Lib.hid (HK2.out.trans hkk)
    have HX3 := Lib.hid (hkk.2 _ _ _ _ HX2.out (by decide) (by decide))
    clear hp hkk q1 q2 q3 q6 ql
    have q1 := blk_cell (i := 1) HX3.out rfl
    have q2 := blk_cell (i := 2) HX3.out rfl
    have q3 := blk_cell (i := 3) HX3.out rfl
    have q6 := blk_cell (i := 6) HX3.out rfl
    have ql := blk_lt HX3.out
    go_wp2_with fail
    go_returns
    exact ⟨rfl, HP3.out.le (by omega), HK3.out⟩
  · have b8 : (x.size == 8) = false := by simpa using h8
    have HA := Lib.hid (below_alloc (.cells #[.int .i64 x.op, .int .i64 (rn : Nat), .int .i64 x.a.reg, .int .i64 x.a.num, .int .i64 x.b.reg, .int .i64 x.b.num, .int .i64 x.size, .bool x.signed, .bool x.secret, .int .i64 x.ref, .int .i64 x.off, vx] 74) (Below.refl w.heap.size w))
    have HP0 := Lib.hid (h.later HA.out)
    have HK0 := Lib.hid (KeptL.of_below HA.out)
    have HX0 := Lib.hid (blk_new w (.cells #[.int .i64 x.op, .int .i64 (rn : Nat), .int .i64 x.a.reg, .int .i64 x.a.num, .int .i64 x.b.reg, .int .i64 x.b.num, .int .i64 x.size, .bool x.signed, .bool x.secret, .int .i64 x.ref, .int .i64 x.off, vx] 74))
    obtain ⟨w1, hw1⟩ : ∃ w1, w1 = w.alloc (.cells #[.int .i64 x.op, .int .i64 (rn : Nat), .int .i64 x.a.reg, .int .i64 x.a.num, .int .i64 x.b.reg, .int .i64 x.b.num, .int .i64 x.size, .bool x.signed, .bool x.secret, .int .i64 x.ref, .int .i64 x.off, vx] 74) := ⟨_, rfl⟩
    rw [← hw1] at HP0 HK0 HX0
    obtain ⟨gx, hgx⟩ : ∃ gx, gx = w.heap.size := ⟨_, rfl⟩
    rw [← hgx] at HX0
    clear HA h
    have HZ := Lib.hid (show x.size = 1 ∨ x.size = 2 ∨ x.size = 4 by omega)
    clear h8 hz
    have q1 := blk_cell (i := 1) HX0.out rfl
    have q2 := blk_cell (i := 2) HX0.out rfl
    have q3 := blk_cell (i := 3) HX0.out rfl
    have q6 := blk_cell (i := 6) HX0.out rfl
    have q7 := blk_cell (i := 7) HX0.out rfl
    have ql := blk_lt HX0.out
    have HGX := Lib.hid hgx
    go_enter Tryd.func47, Tryd.ntmps47
    go_upto_region 1 with (fail)
    rw [← hw1, ← hgx]
    clear hw1 hgx
    go_wp2_with fail
    refine (result_p W0 gk k pl sl hk nb (n + 0) ls0 _ HP0.out rn px hr _ [] (slr_nil _) (fun a h => by simp at h) (by simp)).mono ?_
    rintro e w2 ⟨d, hd, rfl, hbb⟩
    have HP1 := Lib.hid (HP0.out.later hbb)
    have HK1 := Lib.hid (HK0.out.trans (KeptL.of_below hbb))
    have HX1 := Lib.hid (blk_below HX0.out hbb)
    clear hbb q1 q2 q3 q6 q7 ql
    have q1 := blk_cell (i := 1) HX1.out rfl
    have q2 := blk_cell (i := 2) HX1.out rfl
    have q3 := blk_cell (i := 3) HX1.out rfl
    have q6 := blk_cell (i := 6) HX1.out rfl
    have q7 := blk_cell (i := 7) HX1.out rfl
    have ql := blk_lt HX1.out
    go_upto_region 4 with (fail)
    refine upto_begin 10 (fun w' => w'.cell? ⟨gx, 6, none⟩ = some (.int .i64 x.size) ∧ w'.cell? ⟨gx, 7, none⟩ = some (.bool x.signed)) (by kernel_rfl) ?_ (fun hU0 => ?_)
    · exact ⟨q6, q7⟩
    first | refine upto_run 0 (v := ?_) hU0 (by kernel_rfl) rfl (by kernel_rfl) (by kernel_rfl) (by kernel_rfl) (by kernel_rfl) (fun _ _ _ h => h) (Or.inl ⟨by rfl, ?_⟩) ?_ | fail
    rotate_left
    · first | (intro w _; go_simp; with_reducible rfl) | (intro w _; go_simp; done) | (intro w _; go_simp; rw [if_neg (by omega)]) | fail
    try simp only [Act.put, List.setIfInBounds_toArray, List.set_cons_zero, List.set_cons_succ]
    first | refine upto_run 1 (v := ?_) hU0 (by kernel_rfl) rfl (by kernel_rfl) (by kernel_rfl) (by kernel_rfl) (by kernel_rfl) (fun _ _ _ h => h) (Or.inl ⟨by rfl, ?_⟩) ?_ | fail
    rotate_left
    · first | (intro w _; go_simp; with_reducible rfl) | (intro w _; go_simp; done) | (intro w _; go_simp; rw [if_neg (by omega)]) | fail
    try simp only [Act.put, List.setIfInBounds_toArray, List.set_cons_zero, List.set_cons_succ]
    first | refine upto_run 2 (v := ?_) hU0 (by kernel_rfl) rfl (by kernel_rfl) (by kernel_rfl) (by kernel_rfl) (by kernel_rfl) (fun _ _ _ h => h) (Or.inl ⟨by rfl, ?_⟩) ?_ | fail
    rotate_left
    · first | (intro w _; go_simp; with_reducible rfl) | (intro w _; go_simp; done) | (intro w _; go_simp; rw [if_neg (by omega)]) | fail
    try simp only [Act.put, List.setIfInBounds_toArray, List.set_cons_zero, List.set_cons_succ]
    first | refine upto_run 3 (v := ?_) hU0 (by kernel_rfl) rfl (by kernel_rfl) (by kernel_rfl) (by kernel_rfl) (by kernel_rfl) (fun _ _ _ h => h) (Or.inl ⟨by rfl, ?_⟩) ?_ | fail
    rotate_left
    · first | (intro w _; go_simp; with_reducible rfl) | (intro w _; go_simp; done) | (intro w _; go_simp; rw [if_neg (by omega)]) | fail
    try simp only [Act.put, List.setIfInBounds_toArray, List.set_cons_zero, List.set_cons_succ]
    first | refine upto_run 6 (v := ?_) hU0 (by kernel_rfl) rfl (by kernel_rfl) (by kernel_rfl) (by kernel_rfl) (by kernel_rfl) (fun _ _ _ h => h) (Or.inl ⟨by rfl, ?_⟩) ?_ | fail
    rotate_left
    · first | (intro w _; go_simp; with_reducible rfl) | (intro w _; go_simp; done) | (intro w _; go_simp; rw [if_neg (by omega)]) | fail
    try simp only [Act.put, List.setIfInBounds_toArray, List.set_cons_zero, List.set_cons_succ]
    first | refine upto_read 7 (v := ?_) hU0 (by kernel_rfl) rfl (by kernel_rfl) (by kernel_rfl) (by kernel_rfl) (by kernel_rfl) (by kernel_rfl) (fun _ _ _ h => h) (Or.inl ⟨by rfl, ?_⟩) ?_ | fail
    rotate_left
    · first | (intro w hSw; (try dsimp only at hSw); go_simp; with_reducible rfl) | (intro w hSw; (try dsimp only at hSw); go_simp; done) | fail
    try simp only [Act.put, List.setIfInBounds_toArray, List.set_cons_zero, List.set_cons_succ]
    first | refine upto_run 8 (v := ?_) hU0 (by kernel_rfl) rfl (by kernel_rfl) (by kernel_rfl) (by kernel_rfl) (by kernel_rfl) (fun _ _ _ h => h) (Or.inl ⟨by rfl, ?_⟩) ?_ | fail
    rotate_left
    · first | (intro w _; go_simp; with_reducible rfl) | (intro w _; go_simp; done) | (intro w _; go_simp; rw [if_neg (by omega)]) | fail
    try simp only [Act.put, List.setIfInBounds_toArray, List.set_cons_zero, List.set_cons_succ]
    first | refine upto_read 9 (v := ?_) hU0 (by kernel_rfl) rfl (by kernel_rfl) (by kernel_rfl) (by kernel_rfl) (by kernel_rfl) (by kernel_rfl) (fun _ _ _ h => h) (Or.inl ⟨by rfl, ?_⟩) ?_ | fail
    rotate_left
    · first | (intro w hSw; (try dsimp only at hSw); go_simp; with_reducible rfl) | (intro w hSw; (try dsimp only at hSw); go_simp; done) | fail
    try simp only [Act.put, List.setIfInBounds_toArray, List.set_cons_zero, List.set_cons_succ]
    first | refine upto_next 4 rfl (by kernel_rfl) (fun K hK => ?_) | fail
    go_simp
    first | refine hK.out _ _ ?_ (fun hU1 => ?_) | (go_wp2_with fail; refine hK.out _ _ ?_ (fun hU1 => ?_)) | fail
    · exact Or.inr ⟨q6, q7⟩
    clear hK K
    clear hU0
    try simp only [Act.put, List.setIfInBounds_toArray, List.set_cons_zero, List.set_cons_succ]
    first | refine upto_next 5 rfl (by kernel_rfl) (fun K hK => ?_) | fail
    go_simp
    go_at_call 49
    refine (have_gives W0 gk k pl sl hk nb n ls0 _ (HP1.out.later (Below.drew (Below.refl _ _))) (by omega) _ r0 x.a ha).mono ?_
    rintro e w8 ⟨b, hb, rfl, hp, hkk⟩
    have HP8 := Lib.hid hp
    have HK8 := Lib.hid ((HK1.out.trans (KeptL.of_below (Below.drew (Below.refl _ _)))).trans hkk)
    have HX8 := Lib.hid (hkk.2 _ _ _ _ (blk_below HX1.out (Below.drew (Below.refl _ _))) (by decide) (by decide))
    clear hp hkk
    try go_simp
    first | refine hK.out _ _ ?_ (fun hU2 => ?_) | (go_wp2_with fail; refine hK.out _ _ ?_ (fun hU2 => ?_)) | fail
    · exact Or.inr ⟨blk_cell HX8.out rfl, blk_cell HX8.out rfl⟩
    clear hK K
    clear hU1
    try simp only [Act.put, List.setIfInBounds_toArray, List.set_cons_zero, List.set_cons_succ]
    first | refine upto_next 10 rfl (by kernel_rfl) (fun K hK => ?_) | fail
    go_simp
    first | refine hK.out _ _ ?_ (fun hU3 => ?_) | (go_wp2_with fail; refine hK.out _ _ ?_ (fun hU3 => ?_)) | fail
    · exact Or.inl (by kernel_rfl)
    clear hK K
    clear hU2
    try simp only [Act.put, List.setIfInBounds_toArray, List.set_cons_zero, List.set_cons_succ]
    first | refine upto_next 11 rfl (by kernel_rfl) (fun K hK => ?_) | fail
    go_simp
    go_at_call 22
    refine (ins_lays W0 gk k pl sl nb (n + 1) ls0 _ HP8.out (by omega) 30 d b 0 x.size x.signed 0 [] (ext_ok hd hb HZ.out) (by decide) (by decide)).mono ?_
    rintro e w9 ⟨rfl, hp, hkk⟩
    have HP2 := Lib.hid hp
    have HK2 := Lib.hid (HK8.out.trans hkk)
    have HX2 := Lib.hid (hkk.2 _ _ _ _ HX8.out (by decide) (by decide))
    clear hp hkk
    try go_simp
    first | refine hK.out _ _ ?_ (fun hU4 => ?_) | (go_wp2_with fail; refine hK.out _ _ ?_ (fun hU4 => ?_)) | fail
    · exact Or.inl (by kernel_rfl)
    clear hK K
    clear hU3
    try simp only [Act.put, List.setIfInBounds_toArray, List.set_cons_zero, List.set_cons_succ]
    refine upto_done (by kernel_rfl) ?_ _
    clear q1 q2 q3 q6 q7 ql
    have q1 := blk_cell (i := 1) HX2.out rfl
    have ql := blk_lt HX2.out
    go_wp2_with fail
    refine (keep_lays W0 gk k pl sl hk nb (n + 2) ls0 _ HP2.out (by omega) rn px hr (_) hd).mono ?_
    rintro e w4 ⟨rfl, hp, hkk⟩
    have HP3 := Lib.hid hp
    have HK3 := Lib.hid (HK2.out.trans hkk)
    have HX3 := Lib.hid (hkk.2 _ _ _ _ HX2.out (by decide) (by decide))
    clear hp hkk q1 ql
    have q1 := blk_cell (i := 1) HX3.out rfl
    have ql := blk_lt HX3.out
    go_wp2_with fail
    go_returns
    exact ⟨rfl, HP3.out.le (by omega), HK3.out⟩
/-- a compare: the condition that tells -/
def Cond9 (w : World) (nb : Nat) (ls0 : List LineD) (n : Nat) (e : Ending) (w' : World) : Prop := ∃ c, (0 ≤ c ∧ c ≤ 9) ∧ Lays W0 gk k pl sl nb ls0 n w (.int .i64 c) e w'
set_option maxRecDepth 100000 in
theorem compare_any (hk : KOk W0 k pl) (nb n : Nat) (ls0 : List LineD) (w : World) (h : PSeg W0 gk k pl sl nb ls0 n w) (hn : n ≤ 99999000) (op : Int) (a b : ArgD) (ha : ArgOk pl a) (hb : ArgOk pl b) (ho : 16 ≤ op ∧ op ≤ 21) :
    Calls Tryd.prog 46 #[.pointer (some ⟨gk, 0, none⟩), .int .i64 op, .agg #[.int .i64 a.reg, .int .i64 a.num], .agg #[.int .i64 b.reg, .int .i64 b.num]] w (Cond9 W0 gk k pl sl w nb ls0 (n + 3)) := by
  have r0 : RR 0 := by unfold RR; decide
  have r10 : RR 10 := by unfold RR; decide
  have hba : Below w.heap.size w (w.alloc (.cells #[.int .i64 a.reg, .int .i64 a.num] 52)) := below_alloc _ (Below.refl w.heap.size w)
  have hbb : Below w.heap.size w ((w.alloc (.cells #[.int .i64 a.reg, .int .i64 a.num] 52)).alloc (.cells #[.int .i64 b.reg, .int .i64 b.num] 52)) := below_over hba (below_alloc _ (Below.refl _ _))
  have hxa : ((w.alloc (.cells #[.int .i64 a.reg, .int .i64 a.num] 52)).alloc (.cells #[.int .i64 b.reg, .int .i64 b.num] 52)).heap[w.heap.size]? = some (.cells #[.int .i64 a.reg, .int .i64 a.num] 52 (0, 0)) := blk_below (blk_new w _) (below_alloc _ (Below.refl _ _))
  have hxb : ((w.alloc (.cells #[.int .i64 a.reg, .int .i64 a.num] 52)).alloc (.cells #[.int .i64 b.reg, .int .i64 b.num] 52)).heap[w.heap.size + 1]? = some (.cells #[.int .i64 b.reg, .int .i64 b.num] 52 (0, 0)) := by
    have := blk_new (w.alloc (.cells #[.int .i64 a.reg, .int .i64 a.num] 52)) (.cells #[.int .i64 b.reg, .int .i64 b.num] 52)
    rwa [show (w.alloc (.cells #[.int .i64 a.reg, .int .i64 a.num] 52)).heap.size = w.heap.size + 1 from World.size_alloc _ _] at this
  obtain ⟨w1, hw1⟩ : ∃ w1, w1 = (w.alloc (.cells #[.int .i64 a.reg, .int .i64 a.num] 52)).alloc (.cells #[.int .i64 b.reg, .int .i64 b.num] 52) := ⟨_, rfl⟩
  rw [← hw1] at hbb hxa hxb
  obtain ⟨gx, hgx⟩ : ∃ gx, gx = w.heap.size := ⟨_, rfl⟩
  rw [← hgx] at hxa hxb
  obtain ⟨gy, hgy⟩ : ∃ gy, gy = gx + 1 := ⟨_, rfl⟩
  rw [← hgy] at hxb
  have HP0 := Lib.hid (h.later hbb)
  have HK0 := Lib.hid (KeptL.of_below hbb)
  have HX0 := Lib.hid hxb
  have t0 := blk_cell (i := 0) hxa rfl
  have t1 := blk_cell (i := 1) hxa rfl
  have q0 := blk_cell (i := 0) hxb rfl
  have q1 := blk_cell (i := 1) hxb rfl
  have tl := blk_lt hxa
  have ql := blk_lt hxb
  have HBo := Lib.hid hb
  have hb64 := hb.2.1
  have HSm := Lib.hid (fun (w2 : World) => small_any w2 b.num hb64)
  have hbu := hb64.1
  have hbv := hb64.2
  clear h hba hbb hxa hxb hb hb64
  have hc : op = 16 ∨ op = 17 ∨ op = 18 ∨ op = 19 ∨ op = 20 ∨ op = 21 := by omega
  clear ho
  by_cases hneg : b.reg < 0
  · have dl : decide (b.reg < 0) = true := decide_eq_true hneg
    by_cases hs : small32 b.num = true
    · rw [hs] at HSm
      have HN := Lib.hid (show -2147483648 ≤ b.num ∧ b.num ≤ 2147483647 from of_decide_eq_true hs)
      clear hs
      rcases hc with rfl | rfl | rfl | rfl | rfl | rfl
      · go_enter Tryd.func46, Tryd.ntmps46
        go_upto_region 1 with (fail)
        rw [← hw1, ← hgx, ← hgy]
        clear hw1 hgx hgy
        go_wp2_with fail
        refine (have_gives W0 gk k pl sl hk nb (n + 0) ls0 _ HP0.out (by omega) 0 r0 a ha).mono ?_
        rintro e w2 ⟨v, hv, rfl, hp, hkk⟩
        have HP1 := Lib.hid hp
        have HK1 := Lib.hid (HK0.out.trans hkk)
        have HX1 := Lib.hid (hkk.2 _ _ _ _ HX0.out (by decide) (by decide))
        clear hp hkk q0 q1 ql
        have q0 := blk_cell (i := 0) HX1.out rfl
        have q1 := blk_cell (i := 1) HX1.out rfl
        have ql := blk_lt HX1.out
        clear t0 t1 tl
        go_wp2_with fail
        refine (HSm.out _).mono ?_
        rintro e w5 ⟨rfl, rfl⟩
        go_wp2_with fail
        refine (ins_lays W0 gk k pl sl nb (n + 1) ls0 _ HP1.out (by omega) 20 v 0 b.num 0 false 0 [] (num_ok (by omega) (Or.inl hv) HN.out.1 HN.out.2) (by decide) (by decide)).mono ?_
        rintro e w3 ⟨rfl, hp, hkk⟩
        have HP2 := Lib.hid hp
        have HK2 := Lib.hid (HK1.out.trans hkk)
        have HX2 := Lib.hid (hkk.2 _ _ _ _ HX1.out (by decide) (by decide))
        clear hp hkk q0 q1 ql
        have q0 := blk_cell (i := 0) HX2.out rfl
        have q1 := blk_cell (i := 1) HX2.out rfl
        have ql := blk_lt HX2.out
        go_wp2_with fail
        go_returns
        exact ⟨_, by decide, rfl, HP2.out.le (by omega), HK2.out⟩
      · go_enter Tryd.func46, Tryd.ntmps46
        go_upto_region 1 with (fail)
        rw [← hw1, ← hgx, ← hgy]
        clear hw1 hgx hgy
        go_wp2_with fail
        refine (have_gives W0 gk k pl sl hk nb (n + 0) ls0 _ HP0.out (by omega) 0 r0 a ha).mono ?_
        rintro e w2 ⟨v, hv, rfl, hp, hkk⟩
        have HP1 := Lib.hid hp
        have HK1 := Lib.hid (HK0.out.trans hkk)
        have HX1 := Lib.hid (hkk.2 _ _ _ _ HX0.out (by decide) (by decide))
        clear hp hkk q0 q1 ql
        have q0 := blk_cell (i := 0) HX1.out rfl
        have q1 := blk_cell (i := 1) HX1.out rfl
        have ql := blk_lt HX1.out
        clear t0 t1 tl
        go_wp2_with fail
        refine (HSm.out _).mono ?_
        rintro e w5 ⟨rfl, rfl⟩
        go_wp2_with fail
        refine (ins_lays W0 gk k pl sl nb (n + 1) ls0 _ HP1.out (by omega) 20 v 0 b.num 0 false 0 [] (num_ok (by omega) (Or.inl hv) HN.out.1 HN.out.2) (by decide) (by decide)).mono ?_
        rintro e w3 ⟨rfl, hp, hkk⟩
        have HP2 := Lib.hid hp
        have HK2 := Lib.hid (HK1.out.trans hkk)
        have HX2 := Lib.hid (hkk.2 _ _ _ _ HX1.out (by decide) (by decide))
        clear hp hkk q0 q1 ql
        have q0 := blk_cell (i := 0) HX2.out rfl
        have q1 := blk_cell (i := 1) HX2.out rfl
        have ql := blk_lt HX2.out
        go_wp2_with fail
        go_returns
        exact ⟨_, by decide, rfl, HP2.out.le (by omega), HK2.out⟩
      · go_enter Tryd.func46, Tryd.ntmps46
        go_upto_region 1 with (fail)
        rw [← hw1, ← hgx, ← hgy]
        clear hw1 hgx hgy
        go_wp2_with fail
        refine (have_gives W0 gk k pl sl hk nb (n + 0) ls0 _ HP0.out (by omega) 0 r0 a ha).mono ?_
        rintro e w2 ⟨v, hv, rfl, hp, hkk⟩
        have HP1 := Lib.hid hp
        have HK1 := Lib.hid (HK0.out.trans hkk)
        have HX1 := Lib.hid (hkk.2 _ _ _ _ HX0.out (by decide) (by decide))
        clear hp hkk q0 q1 ql
        have q0 := blk_cell (i := 0) HX1.out rfl
        have q1 := blk_cell (i := 1) HX1.out rfl
        have ql := blk_lt HX1.out
        clear t0 t1 tl
        go_wp2_with fail
        refine (HSm.out _).mono ?_
        rintro e w5 ⟨rfl, rfl⟩
        go_wp2_with fail
        refine (ins_lays W0 gk k pl sl nb (n + 1) ls0 _ HP1.out (by omega) 20 v 0 b.num 0 false 0 [] (num_ok (by omega) (Or.inl hv) HN.out.1 HN.out.2) (by decide) (by decide)).mono ?_
        rintro e w3 ⟨rfl, hp, hkk⟩
        have HP2 := Lib.hid hp
        have HK2 := Lib.hid (HK1.out.trans hkk)
        have HX2 := Lib.hid (hkk.2 _ _ _ _ HX1.out (by decide) (by decide))
        clear hp hkk q0 q1 ql
        have q0 := blk_cell (i := 0) HX2.out rfl
        have q1 := blk_cell (i := 1) HX2.out rfl
        have ql := blk_lt HX2.out
        go_wp2_with fail
        go_returns
        exact ⟨_, by decide, rfl, HP2.out.le (by omega), HK2.out⟩
      · go_enter Tryd.func46, Tryd.ntmps46
        go_upto_region 1 with (fail)
        rw [← hw1, ← hgx, ← hgy]
        clear hw1 hgx hgy
        go_wp2_with fail
        refine (have_gives W0 gk k pl sl hk nb (n + 0) ls0 _ HP0.out (by omega) 0 r0 a ha).mono ?_
        rintro e w2 ⟨v, hv, rfl, hp, hkk⟩
        have HP1 := Lib.hid hp
        have HK1 := Lib.hid (HK0.out.trans hkk)
        have HX1 := Lib.hid (hkk.2 _ _ _ _ HX0.out (by decide) (by decide))
        clear hp hkk q0 q1 ql
        have q0 := blk_cell (i := 0) HX1.out rfl
        have q1 := blk_cell (i := 1) HX1.out rfl
        have ql := blk_lt HX1.out
        clear t0 t1 tl
        go_wp2_with fail
        refine (HSm.out _).mono ?_
        rintro e w5 ⟨rfl, rfl⟩
        go_wp2_with fail
        refine (ins_lays W0 gk k pl sl nb (n + 1) ls0 _ HP1.out (by omega) 20 v 0 b.num 0 false 0 [] (num_ok (by omega) (Or.inl hv) HN.out.1 HN.out.2) (by decide) (by decide)).mono ?_
        rintro e w3 ⟨rfl, hp, hkk⟩
        have HP2 := Lib.hid hp
        have HK2 := Lib.hid (HK1.out.trans hkk)
        have HX2 := Lib.hid (hkk.2 _ _ _ _ HX1.out (by decide) (by decide))
        clear hp hkk q0 q1 ql
        have q0 := blk_cell (i := 0) HX2.out rfl
        have q1 := blk_cell (i := 1) HX2.out rfl
        have ql := blk_lt HX2.out
        go_wp2_with fail
        go_returns
        exact ⟨_, by decide, rfl, HP2.out.le (by omega), HK2.out⟩
      · go_enter Tryd.func46, Tryd.ntmps46
        go_upto_region 1 with (fail)
        rw [← hw1, ← hgx, ← hgy]
        clear hw1 hgx hgy
        go_wp2_with fail
        refine (have_gives W0 gk k pl sl hk nb (n + 0) ls0 _ HP0.out (by omega) 0 r0 a ha).mono ?_
        rintro e w2 ⟨v, hv, rfl, hp, hkk⟩
        have HP1 := Lib.hid hp
        have HK1 := Lib.hid (HK0.out.trans hkk)
        have HX1 := Lib.hid (hkk.2 _ _ _ _ HX0.out (by decide) (by decide))
        clear hp hkk q0 q1 ql
        have q0 := blk_cell (i := 0) HX1.out rfl
        have q1 := blk_cell (i := 1) HX1.out rfl
        have ql := blk_lt HX1.out
        clear t0 t1 tl
        go_wp2_with fail
        refine (HSm.out _).mono ?_
        rintro e w5 ⟨rfl, rfl⟩
        go_wp2_with fail
        refine (ins_lays W0 gk k pl sl nb (n + 1) ls0 _ HP1.out (by omega) 20 v 0 b.num 0 false 0 [] (num_ok (by omega) (Or.inl hv) HN.out.1 HN.out.2) (by decide) (by decide)).mono ?_
        rintro e w3 ⟨rfl, hp, hkk⟩
        have HP2 := Lib.hid hp
        have HK2 := Lib.hid (HK1.out.trans hkk)
        have HX2 := Lib.hid (hkk.2 _ _ _ _ HX1.out (by decide) (by decide))
        clear hp hkk q0 q1 ql
        have q0 := blk_cell (i := 0) HX2.out rfl
        have q1 := blk_cell (i := 1) HX2.out rfl
        have ql := blk_lt HX2.out
        go_wp2_with fail
        go_returns
        exact ⟨_, by decide, rfl, HP2.out.le (by omega), HK2.out⟩
      · go_enter Tryd.func46, Tryd.ntmps46
        go_upto_region 1 with (fail)
        rw [← hw1, ← hgx, ← hgy]
        clear hw1 hgx hgy
        go_wp2_with fail
        refine (have_gives W0 gk k pl sl hk nb (n + 0) ls0 _ HP0.out (by omega) 0 r0 a ha).mono ?_
        rintro e w2 ⟨v, hv, rfl, hp, hkk⟩
        have HP1 := Lib.hid hp
        have HK1 := Lib.hid (HK0.out.trans hkk)
        have HX1 := Lib.hid (hkk.2 _ _ _ _ HX0.out (by decide) (by decide))
        clear hp hkk q0 q1 ql
        have q0 := blk_cell (i := 0) HX1.out rfl
        have q1 := blk_cell (i := 1) HX1.out rfl
        have ql := blk_lt HX1.out
        clear t0 t1 tl
        go_wp2_with fail
        refine (HSm.out _).mono ?_
        rintro e w5 ⟨rfl, rfl⟩
        go_wp2_with fail
        refine (ins_lays W0 gk k pl sl nb (n + 1) ls0 _ HP1.out (by omega) 20 v 0 b.num 0 false 0 [] (num_ok (by omega) (Or.inl hv) HN.out.1 HN.out.2) (by decide) (by decide)).mono ?_
        rintro e w3 ⟨rfl, hp, hkk⟩
        have HP2 := Lib.hid hp
        have HK2 := Lib.hid (HK1.out.trans hkk)
        have HX2 := Lib.hid (hkk.2 _ _ _ _ HX1.out (by decide) (by decide))
        clear hp hkk q0 q1 ql
        have q0 := blk_cell (i := 0) HX2.out rfl
        have q1 := blk_cell (i := 1) HX2.out rfl
        have ql := blk_lt HX2.out
        go_wp2_with fail
        go_returns
        exact ⟨_, by decide, rfl, HP2.out.le (by omega), HK2.out⟩
    · have hs2 : small32 b.num = false := by simpa using hs
      rw [hs2] at HSm
      clear hs
      rcases hc with rfl | rfl | rfl | rfl | rfl | rfl
      · go_enter Tryd.func46, Tryd.ntmps46
        go_upto_region 1 with (fail)
        rw [← hw1, ← hgx, ← hgy]
        clear hw1 hgx hgy
        go_wp2_with fail
        refine (have_gives W0 gk k pl sl hk nb (n + 0) ls0 _ HP0.out (by omega) 0 r0 a ha).mono ?_
        rintro e w2 ⟨v, hv, rfl, hp, hkk⟩
        have HP1 := Lib.hid hp
        have HK1 := Lib.hid (HK0.out.trans hkk)
        have HX1 := Lib.hid (hkk.2 _ _ _ _ HX0.out (by decide) (by decide))
        clear hp hkk q0 q1 ql
        have q0 := blk_cell (i := 0) HX1.out rfl
        have q1 := blk_cell (i := 1) HX1.out rfl
        have ql := blk_lt HX1.out
        clear t0 t1 tl
        go_wp2_with fail
        refine (HSm.out _).mono ?_
        rintro e w5 ⟨rfl, rfl⟩
        go_wp2_with fail
        refine (have_gives W0 gk k pl sl hk nb (n + 1) ls0 _ HP1.out (by omega) 10 r10 b HBo.out).mono ?_
        rintro e w3 ⟨u, hu, rfl, hp, hkk⟩
        have HP2 := Lib.hid hp
        have HK2 := Lib.hid (HK1.out.trans hkk)
        have HX2 := Lib.hid (hkk.2 _ _ _ _ HX1.out (by decide) (by decide))
        clear hp hkk q0 q1 ql
        have q0 := blk_cell (i := 0) HX2.out rfl
        have q1 := blk_cell (i := 1) HX2.out rfl
        have ql := blk_lt HX2.out
        go_wp2_with fail
        refine (ins_lays W0 gk k pl sl nb (n + 2) ls0 _ HP2.out (by omega) 13 v u 0 0 false 0 [] (two_ok (by omega) hv hu) (by decide) (by decide)).mono ?_
        rintro e w4 ⟨rfl, hp, hkk⟩
        have HP3 := Lib.hid hp
        have HK3 := Lib.hid (HK2.out.trans hkk)
        have HX3 := Lib.hid (hkk.2 _ _ _ _ HX2.out (by decide) (by decide))
        clear hp hkk q0 q1 ql
        have q0 := blk_cell (i := 0) HX3.out rfl
        have q1 := blk_cell (i := 1) HX3.out rfl
        have ql := blk_lt HX3.out
        go_wp2_with fail
        go_returns
        exact ⟨_, by decide, rfl, HP3.out.le (by omega), HK3.out⟩
      · go_enter Tryd.func46, Tryd.ntmps46
        go_upto_region 1 with (fail)
        rw [← hw1, ← hgx, ← hgy]
        clear hw1 hgx hgy
        go_wp2_with fail
        refine (have_gives W0 gk k pl sl hk nb (n + 0) ls0 _ HP0.out (by omega) 0 r0 a ha).mono ?_
        rintro e w2 ⟨v, hv, rfl, hp, hkk⟩
        have HP1 := Lib.hid hp
        have HK1 := Lib.hid (HK0.out.trans hkk)
        have HX1 := Lib.hid (hkk.2 _ _ _ _ HX0.out (by decide) (by decide))
        clear hp hkk q0 q1 ql
        have q0 := blk_cell (i := 0) HX1.out rfl
        have q1 := blk_cell (i := 1) HX1.out rfl
        have ql := blk_lt HX1.out
        clear t0 t1 tl
        go_wp2_with fail
        refine (HSm.out _).mono ?_
        rintro e w5 ⟨rfl, rfl⟩
        go_wp2_with fail
        refine (have_gives W0 gk k pl sl hk nb (n + 1) ls0 _ HP1.out (by omega) 10 r10 b HBo.out).mono ?_
        rintro e w3 ⟨u, hu, rfl, hp, hkk⟩
        have HP2 := Lib.hid hp
        have HK2 := Lib.hid (HK1.out.trans hkk)
        have HX2 := Lib.hid (hkk.2 _ _ _ _ HX1.out (by decide) (by decide))
        clear hp hkk q0 q1 ql
        have q0 := blk_cell (i := 0) HX2.out rfl
        have q1 := blk_cell (i := 1) HX2.out rfl
        have ql := blk_lt HX2.out
        go_wp2_with fail
        refine (ins_lays W0 gk k pl sl nb (n + 2) ls0 _ HP2.out (by omega) 13 v u 0 0 false 0 [] (two_ok (by omega) hv hu) (by decide) (by decide)).mono ?_
        rintro e w4 ⟨rfl, hp, hkk⟩
        have HP3 := Lib.hid hp
        have HK3 := Lib.hid (HK2.out.trans hkk)
        have HX3 := Lib.hid (hkk.2 _ _ _ _ HX2.out (by decide) (by decide))
        clear hp hkk q0 q1 ql
        have q0 := blk_cell (i := 0) HX3.out rfl
        have q1 := blk_cell (i := 1) HX3.out rfl
        have ql := blk_lt HX3.out
        go_wp2_with fail
        go_returns
        exact ⟨_, by decide, rfl, HP3.out.le (by omega), HK3.out⟩
      · go_enter Tryd.func46, Tryd.ntmps46
        go_upto_region 1 with (fail)
        rw [← hw1, ← hgx, ← hgy]
        clear hw1 hgx hgy
        go_wp2_with fail
        refine (have_gives W0 gk k pl sl hk nb (n + 0) ls0 _ HP0.out (by omega) 0 r0 a ha).mono ?_
        rintro e w2 ⟨v, hv, rfl, hp, hkk⟩
        have HP1 := Lib.hid hp
        have HK1 := Lib.hid (HK0.out.trans hkk)
        have HX1 := Lib.hid (hkk.2 _ _ _ _ HX0.out (by decide) (by decide))
        clear hp hkk q0 q1 ql
        have q0 := blk_cell (i := 0) HX1.out rfl
        have q1 := blk_cell (i := 1) HX1.out rfl
        have ql := blk_lt HX1.out
        clear t0 t1 tl
        go_wp2_with fail
        refine (HSm.out _).mono ?_
        rintro e w5 ⟨rfl, rfl⟩
        go_wp2_with fail
        refine (have_gives W0 gk k pl sl hk nb (n + 1) ls0 _ HP1.out (by omega) 10 r10 b HBo.out).mono ?_
        rintro e w3 ⟨u, hu, rfl, hp, hkk⟩
        have HP2 := Lib.hid hp
        have HK2 := Lib.hid (HK1.out.trans hkk)
        have HX2 := Lib.hid (hkk.2 _ _ _ _ HX1.out (by decide) (by decide))
        clear hp hkk q0 q1 ql
        have q0 := blk_cell (i := 0) HX2.out rfl
        have q1 := blk_cell (i := 1) HX2.out rfl
        have ql := blk_lt HX2.out
        go_wp2_with fail
        refine (ins_lays W0 gk k pl sl nb (n + 2) ls0 _ HP2.out (by omega) 13 v u 0 0 false 0 [] (two_ok (by omega) hv hu) (by decide) (by decide)).mono ?_
        rintro e w4 ⟨rfl, hp, hkk⟩
        have HP3 := Lib.hid hp
        have HK3 := Lib.hid (HK2.out.trans hkk)
        have HX3 := Lib.hid (hkk.2 _ _ _ _ HX2.out (by decide) (by decide))
        clear hp hkk q0 q1 ql
        have q0 := blk_cell (i := 0) HX3.out rfl
        have q1 := blk_cell (i := 1) HX3.out rfl
        have ql := blk_lt HX3.out
        go_wp2_with fail
        go_returns
        exact ⟨_, by decide, rfl, HP3.out.le (by omega), HK3.out⟩
      · go_enter Tryd.func46, Tryd.ntmps46
        go_upto_region 1 with (fail)
        rw [← hw1, ← hgx, ← hgy]
        clear hw1 hgx hgy
        go_wp2_with fail
        refine (have_gives W0 gk k pl sl hk nb (n + 0) ls0 _ HP0.out (by omega) 0 r0 a ha).mono ?_
        rintro e w2 ⟨v, hv, rfl, hp, hkk⟩
        have HP1 := Lib.hid hp
        have HK1 := Lib.hid (HK0.out.trans hkk)
        have HX1 := Lib.hid (hkk.2 _ _ _ _ HX0.out (by decide) (by decide))
        clear hp hkk q0 q1 ql
        have q0 := blk_cell (i := 0) HX1.out rfl
        have q1 := blk_cell (i := 1) HX1.out rfl
        have ql := blk_lt HX1.out
        clear t0 t1 tl
        go_wp2_with fail
        refine (HSm.out _).mono ?_
        rintro e w5 ⟨rfl, rfl⟩
        go_wp2_with fail
        refine (have_gives W0 gk k pl sl hk nb (n + 1) ls0 _ HP1.out (by omega) 10 r10 b HBo.out).mono ?_
        rintro e w3 ⟨u, hu, rfl, hp, hkk⟩
        have HP2 := Lib.hid hp
        have HK2 := Lib.hid (HK1.out.trans hkk)
        have HX2 := Lib.hid (hkk.2 _ _ _ _ HX1.out (by decide) (by decide))
        clear hp hkk q0 q1 ql
        have q0 := blk_cell (i := 0) HX2.out rfl
        have q1 := blk_cell (i := 1) HX2.out rfl
        have ql := blk_lt HX2.out
        go_wp2_with fail
        refine (ins_lays W0 gk k pl sl nb (n + 2) ls0 _ HP2.out (by omega) 13 v u 0 0 false 0 [] (two_ok (by omega) hv hu) (by decide) (by decide)).mono ?_
        rintro e w4 ⟨rfl, hp, hkk⟩
        have HP3 := Lib.hid hp
        have HK3 := Lib.hid (HK2.out.trans hkk)
        have HX3 := Lib.hid (hkk.2 _ _ _ _ HX2.out (by decide) (by decide))
        clear hp hkk q0 q1 ql
        have q0 := blk_cell (i := 0) HX3.out rfl
        have q1 := blk_cell (i := 1) HX3.out rfl
        have ql := blk_lt HX3.out
        go_wp2_with fail
        go_returns
        exact ⟨_, by decide, rfl, HP3.out.le (by omega), HK3.out⟩
      · go_enter Tryd.func46, Tryd.ntmps46
        go_upto_region 1 with (fail)
        rw [← hw1, ← hgx, ← hgy]
        clear hw1 hgx hgy
        go_wp2_with fail
        refine (have_gives W0 gk k pl sl hk nb (n + 0) ls0 _ HP0.out (by omega) 0 r0 a ha).mono ?_
        rintro e w2 ⟨v, hv, rfl, hp, hkk⟩
        have HP1 := Lib.hid hp
        have HK1 := Lib.hid (HK0.out.trans hkk)
        have HX1 := Lib.hid (hkk.2 _ _ _ _ HX0.out (by decide) (by decide))
        clear hp hkk q0 q1 ql
        have q0 := blk_cell (i := 0) HX1.out rfl
        have q1 := blk_cell (i := 1) HX1.out rfl
        have ql := blk_lt HX1.out
        clear t0 t1 tl
        go_wp2_with fail
        refine (HSm.out _).mono ?_
        rintro e w5 ⟨rfl, rfl⟩
        go_wp2_with fail
        refine (have_gives W0 gk k pl sl hk nb (n + 1) ls0 _ HP1.out (by omega) 10 r10 b HBo.out).mono ?_
        rintro e w3 ⟨u, hu, rfl, hp, hkk⟩
        have HP2 := Lib.hid hp
        have HK2 := Lib.hid (HK1.out.trans hkk)
        have HX2 := Lib.hid (hkk.2 _ _ _ _ HX1.out (by decide) (by decide))
        clear hp hkk q0 q1 ql
        have q0 := blk_cell (i := 0) HX2.out rfl
        have q1 := blk_cell (i := 1) HX2.out rfl
        have ql := blk_lt HX2.out
        go_wp2_with fail
        refine (ins_lays W0 gk k pl sl nb (n + 2) ls0 _ HP2.out (by omega) 13 v u 0 0 false 0 [] (two_ok (by omega) hv hu) (by decide) (by decide)).mono ?_
        rintro e w4 ⟨rfl, hp, hkk⟩
        have HP3 := Lib.hid hp
        have HK3 := Lib.hid (HK2.out.trans hkk)
        have HX3 := Lib.hid (hkk.2 _ _ _ _ HX2.out (by decide) (by decide))
        clear hp hkk q0 q1 ql
        have q0 := blk_cell (i := 0) HX3.out rfl
        have q1 := blk_cell (i := 1) HX3.out rfl
        have ql := blk_lt HX3.out
        go_wp2_with fail
        go_returns
        exact ⟨_, by decide, rfl, HP3.out.le (by omega), HK3.out⟩
      · go_enter Tryd.func46, Tryd.ntmps46
        go_upto_region 1 with (fail)
        rw [← hw1, ← hgx, ← hgy]
        clear hw1 hgx hgy
        go_wp2_with fail
        refine (have_gives W0 gk k pl sl hk nb (n + 0) ls0 _ HP0.out (by omega) 0 r0 a ha).mono ?_
        rintro e w2 ⟨v, hv, rfl, hp, hkk⟩
        have HP1 := Lib.hid hp
        have HK1 := Lib.hid (HK0.out.trans hkk)
        have HX1 := Lib.hid (hkk.2 _ _ _ _ HX0.out (by decide) (by decide))
        clear hp hkk q0 q1 ql
        have q0 := blk_cell (i := 0) HX1.out rfl
        have q1 := blk_cell (i := 1) HX1.out rfl
        have ql := blk_lt HX1.out
        clear t0 t1 tl
        go_wp2_with fail
        refine (HSm.out _).mono ?_
        rintro e w5 ⟨rfl, rfl⟩
        go_wp2_with fail
        refine (have_gives W0 gk k pl sl hk nb (n + 1) ls0 _ HP1.out (by omega) 10 r10 b HBo.out).mono ?_
        rintro e w3 ⟨u, hu, rfl, hp, hkk⟩
        have HP2 := Lib.hid hp
        have HK2 := Lib.hid (HK1.out.trans hkk)
        have HX2 := Lib.hid (hkk.2 _ _ _ _ HX1.out (by decide) (by decide))
        clear hp hkk q0 q1 ql
        have q0 := blk_cell (i := 0) HX2.out rfl
        have q1 := blk_cell (i := 1) HX2.out rfl
        have ql := blk_lt HX2.out
        go_wp2_with fail
        refine (ins_lays W0 gk k pl sl nb (n + 2) ls0 _ HP2.out (by omega) 13 v u 0 0 false 0 [] (two_ok (by omega) hv hu) (by decide) (by decide)).mono ?_
        rintro e w4 ⟨rfl, hp, hkk⟩
        have HP3 := Lib.hid hp
        have HK3 := Lib.hid (HK2.out.trans hkk)
        have HX3 := Lib.hid (hkk.2 _ _ _ _ HX2.out (by decide) (by decide))
        clear hp hkk q0 q1 ql
        have q0 := blk_cell (i := 0) HX3.out rfl
        have q1 := blk_cell (i := 1) HX3.out rfl
        have ql := blk_lt HX3.out
        go_wp2_with fail
        go_returns
        exact ⟨_, by decide, rfl, HP3.out.le (by omega), HK3.out⟩
  · have dl : decide (b.reg < 0) = false := decide_eq_false hneg
    rcases hc with rfl | rfl | rfl | rfl | rfl | rfl
    · go_enter Tryd.func46, Tryd.ntmps46
      go_upto_region 1 with (fail)
      rw [← hw1, ← hgx, ← hgy]
      clear hw1 hgx hgy
      go_wp2_with fail
      refine (have_gives W0 gk k pl sl hk nb (n + 0) ls0 _ HP0.out (by omega) 0 r0 a ha).mono ?_
      rintro e w2 ⟨v, hv, rfl, hp, hkk⟩
      have HP1 := Lib.hid hp
      have HK1 := Lib.hid (HK0.out.trans hkk)
      have HX1 := Lib.hid (hkk.2 _ _ _ _ HX0.out (by decide) (by decide))
      clear hp hkk q0 q1 ql
      have q0 := blk_cell (i := 0) HX1.out rfl
      have q1 := blk_cell (i := 1) HX1.out rfl
      have ql := blk_lt HX1.out
      clear t0 t1 tl
      go_wp2_with fail
      refine (have_gives W0 gk k pl sl hk nb (n + 1) ls0 _ HP1.out (by omega) 10 r10 b HBo.out).mono ?_
      rintro e w3 ⟨u, hu, rfl, hp, hkk⟩
      have HP2 := Lib.hid hp
      have HK2 := Lib.hid (HK1.out.trans hkk)
      have HX2 := Lib.hid (hkk.2 _ _ _ _ HX1.out (by decide) (by decide))
      clear hp hkk q0 q1 ql
      have q0 := blk_cell (i := 0) HX2.out rfl
      have q1 := blk_cell (i := 1) HX2.out rfl
      have ql := blk_lt HX2.out
      go_wp2_with fail
      refine (ins_lays W0 gk k pl sl nb (n + 2) ls0 _ HP2.out (by omega) 13 v u 0 0 false 0 [] (two_ok (by omega) hv hu) (by decide) (by decide)).mono ?_
      rintro e w4 ⟨rfl, hp, hkk⟩
      have HP3 := Lib.hid hp
      have HK3 := Lib.hid (HK2.out.trans hkk)
      have HX3 := Lib.hid (hkk.2 _ _ _ _ HX2.out (by decide) (by decide))
      clear hp hkk q0 q1 ql
      have q0 := blk_cell (i := 0) HX3.out rfl
      have q1 := blk_cell (i := 1) HX3.out rfl
      have ql := blk_lt HX3.out
      go_wp2_with fail
      go_returns
      exact ⟨_, by decide, rfl, HP3.out.le (by omega), HK3.out⟩
    · go_enter Tryd.func46, Tryd.ntmps46
      go_upto_region 1 with (fail)
      rw [← hw1, ← hgx, ← hgy]
      clear hw1 hgx hgy
      go_wp2_with fail
      refine (have_gives W0 gk k pl sl hk nb (n + 0) ls0 _ HP0.out (by omega) 0 r0 a ha).mono ?_
      rintro e w2 ⟨v, hv, rfl, hp, hkk⟩
      have HP1 := Lib.hid hp
      have HK1 := Lib.hid (HK0.out.trans hkk)
      have HX1 := Lib.hid (hkk.2 _ _ _ _ HX0.out (by decide) (by decide))
      clear hp hkk q0 q1 ql
      have q0 := blk_cell (i := 0) HX1.out rfl
      have q1 := blk_cell (i := 1) HX1.out rfl
      have ql := blk_lt HX1.out
      clear t0 t1 tl
      go_wp2_with fail
      refine (have_gives W0 gk k pl sl hk nb (n + 1) ls0 _ HP1.out (by omega) 10 r10 b HBo.out).mono ?_
      rintro e w3 ⟨u, hu, rfl, hp, hkk⟩
      have HP2 := Lib.hid hp
      have HK2 := Lib.hid (HK1.out.trans hkk)
      have HX2 := Lib.hid (hkk.2 _ _ _ _ HX1.out (by decide) (by decide))
      clear hp hkk q0 q1 ql
      have q0 := blk_cell (i := 0) HX2.out rfl
      have q1 := blk_cell (i := 1) HX2.out rfl
      have ql := blk_lt HX2.out
      go_wp2_with fail
      refine (ins_lays W0 gk k pl sl nb (n + 2) ls0 _ HP2.out (by omega) 13 v u 0 0 false 0 [] (two_ok (by omega) hv hu) (by decide) (by decide)).mono ?_
      rintro e w4 ⟨rfl, hp, hkk⟩
      have HP3 := Lib.hid hp
      have HK3 := Lib.hid (HK2.out.trans hkk)
      have HX3 := Lib.hid (hkk.2 _ _ _ _ HX2.out (by decide) (by decide))
      clear hp hkk q0 q1 ql
      have q0 := blk_cell (i := 0) HX3.out rfl
      have q1 := blk_cell (i := 1) HX3.out rfl
      have ql := blk_lt HX3.out
      go_wp2_with fail
      go_returns
      exact ⟨_, by decide, rfl, HP3.out.le (by omega), HK3.out⟩
    · go_enter Tryd.func46, Tryd.ntmps46
      go_upto_region 1 with (fail)
      rw [← hw1, ← hgx, ← hgy]
      clear hw1 hgx hgy
      go_wp2_with fail
      refine (have_gives W0 gk k pl sl hk nb (n + 0) ls0 _ HP0.out (by omega) 0 r0 a ha).mono ?_
      rintro e w2 ⟨v, hv, rfl, hp, hkk⟩
      have HP1 := Lib.hid hp
      have HK1 := Lib.hid (HK0.out.trans hkk)
      have HX1 := Lib.hid (hkk.2 _ _ _ _ HX0.out (by decide) (by decide))
      clear hp hkk q0 q1 ql
      have q0 := blk_cell (i := 0) HX1.out rfl
      have q1 := blk_cell (i := 1) HX1.out rfl
      have ql := blk_lt HX1.out
      clear t0 t1 tl
      go_wp2_with fail
      refine (have_gives W0 gk k pl sl hk nb (n + 1) ls0 _ HP1.out (by omega) 10 r10 b HBo.out).mono ?_
      rintro e w3 ⟨u, hu, rfl, hp, hkk⟩
      have HP2 := Lib.hid hp
      have HK2 := Lib.hid (HK1.out.trans hkk)
      have HX2 := Lib.hid (hkk.2 _ _ _ _ HX1.out (by decide) (by decide))
      clear hp hkk q0 q1 ql
      have q0 := blk_cell (i := 0) HX2.out rfl
      have q1 := blk_cell (i := 1) HX2.out rfl
      have ql := blk_lt HX2.out
      go_wp2_with fail
      refine (ins_lays W0 gk k pl sl nb (n + 2) ls0 _ HP2.out (by omega) 13 v u 0 0 false 0 [] (two_ok (by omega) hv hu) (by decide) (by decide)).mono ?_
      rintro e w4 ⟨rfl, hp, hkk⟩
      have HP3 := Lib.hid hp
      have HK3 := Lib.hid (HK2.out.trans hkk)
      have HX3 := Lib.hid (hkk.2 _ _ _ _ HX2.out (by decide) (by decide))
      clear hp hkk q0 q1 ql
      have q0 := blk_cell (i := 0) HX3.out rfl
      have q1 := blk_cell (i := 1) HX3.out rfl
      have ql := blk_lt HX3.out
      go_wp2_with fail
      go_returns
      exact ⟨_, by decide, rfl, HP3.out.le (by omega), HK3.out⟩
    · go_enter Tryd.func46, Tryd.ntmps46
      go_upto_region 1 with (fail)
      rw [← hw1, ← hgx, ← hgy]
      clear hw1 hgx hgy
      go_wp2_with fail
      refine (have_gives W0 gk k pl sl hk nb (n + 0) ls0 _ HP0.out (by omega) 0 r0 a ha).mono ?_
      rintro e w2 ⟨v, hv, rfl, hp, hkk⟩
      have HP1 := Lib.hid hp
      have HK1 := Lib.hid (HK0.out.trans hkk)
      have HX1 := Lib.hid (hkk.2 _ _ _ _ HX0.out (by decide) (by decide))
      clear hp hkk q0 q1 ql
      have q0 := blk_cell (i := 0) HX1.out rfl
      have q1 := blk_cell (i := 1) HX1.out rfl
      have ql := blk_lt HX1.out
      clear t0 t1 tl
      go_wp2_with fail
      refine (have_gives W0 gk k pl sl hk nb (n + 1) ls0 _ HP1.out (by omega) 10 r10 b HBo.out).mono ?_
      rintro e w3 ⟨u, hu, rfl, hp, hkk⟩
      have HP2 := Lib.hid hp
      have HK2 := Lib.hid (HK1.out.trans hkk)
      have HX2 := Lib.hid (hkk.2 _ _ _ _ HX1.out (by decide) (by decide))
      clear hp hkk q0 q1 ql
      have q0 := blk_cell (i := 0) HX2.out rfl
      have q1 := blk_cell (i := 1) HX2.out rfl
      have ql := blk_lt HX2.out
      go_wp2_with fail
      refine (ins_lays W0 gk k pl sl nb (n + 2) ls0 _ HP2.out (by omega) 13 v u 0 0 false 0 [] (two_ok (by omega) hv hu) (by decide) (by decide)).mono ?_
      rintro e w4 ⟨rfl, hp, hkk⟩
      have HP3 := Lib.hid hp
      have HK3 := Lib.hid (HK2.out.trans hkk)
      have HX3 := Lib.hid (hkk.2 _ _ _ _ HX2.out (by decide) (by decide))
      clear hp hkk q0 q1 ql
      have q0 := blk_cell (i := 0) HX3.out rfl
      have q1 := blk_cell (i := 1) HX3.out rfl
      have ql := blk_lt HX3.out
      go_wp2_with fail
      go_returns
      exact ⟨_, by decide, rfl, HP3.out.le (by omega), HK3.out⟩
    · go_enter Tryd.func46, Tryd.ntmps46
      go_upto_region 1 with (fail)
      rw [← hw1, ← hgx, ← hgy]
      clear hw1 hgx hgy
      go_wp2_with fail
      refine (have_gives W0 gk k pl sl hk nb (n + 0) ls0 _ HP0.out (by omega) 0 r0 a ha).mono ?_
      rintro e w2 ⟨v, hv, rfl, hp, hkk⟩
      have HP1 := Lib.hid hp
      have HK1 := Lib.hid (HK0.out.trans hkk)
      have HX1 := Lib.hid (hkk.2 _ _ _ _ HX0.out (by decide) (by decide))
      clear hp hkk q0 q1 ql
      have q0 := blk_cell (i := 0) HX1.out rfl
      have q1 := blk_cell (i := 1) HX1.out rfl
      have ql := blk_lt HX1.out
      clear t0 t1 tl
      go_wp2_with fail
      refine (have_gives W0 gk k pl sl hk nb (n + 1) ls0 _ HP1.out (by omega) 10 r10 b HBo.out).mono ?_
      rintro e w3 ⟨u, hu, rfl, hp, hkk⟩
      have HP2 := Lib.hid hp
      have HK2 := Lib.hid (HK1.out.trans hkk)
      have HX2 := Lib.hid (hkk.2 _ _ _ _ HX1.out (by decide) (by decide))
      clear hp hkk q0 q1 ql
      have q0 := blk_cell (i := 0) HX2.out rfl
      have q1 := blk_cell (i := 1) HX2.out rfl
      have ql := blk_lt HX2.out
      go_wp2_with fail
      refine (ins_lays W0 gk k pl sl nb (n + 2) ls0 _ HP2.out (by omega) 13 v u 0 0 false 0 [] (two_ok (by omega) hv hu) (by decide) (by decide)).mono ?_
      rintro e w4 ⟨rfl, hp, hkk⟩
      have HP3 := Lib.hid hp
      have HK3 := Lib.hid (HK2.out.trans hkk)
      have HX3 := Lib.hid (hkk.2 _ _ _ _ HX2.out (by decide) (by decide))
      clear hp hkk q0 q1 ql
      have q0 := blk_cell (i := 0) HX3.out rfl
      have q1 := blk_cell (i := 1) HX3.out rfl
      have ql := blk_lt HX3.out
      go_wp2_with fail
      go_returns
      exact ⟨_, by decide, rfl, HP3.out.le (by omega), HK3.out⟩
    · go_enter Tryd.func46, Tryd.ntmps46
      go_upto_region 1 with (fail)
      rw [← hw1, ← hgx, ← hgy]
      clear hw1 hgx hgy
      go_wp2_with fail
      refine (have_gives W0 gk k pl sl hk nb (n + 0) ls0 _ HP0.out (by omega) 0 r0 a ha).mono ?_
      rintro e w2 ⟨v, hv, rfl, hp, hkk⟩
      have HP1 := Lib.hid hp
      have HK1 := Lib.hid (HK0.out.trans hkk)
      have HX1 := Lib.hid (hkk.2 _ _ _ _ HX0.out (by decide) (by decide))
      clear hp hkk q0 q1 ql
      have q0 := blk_cell (i := 0) HX1.out rfl
      have q1 := blk_cell (i := 1) HX1.out rfl
      have ql := blk_lt HX1.out
      clear t0 t1 tl
      go_wp2_with fail
      refine (have_gives W0 gk k pl sl hk nb (n + 1) ls0 _ HP1.out (by omega) 10 r10 b HBo.out).mono ?_
      rintro e w3 ⟨u, hu, rfl, hp, hkk⟩
      have HP2 := Lib.hid hp
      have HK2 := Lib.hid (HK1.out.trans hkk)
      have HX2 := Lib.hid (hkk.2 _ _ _ _ HX1.out (by decide) (by decide))
      clear hp hkk q0 q1 ql
      have q0 := blk_cell (i := 0) HX2.out rfl
      have q1 := blk_cell (i := 1) HX2.out rfl
      have ql := blk_lt HX2.out
      go_wp2_with fail
      refine (ins_lays W0 gk k pl sl nb (n + 2) ls0 _ HP2.out (by omega) 13 v u 0 0 false 0 [] (two_ok (by omega) hv hu) (by decide) (by decide)).mono ?_
      rintro e w4 ⟨rfl, hp, hkk⟩
      have HP3 := Lib.hid hp
      have HK3 := Lib.hid (HK2.out.trans hkk)
      have HX3 := Lib.hid (hkk.2 _ _ _ _ HX2.out (by decide) (by decide))
      clear hp hkk q0 q1 ql
      have q0 := blk_cell (i := 0) HX3.out rfl
      have q1 := blk_cell (i := 1) HX3.out rfl
      have ql := blk_lt HX3.out
      go_wp2_with fail
      go_returns
      exact ⟨_, by decide, rfl, HP3.out.le (by omega), HK3.out⟩
theorem and63 (n : Int) : 0 ≤ bits .and .i64 n 63 ∧ bits .and .i64 n 63 ≤ 63 := by
  have h2 : (BitVec.ofInt 64 n &&& BitVec.ofInt 64 63).toNat ≤ 63 := by
    rw [BitVec.toNat_and]
    exact Nat.and_le_right
  have h3 : ∀ t : Nat, t < 64 → IntKind.i64.wrap (t : Int) = t := by decide
  have h4 := h3 _ (Nat.lt_succ_of_le h2)
  change 0 ≤ IntKind.i64.wrap ((BitVec.ofInt 64 n &&& BitVec.ofInt 64 63).toNat : Nat) ∧ IntKind.i64.wrap ((BitVec.ofInt 64 n &&& BitVec.ofInt 64 63).toNat : Nat) ≤ 63
  rw [h4]
  omega
theorem own_set {w : World} {B C m g : Nat} {T T2 : TypeId} {v u : Value} {xs : List Value} {cs : Array Value} {fr : Nat × Nat} (ho : w.ownsRow B T C v m xs) (hx : w.heap[g]? = some (.cells cs T2 fr)) (hT : T ≠ T2) (j : Nat) : (w.setCell ⟨g, j, none⟩ u).ownsRow B T C v m xs :=
  ⟨ho.1, by
    rcases ho.2 with e | ⟨b, cap, cur, e1, e2, e3, e4⟩
    · exact Or.inl e
    · refine Or.inr ⟨b, cap, cur, e1, e2, blk_set e3 (fun e => ?_) u, e4⟩
      subst e
      rw [hx] at e3
      simp only [Option.some.injEq, Obj.cells.injEq] at e3
      exact hT e3.2.1.symm⟩
theorem PS.set {W0 : World} {gk : Nat} {k : PK} {pl sl : List Int} {ls : List LineD} {w : World} (h : PS W0 gk k pl sl ls w) {g : Nat} {cs : Array Value} {fr : Nat × Nat} (hx : w.heap[g]? = some (.cells cs 74 fr)) (hB : W0.heap.size ≤ g) (j : Nat) (u : Value) : PS W0 gk k pl sl ls (w.setCell ⟨g, j, none⟩ u) := by
  obtain ⟨h1, h2, ⟨A, c, h3, h4⟩, h5, h6⟩ := h
  refine ⟨below_set h1 g j u hB, h2, ⟨A, c, blk_set h3 (fun e => ?_) u, own_set h4 hx (by decide) j⟩, own_set h5 hx (by decide) j, own_set h6 hx (by decide) j⟩
  subst e
  rw [hx] at h3
  simp only [Option.some.injEq, Obj.cells.injEq] at h3
  exact absurd h3.2.1 (by decide)
theorem PSeg.set {W0 : World} {gk : Nat} {k : PK} {pl sl : List Int} {nb n : Nat} {ls0 : List LineD} {w : World} (h : PSeg W0 gk k pl sl nb ls0 n w) {g : Nat} {cs : Array Value} {fr : Nat × Nat} (hx : w.heap[g]? = some (.cells cs 74 fr)) (hB : W0.heap.size ≤ g) (j : Nat) (u : Value) : PSeg W0 gk k pl sl nb ls0 n (w.setCell ⟨g, j, none⟩ u) := by
  obtain ⟨h0, s, h1, h2, h3⟩ := h
  exact ⟨h0, s, h1, h2, h3.set hx hB j u⟩
theorem KeptL.set {w w' : World} (h : KeptL w w') {g : Nat} (hg : w.heap.size ≤ g) (j : Nat) (u : Value) : KeptL w (w'.setCell ⟨g, j, none⟩ u) :=
  ⟨Nat.le_trans h.1 (grown_set w' g j u).size, fun b cs T fr hb h1 h2 => blk_set (h.2 b cs T fr hb h1 h2) (fun e => by
    have hlt := blk_lt hb
    have e2 : b = g := e
    omega) u⟩
set_option maxRecDepth 100000 in
theorem reckon_lays (hk : KOk W0 k pl) (nb n : Nat) (ls0 : List LineD) (w : World) (h : PSeg W0 gk k pl sl nb ls0 n w) (hn : n ≤ 99999000) (x : InsD) (vx : Value) (rn : Nat) (px : Int) (hr : pl[rn]? = some px) (ha : ArgOk pl x.a) (hb : ArgOk pl x.b) (ho : 3 ≤ x.op ∧ x.op ≤ 15) :
    Calls Tryd.prog 45 #[.pointer (some ⟨gk, 0, none⟩), .agg #[.int .i64 x.op, .int .i64 (rn : Nat), .int .i64 x.a.reg, .int .i64 x.a.num, .int .i64 x.b.reg, .int .i64 x.b.num, .int .i64 x.size, .bool x.signed, .bool x.secret, .int .i64 x.ref, .int .i64 x.off, vx]] w (Lays W0 gk k pl sl nb ls0 (n + 5) w (.tuple #[])) := by
  have r0 : RR 0 := by unfold RR; decide
  have r1 : RR 1 := by unfold RR; decide
  have r10 : RR 10 := by unfold RR; decide
  have HAl := Lib.hid (fun (w2 : World) => alu_any w2 x.op ho.1 ho.2)
  have HTr := Lib.hid (fun (w2 : World) => traps_any w2 x.op)
  have HSm := Lib.hid (fun (w2 : World) => small_any w2 x.b.num hb.2.1)
  have HO := Lib.hid ho
  have hgw : W0.heap.size ≤ w.heap.size := by obtain ⟨_, _, _, _, h3⟩ := id h; exact h3.bel.size
  by_cases hT : 6 ≤ x.op ∧ x.op ≤ 9
  · rw [decide_eq_true hT] at HTr
    have HA := Lib.hid (below_alloc (.cells #[.int .i64 x.op, .int .i64 (rn : Nat), .int .i64 x.a.reg, .int .i64 x.a.num, .int .i64 x.b.reg, .int .i64 x.b.num, .int .i64 x.size, .bool x.signed, .bool x.secret, .int .i64 x.ref, .int .i64 x.off, vx] 74) (Below.refl w.heap.size w))
    have HP0 := Lib.hid (h.later HA.out)
    have HK0 := Lib.hid (KeptL.of_below HA.out)
    have HX0 := Lib.hid (blk_new w (.cells #[.int .i64 x.op, .int .i64 (rn : Nat), .int .i64 x.a.reg, .int .i64 x.a.num, .int .i64 x.b.reg, .int .i64 x.b.num, .int .i64 x.size, .bool x.signed, .bool x.secret, .int .i64 x.ref, .int .i64 x.off, vx] 74))
    obtain ⟨w1, hw1⟩ : ∃ w1, w1 = w.alloc (.cells #[.int .i64 x.op, .int .i64 (rn : Nat), .int .i64 x.a.reg, .int .i64 x.a.num, .int .i64 x.b.reg, .int .i64 x.b.num, .int .i64 x.size, .bool x.signed, .bool x.secret, .int .i64 x.ref, .int .i64 x.off, vx] 74) := ⟨_, rfl⟩
    rw [← hw1] at HP0 HK0 HX0
    obtain ⟨gx, hgx⟩ : ∃ gx, gx = w.heap.size := ⟨_, rfl⟩
    rw [← hgx] at HX0
    clear HA h
    have ds0 : decide (x.op ≥ 13) = false := decide_eq_false (by omega)
    have ds1 : decide (13 ≤ x.op) = false := decide_eq_false (by omega)
    have HT := Lib.hid hT
    clear hT ho
    have q0 := blk_cell (i := 0) HX0.out rfl
    have q1 := blk_cell (i := 1) HX0.out rfl
    have q2 := blk_cell (i := 2) HX0.out rfl
    have q3 := blk_cell (i := 3) HX0.out rfl
    have q4 := blk_cell (i := 4) HX0.out rfl
    have q5 := blk_cell (i := 5) HX0.out rfl
    have q6 := blk_cell (i := 6) HX0.out rfl
    have q7 := blk_cell (i := 7) HX0.out rfl
    have q8 := blk_cell (i := 8) HX0.out rfl
    have q9 := blk_cell (i := 9) HX0.out rfl
    have q10 := blk_cell (i := 10) HX0.out rfl
    have q11 := blk_cell (i := 11) HX0.out rfl
    have ql := blk_lt HX0.out
    have HGX := Lib.hid hgx
    go_enter Tryd.func45, Tryd.ntmps45
    go_upto_region 1 with (fail)
    rw [← hw1, ← hgx]
    clear hw1 hgx
    go_wp2_with fail
    refine (HAl.out _).mono ?_
    rintro e w8 ⟨o, m, hal, rfl, rfl⟩
    have HALU := Lib.hid hal
    clear hal
    go_wp2_with fail
    refine (HTr.out _).mono ?_
    rintro e w8 ⟨rfl, rfl⟩
    go_wp2_with fail
    refine (quotient_lays W0 gk k pl sl hk nb n ls0 _ HP0.out hn x vx rn px hr ha hb HT.out).mono ?_
    rintro e w2 ⟨rfl, hp, hkk⟩
    have HP1 := Lib.hid hp
    have HK1 := Lib.hid (HK0.out.trans hkk)
    have HX1 := Lib.hid (hkk.2 _ _ _ _ HX0.out (by decide) (by decide))
    clear hp hkk q0 q1 q2 q3 q4 q5 q6 q7 q8 q9 q10 q11 ql
    have q0 := blk_cell (i := 0) HX1.out rfl
    have q1 := blk_cell (i := 1) HX1.out rfl
    have q2 := blk_cell (i := 2) HX1.out rfl
    have q3 := blk_cell (i := 3) HX1.out rfl
    have q4 := blk_cell (i := 4) HX1.out rfl
    have q5 := blk_cell (i := 5) HX1.out rfl
    have q6 := blk_cell (i := 6) HX1.out rfl
    have q7 := blk_cell (i := 7) HX1.out rfl
    have q8 := blk_cell (i := 8) HX1.out rfl
    have q9 := blk_cell (i := 9) HX1.out rfl
    have q10 := blk_cell (i := 10) HX1.out rfl
    have q11 := blk_cell (i := 11) HX1.out rfl
    have ql := blk_lt HX1.out
    go_wp2_with fail
    go_returns
    exact ⟨rfl, HP1.out.le (by omega), HK1.out⟩
  · rw [decide_eq_false hT] at HTr
    have HT := Lib.hid hT
    clear hT
    by_cases hsh : 13 ≤ x.op
    · have ds0 : decide (x.op ≥ 13) = true := decide_eq_true (by omega)
      have ds1 : decide (13 ≤ x.op) = true := decide_eq_true (by omega)
      have HSH := Lib.hid hsh
      clear hsh ho
      by_cases hneg : x.b.reg < 0
      · have dl : decide (x.b.reg < 0) = true := decide_eq_true hneg
        have HNG := Lib.hid hneg
        have HA := Lib.hid (below_alloc (.cells #[.int .i64 x.op, .int .i64 (rn : Nat), .int .i64 x.a.reg, .int .i64 x.a.num, .int .i64 x.b.reg, .int .i64 x.b.num, .int .i64 x.size, .bool x.signed, .bool x.secret, .int .i64 x.ref, .int .i64 x.off, vx] 74) (Below.refl w.heap.size w))
        have HP0 := Lib.hid (h.later HA.out)
        have HK0 := Lib.hid (KeptL.of_below HA.out)
        have HX0 := Lib.hid (blk_new w (.cells #[.int .i64 x.op, .int .i64 (rn : Nat), .int .i64 x.a.reg, .int .i64 x.a.num, .int .i64 x.b.reg, .int .i64 x.b.num, .int .i64 x.size, .bool x.signed, .bool x.secret, .int .i64 x.ref, .int .i64 x.off, vx] 74))
        obtain ⟨w1, hw1⟩ : ∃ w1, w1 = w.alloc (.cells #[.int .i64 x.op, .int .i64 (rn : Nat), .int .i64 x.a.reg, .int .i64 x.a.num, .int .i64 x.b.reg, .int .i64 x.b.num, .int .i64 x.size, .bool x.signed, .bool x.secret, .int .i64 x.ref, .int .i64 x.off, vx] 74) := ⟨_, rfl⟩
        rw [← hw1] at HP0 HK0 HX0
        obtain ⟨gx, hgx⟩ : ∃ gx, gx = w.heap.size := ⟨_, rfl⟩
        rw [← hgx] at HX0
        clear HA h
        have q0 := blk_cell (i := 0) HX0.out rfl
        have q1 := blk_cell (i := 1) HX0.out rfl
        have q2 := blk_cell (i := 2) HX0.out rfl
        have q3 := blk_cell (i := 3) HX0.out rfl
        have q4 := blk_cell (i := 4) HX0.out rfl
        have q5 := blk_cell (i := 5) HX0.out rfl
        have ql := blk_lt HX0.out
        have HGX := Lib.hid hgx
        go_enter Tryd.func45, Tryd.ntmps45
        go_upto_region 1 with (fail)
        rw [← hw1, ← hgx]
        clear hw1 hgx
        go_wp2_with fail
        refine (HAl.out _).mono ?_
        rintro e w8 ⟨o, m, hal, rfl, rfl⟩
        have HALU := Lib.hid hal
        clear hal
        go_wp2_with fail
        refine (HTr.out _).mono ?_
        rintro e w8 ⟨rfl, rfl⟩
        go_wp2_with fail
        refine (result_p W0 gk k pl sl hk nb (n + 0) ls0 _ HP0.out rn px hr _ [] (slr_nil _) (fun a h => by simp at h) (by simp)).mono ?_
        rintro e w2 ⟨d, hd, rfl, hbb⟩
        have HP1 := Lib.hid (HP0.out.later hbb)
        have HK1 := Lib.hid (HK0.out.trans (KeptL.of_below hbb))
        have HX1 := Lib.hid (blk_below HX0.out hbb)
        clear hbb q0 q1 q2 q3 q4 q5 ql
        have q0 := blk_cell (i := 0) HX1.out rfl
        have q1 := blk_cell (i := 1) HX1.out rfl
        have q2 := blk_cell (i := 2) HX1.out rfl
        have q3 := blk_cell (i := 3) HX1.out rfl
        have q4 := blk_cell (i := 4) HX1.out rfl
        have q5 := blk_cell (i := 5) HX1.out rfl
        have ql := blk_lt HX1.out
        go_wp2_with fail
        refine (fetch_lays W0 gk k pl sl hk nb (n + 0) ls0 _ HP1.out (by omega) _ hd x.a ha).mono ?_
        rintro e w3 ⟨rfl, hp, hkk⟩
        have HP2 := Lib.hid hp
        have HK2 := Lib.hid (HK1.out.trans hkk)
        have HX2 := Lib.hid (hkk.2 _ _ _ _ HX1.out (by decide) (by decide))
        clear hp hkk q0 q1 q2 q3 q4 q5 ql
        have q0 := blk_cell (i := 0) HX2.out rfl
        have q1 := blk_cell (i := 1) HX2.out rfl
        have q2 := blk_cell (i := 2) HX2.out rfl
        have q3 := blk_cell (i := 3) HX2.out rfl
        have q4 := blk_cell (i := 4) HX2.out rfl
        have q5 := blk_cell (i := 5) HX2.out rfl
        have ql := blk_lt HX2.out
        have q5f := blk_free (i := 5) HX2.out
        go_upto_region 15 with (fail)
        have h63 := and63 x.b.num
        obtain ⟨u, hu⟩ : ∃ u, u = bits BinOp.and IntKind.i64 x.b.num 63 := ⟨_, rfl⟩
        rw [← hu] at h63 ⊢
        clear hu
        have hgw2 : W0.heap.size ≤ gx := by rw [HGX.out]; exact hgw
        have HP8 := Lib.hid (HP2.out.set HX2.out hgw2 5 (.int .i64 u))
        have HK8 := Lib.hid (HK2.out.set (show w.heap.size ≤ gx from Nat.le_of_eq HGX.out.symm) 5 (.int .i64 u))
        have HX8 := Lib.hid (blk_setCell HX2.out (i := 5) (Value.int .i64 u))
        obtain ⟨w8, hw8⟩ : ∃ w8, w8 = w3.setCell ⟨gx, 5, none⟩ (.int .i64 u) := ⟨_, rfl⟩
        rw [← hw8] at HP8 HK8 HX8 ⊢
        clear hw8 q0 q1 q2 q3 q4 q5 q5f ql
        have q1 := blk_cell (i := 1) HX8.out rfl
        have q5 := blk_cell (i := 5) HX8.out rfl
        have ql := blk_lt HX8.out
        have HM := Lib.hid (show 24 ≤ m ∧ m ≤ 26 from by have := HALU.out.2 HSH.out; omega)
        go_wp2_with fail
        refine (ins_lays W0 gk k pl sl nb (n + 1) ls0 _ HP8.out (by omega) m d 0 u 0 false 0 [] (shift_ok HM.out hd h63.1 h63.2) (by have := HM.out; omega) (by have := HM.out; omega)).mono ?_
        rintro e w10 ⟨rfl, hp, hkk⟩
        have HP9 := Lib.hid hp
        have HK9 := Lib.hid (HK8.out.trans hkk)
        have HX9 := Lib.hid (hkk.2 _ _ _ _ HX8.out (by decide) (by decide))
        clear hp hkk q1 q5 ql
        have q1 := blk_cell (i := 1) HX9.out rfl
        have q5 := blk_cell (i := 5) HX9.out rfl
        have ql := blk_lt HX9.out
        go_wp2_with fail
        refine (keep_lays W0 gk k pl sl hk nb (n + 2) ls0 _ HP9.out (by omega) rn px hr (_) hd).mono ?_
        rintro e w11 ⟨rfl, hp, hkk⟩
        have HP10 := Lib.hid hp
        have HK10 := Lib.hid (HK9.out.trans hkk)
        have HX10 := Lib.hid (hkk.2 _ _ _ _ HX9.out (by decide) (by decide))
        clear hp hkk q1 q5 ql
        have q1 := blk_cell (i := 1) HX10.out rfl
        have q5 := blk_cell (i := 5) HX10.out rfl
        have ql := blk_lt HX10.out
        go_wp2_with fail
        go_returns
        exact ⟨rfl, HP10.out.le (by omega), HK10.out⟩
      · have dl : decide (x.b.reg < 0) = false := decide_eq_false hneg
        have HNG := Lib.hid hneg
        have HA := Lib.hid (below_alloc (.cells #[.int .i64 x.op, .int .i64 (rn : Nat), .int .i64 x.a.reg, .int .i64 x.a.num, .int .i64 x.b.reg, .int .i64 x.b.num, .int .i64 x.size, .bool x.signed, .bool x.secret, .int .i64 x.ref, .int .i64 x.off, vx] 74) (Below.refl w.heap.size w))
        have HP0 := Lib.hid (h.later HA.out)
        have HK0 := Lib.hid (KeptL.of_below HA.out)
        have HX0 := Lib.hid (blk_new w (.cells #[.int .i64 x.op, .int .i64 (rn : Nat), .int .i64 x.a.reg, .int .i64 x.a.num, .int .i64 x.b.reg, .int .i64 x.b.num, .int .i64 x.size, .bool x.signed, .bool x.secret, .int .i64 x.ref, .int .i64 x.off, vx] 74))
        obtain ⟨w1, hw1⟩ : ∃ w1, w1 = w.alloc (.cells #[.int .i64 x.op, .int .i64 (rn : Nat), .int .i64 x.a.reg, .int .i64 x.a.num, .int .i64 x.b.reg, .int .i64 x.b.num, .int .i64 x.size, .bool x.signed, .bool x.secret, .int .i64 x.ref, .int .i64 x.off, vx] 74) := ⟨_, rfl⟩
        rw [← hw1] at HP0 HK0 HX0
        obtain ⟨gx, hgx⟩ : ∃ gx, gx = w.heap.size := ⟨_, rfl⟩
        rw [← hgx] at HX0
        clear HA h
        have q0 := blk_cell (i := 0) HX0.out rfl
        have q1 := blk_cell (i := 1) HX0.out rfl
        have q2 := blk_cell (i := 2) HX0.out rfl
        have q3 := blk_cell (i := 3) HX0.out rfl
        have q4 := blk_cell (i := 4) HX0.out rfl
        have q5 := blk_cell (i := 5) HX0.out rfl
        have ql := blk_lt HX0.out
        have HGX := Lib.hid hgx
        go_enter Tryd.func45, Tryd.ntmps45
        go_upto_region 1 with (fail)
        rw [← hw1, ← hgx]
        clear hw1 hgx
        go_wp2_with fail
        refine (HAl.out _).mono ?_
        rintro e w8 ⟨o, m, hal, rfl, rfl⟩
        have HALU := Lib.hid hal
        clear hal
        go_wp2_with fail
        refine (HTr.out _).mono ?_
        rintro e w8 ⟨rfl, rfl⟩
        go_wp2_with fail
        refine (result_p W0 gk k pl sl hk nb (n + 0) ls0 _ (HP0.out.later (below_alloc _ (Below.refl _ _))) rn px hr _ [x.b] (slr_one (blk_new _ _) hb.1 hb.2.1) (fun a h => by simp at h; subst h; exact hb) (by simp)).mono ?_
        rintro e w2 ⟨d, hd, rfl, hbb⟩
        have HP1 := Lib.hid ((HP0.out.later (below_alloc _ (Below.refl _ _))).later hbb)
        have HK1 := Lib.hid ((HK0.out.trans (KeptL.of_below (below_alloc _ (Below.refl _ _)))).trans (KeptL.of_below hbb))
        have HX1 := Lib.hid (blk_below (blk_below HX0.out (below_alloc _ (Below.refl _ _))) hbb)
        clear hbb q0 q1 q2 q3 q4 q5 ql
        have q0 := blk_cell (i := 0) HX1.out rfl
        have q1 := blk_cell (i := 1) HX1.out rfl
        have q2 := blk_cell (i := 2) HX1.out rfl
        have q3 := blk_cell (i := 3) HX1.out rfl
        have q4 := blk_cell (i := 4) HX1.out rfl
        have q5 := blk_cell (i := 5) HX1.out rfl
        have ql := blk_lt HX1.out
        go_wp2_with fail
        refine (fetch_lays W0 gk k pl sl hk nb (n + 0) ls0 _ HP1.out (by omega) 1 r1 x.b hb).mono ?_
        rintro e w3 ⟨rfl, hp, hkk⟩
        have HP2 := Lib.hid hp
        have HK2 := Lib.hid (HK1.out.trans hkk)
        have HX2 := Lib.hid (hkk.2 _ _ _ _ HX1.out (by decide) (by decide))
        clear hp hkk q0 q1 q2 q3 q4 q5 ql
        have q0 := blk_cell (i := 0) HX2.out rfl
        have q1 := blk_cell (i := 1) HX2.out rfl
        have q2 := blk_cell (i := 2) HX2.out rfl
        have q3 := blk_cell (i := 3) HX2.out rfl
        have q4 := blk_cell (i := 4) HX2.out rfl
        have q5 := blk_cell (i := 5) HX2.out rfl
        have ql := blk_lt HX2.out
        go_wp2_with fail
        refine (fetch_lays W0 gk k pl sl hk nb (n + 1) ls0 _ HP2.out (by omega) _ hd x.a ha).mono ?_
        rintro e w4 ⟨rfl, hp, hkk⟩
        have HP3 := Lib.hid hp
        have HK3 := Lib.hid (HK2.out.trans hkk)
        have HX3 := Lib.hid (hkk.2 _ _ _ _ HX2.out (by decide) (by decide))
        clear hp hkk q0 q1 q2 q3 q4 q5 ql
        have q0 := blk_cell (i := 0) HX3.out rfl
        have q1 := blk_cell (i := 1) HX3.out rfl
        have q2 := blk_cell (i := 2) HX3.out rfl
        have q3 := blk_cell (i := 3) HX3.out rfl
        have q4 := blk_cell (i := 4) HX3.out rfl
        have q5 := blk_cell (i := 5) HX3.out rfl
        have ql := blk_lt HX3.out
        have HM := Lib.hid (show 21 ≤ o ∧ o ≤ 23 from by have := HALU.out.2 HSH.out; omega)
        go_wp2_with fail
        refine (ins_lays W0 gk k pl sl nb (n + 2) ls0 _ HP3.out (by omega) o d 0 0 0 false 0 [] (one_ok (Or.inl HM.out) hd) (by have := HM.out; omega) (by have := HM.out; omega)).mono ?_
        rintro e w5 ⟨rfl, hp, hkk⟩
        have HP4 := Lib.hid hp
        have HK4 := Lib.hid (HK3.out.trans hkk)
        have HX4 := Lib.hid (hkk.2 _ _ _ _ HX3.out (by decide) (by decide))
        clear hp hkk q0 q1 q2 q3 q4 q5 ql
        have q0 := blk_cell (i := 0) HX4.out rfl
        have q1 := blk_cell (i := 1) HX4.out rfl
        have q2 := blk_cell (i := 2) HX4.out rfl
        have q3 := blk_cell (i := 3) HX4.out rfl
        have q4 := blk_cell (i := 4) HX4.out rfl
        have q5 := blk_cell (i := 5) HX4.out rfl
        have ql := blk_lt HX4.out
        go_wp2_with fail
        refine (keep_lays W0 gk k pl sl hk nb (n + 3) ls0 _ HP4.out (by omega) rn px hr (_) hd).mono ?_
        rintro e w6 ⟨rfl, hp, hkk⟩
        have HP5 := Lib.hid hp
        have HK5 := Lib.hid (HK4.out.trans hkk)
        have HX5 := Lib.hid (hkk.2 _ _ _ _ HX4.out (by decide) (by decide))
        clear hp hkk q0 q1 q2 q3 q4 q5 ql
        have q0 := blk_cell (i := 0) HX5.out rfl
        have q1 := blk_cell (i := 1) HX5.out rfl
        have q2 := blk_cell (i := 2) HX5.out rfl
        have q3 := blk_cell (i := 3) HX5.out rfl
        have q4 := blk_cell (i := 4) HX5.out rfl
        have q5 := blk_cell (i := 5) HX5.out rfl
        have ql := blk_lt HX5.out
        go_wp2_with fail
        go_returns
        exact ⟨rfl, HP5.out.le (by omega), HK5.out⟩
    · have ds0 : decide (x.op ≥ 13) = false := decide_eq_false (by omega)
      have ds1 : decide (13 ≤ x.op) = false := decide_eq_false (by omega)
      have HSH := Lib.hid hsh
      clear hsh ho
      by_cases hneg : x.b.reg < 0
      · have dl : decide (x.b.reg < 0) = true := decide_eq_true hneg
        have HNG := Lib.hid hneg
        by_cases hs : small32 x.b.num = true
        · rw [hs] at HSm
          have HA := Lib.hid (below_alloc (.cells #[.int .i64 x.op, .int .i64 (rn : Nat), .int .i64 x.a.reg, .int .i64 x.a.num, .int .i64 x.b.reg, .int .i64 x.b.num, .int .i64 x.size, .bool x.signed, .bool x.secret, .int .i64 x.ref, .int .i64 x.off, vx] 74) (Below.refl w.heap.size w))
          have HP0 := Lib.hid (h.later HA.out)
          have HK0 := Lib.hid (KeptL.of_below HA.out)
          have HX0 := Lib.hid (blk_new w (.cells #[.int .i64 x.op, .int .i64 (rn : Nat), .int .i64 x.a.reg, .int .i64 x.a.num, .int .i64 x.b.reg, .int .i64 x.b.num, .int .i64 x.size, .bool x.signed, .bool x.secret, .int .i64 x.ref, .int .i64 x.off, vx] 74))
          obtain ⟨w1, hw1⟩ : ∃ w1, w1 = w.alloc (.cells #[.int .i64 x.op, .int .i64 (rn : Nat), .int .i64 x.a.reg, .int .i64 x.a.num, .int .i64 x.b.reg, .int .i64 x.b.num, .int .i64 x.size, .bool x.signed, .bool x.secret, .int .i64 x.ref, .int .i64 x.off, vx] 74) := ⟨_, rfl⟩
          rw [← hw1] at HP0 HK0 HX0
          obtain ⟨gx, hgx⟩ : ∃ gx, gx = w.heap.size := ⟨_, rfl⟩
          rw [← hgx] at HX0
          clear HA h
          have HN := Lib.hid (show -2147483648 ≤ x.b.num ∧ x.b.num ≤ 2147483647 from of_decide_eq_true hs)
          clear hs
          have q0 := blk_cell (i := 0) HX0.out rfl
          have q1 := blk_cell (i := 1) HX0.out rfl
          have q2 := blk_cell (i := 2) HX0.out rfl
          have q3 := blk_cell (i := 3) HX0.out rfl
          have q4 := blk_cell (i := 4) HX0.out rfl
          have q5 := blk_cell (i := 5) HX0.out rfl
          have ql := blk_lt HX0.out
          have HGX := Lib.hid hgx
          go_enter Tryd.func45, Tryd.ntmps45
          go_upto_region 1 with (fail)
          rw [← hw1, ← hgx]
          clear hw1 hgx
          go_wp2_with fail
          refine (HAl.out _).mono ?_
          rintro e w8 ⟨o, m, hal, rfl, rfl⟩
          have HALU := Lib.hid hal
          clear hal
          go_wp2_with fail
          refine (HTr.out _).mono ?_
          rintro e w8 ⟨rfl, rfl⟩
          go_wp2_with fail
          refine (HSm.out _).mono ?_
          rintro e w8 ⟨rfl, rfl⟩
          go_wp2_with fail
          refine (result_p W0 gk k pl sl hk nb (n + 0) ls0 _ HP0.out rn px hr _ [] (slr_nil _) (fun a h => by simp at h) (by simp)).mono ?_
          rintro e w2 ⟨d, hd, rfl, hbb⟩
          have HP1 := Lib.hid (HP0.out.later hbb)
          have HK1 := Lib.hid (HK0.out.trans (KeptL.of_below hbb))
          have HX1 := Lib.hid (blk_below HX0.out hbb)
          clear hbb q0 q1 q2 q3 q4 q5 ql
          have q0 := blk_cell (i := 0) HX1.out rfl
          have q1 := blk_cell (i := 1) HX1.out rfl
          have q2 := blk_cell (i := 2) HX1.out rfl
          have q3 := blk_cell (i := 3) HX1.out rfl
          have q4 := blk_cell (i := 4) HX1.out rfl
          have q5 := blk_cell (i := 5) HX1.out rfl
          have ql := blk_lt HX1.out
          go_wp2_with fail
          refine (fetch_lays W0 gk k pl sl hk nb (n + 0) ls0 _ HP1.out (by omega) _ hd x.a ha).mono ?_
          rintro e w3 ⟨rfl, hp, hkk⟩
          have HP2 := Lib.hid hp
          have HK2 := Lib.hid (HK1.out.trans hkk)
          have HX2 := Lib.hid (hkk.2 _ _ _ _ HX1.out (by decide) (by decide))
          clear hp hkk q0 q1 q2 q3 q4 q5 ql
          have q0 := blk_cell (i := 0) HX2.out rfl
          have q1 := blk_cell (i := 1) HX2.out rfl
          have q2 := blk_cell (i := 2) HX2.out rfl
          have q3 := blk_cell (i := 3) HX2.out rfl
          have q4 := blk_cell (i := 4) HX2.out rfl
          have q5 := blk_cell (i := 5) HX2.out rfl
          have ql := blk_lt HX2.out
          have HM := Lib.hid (show 14 ≤ m ∧ m ≤ 20 by have := HALU.out.1 (by have := HSH.out; omega) HT.out; omega)
          go_wp2_with fail
          refine (ins_lays W0 gk k pl sl nb (n + 1) ls0 _ HP2.out (by omega) m d 0 x.b.num 0 false 0 [] (num_ok HM.out (Or.inl hd) HN.out.1 HN.out.2) (by have := HM.out; omega) (by have := HM.out; omega)).mono ?_
          rintro e w4 ⟨rfl, hp, hkk⟩
          have HP3 := Lib.hid hp
          have HK3 := Lib.hid (HK2.out.trans hkk)
          have HX3 := Lib.hid (hkk.2 _ _ _ _ HX2.out (by decide) (by decide))
          clear hp hkk q0 q1 q2 q3 q4 q5 ql
          have q0 := blk_cell (i := 0) HX3.out rfl
          have q1 := blk_cell (i := 1) HX3.out rfl
          have q2 := blk_cell (i := 2) HX3.out rfl
          have q3 := blk_cell (i := 3) HX3.out rfl
          have q4 := blk_cell (i := 4) HX3.out rfl
          have q5 := blk_cell (i := 5) HX3.out rfl
          have ql := blk_lt HX3.out
          go_wp2_with fail
          refine (keep_lays W0 gk k pl sl hk nb (n + 2) ls0 _ HP3.out (by omega) rn px hr (_) hd).mono ?_
          rintro e w5 ⟨rfl, hp, hkk⟩
          have HP4 := Lib.hid hp
          have HK4 := Lib.hid (HK3.out.trans hkk)
          have HX4 := Lib.hid (hkk.2 _ _ _ _ HX3.out (by decide) (by decide))
          clear hp hkk q0 q1 q2 q3 q4 q5 ql
          have q0 := blk_cell (i := 0) HX4.out rfl
          have q1 := blk_cell (i := 1) HX4.out rfl
          have q2 := blk_cell (i := 2) HX4.out rfl
          have q3 := blk_cell (i := 3) HX4.out rfl
          have q4 := blk_cell (i := 4) HX4.out rfl
          have q5 := blk_cell (i := 5) HX4.out rfl
          have ql := blk_lt HX4.out
          go_wp2_with fail
          go_returns
          exact ⟨rfl, HP4.out.le (by omega), HK4.out⟩
        · have hs2 : small32 x.b.num = false := by simpa using hs
          rw [hs2] at HSm
          clear hs
          have HA := Lib.hid (below_alloc (.cells #[.int .i64 x.op, .int .i64 (rn : Nat), .int .i64 x.a.reg, .int .i64 x.a.num, .int .i64 x.b.reg, .int .i64 x.b.num, .int .i64 x.size, .bool x.signed, .bool x.secret, .int .i64 x.ref, .int .i64 x.off, vx] 74) (Below.refl w.heap.size w))
          have HP0 := Lib.hid (h.later HA.out)
          have HK0 := Lib.hid (KeptL.of_below HA.out)
          have HX0 := Lib.hid (blk_new w (.cells #[.int .i64 x.op, .int .i64 (rn : Nat), .int .i64 x.a.reg, .int .i64 x.a.num, .int .i64 x.b.reg, .int .i64 x.b.num, .int .i64 x.size, .bool x.signed, .bool x.secret, .int .i64 x.ref, .int .i64 x.off, vx] 74))
          obtain ⟨w1, hw1⟩ : ∃ w1, w1 = w.alloc (.cells #[.int .i64 x.op, .int .i64 (rn : Nat), .int .i64 x.a.reg, .int .i64 x.a.num, .int .i64 x.b.reg, .int .i64 x.b.num, .int .i64 x.size, .bool x.signed, .bool x.secret, .int .i64 x.ref, .int .i64 x.off, vx] 74) := ⟨_, rfl⟩
          rw [← hw1] at HP0 HK0 HX0
          obtain ⟨gx, hgx⟩ : ∃ gx, gx = w.heap.size := ⟨_, rfl⟩
          rw [← hgx] at HX0
          clear HA h
          have q0 := blk_cell (i := 0) HX0.out rfl
          have q1 := blk_cell (i := 1) HX0.out rfl
          have q2 := blk_cell (i := 2) HX0.out rfl
          have q3 := blk_cell (i := 3) HX0.out rfl
          have q4 := blk_cell (i := 4) HX0.out rfl
          have q5 := blk_cell (i := 5) HX0.out rfl
          have ql := blk_lt HX0.out
          have HGX := Lib.hid hgx
          go_enter Tryd.func45, Tryd.ntmps45
          go_upto_region 1 with (fail)
          rw [← hw1, ← hgx]
          clear hw1 hgx
          go_wp2_with fail
          refine (HAl.out _).mono ?_
          rintro e w8 ⟨o, m, hal, rfl, rfl⟩
          have HALU := Lib.hid hal
          clear hal
          go_wp2_with fail
          refine (HTr.out _).mono ?_
          rintro e w8 ⟨rfl, rfl⟩
          go_wp2_with fail
          refine (HSm.out _).mono ?_
          rintro e w8 ⟨rfl, rfl⟩
          go_wp2_with fail
          refine (result_p W0 gk k pl sl hk nb (n + 0) ls0 _ (HP0.out.later (below_alloc _ (Below.refl _ _))) rn px hr _ [x.b] (slr_one (blk_new _ _) hb.1 hb.2.1) (fun a h => by simp at h; subst h; exact hb) (by simp)).mono ?_
          rintro e w2 ⟨d, hd, rfl, hbb⟩
          have HP1 := Lib.hid ((HP0.out.later (below_alloc _ (Below.refl _ _))).later hbb)
          have HK1 := Lib.hid ((HK0.out.trans (KeptL.of_below (below_alloc _ (Below.refl _ _)))).trans (KeptL.of_below hbb))
          have HX1 := Lib.hid (blk_below (blk_below HX0.out (below_alloc _ (Below.refl _ _))) hbb)
          clear hbb q0 q1 q2 q3 q4 q5 ql
          have q0 := blk_cell (i := 0) HX1.out rfl
          have q1 := blk_cell (i := 1) HX1.out rfl
          have q2 := blk_cell (i := 2) HX1.out rfl
          have q3 := blk_cell (i := 3) HX1.out rfl
          have q4 := blk_cell (i := 4) HX1.out rfl
          have q5 := blk_cell (i := 5) HX1.out rfl
          have ql := blk_lt HX1.out
          go_wp2_with fail
          refine (have_gives W0 gk k pl sl hk nb (n + 0) ls0 _ HP1.out (by omega) 10 r10 x.b hb).mono ?_
          rintro e w3 ⟨u, hu, rfl, hp, hkk⟩
          have HP2 := Lib.hid hp
          have HK2 := Lib.hid (HK1.out.trans hkk)
          have HX2 := Lib.hid (hkk.2 _ _ _ _ HX1.out (by decide) (by decide))
          clear hp hkk q0 q1 q2 q3 q4 q5 ql
          have q0 := blk_cell (i := 0) HX2.out rfl
          have q1 := blk_cell (i := 1) HX2.out rfl
          have q2 := blk_cell (i := 2) HX2.out rfl
          have q3 := blk_cell (i := 3) HX2.out rfl
          have q4 := blk_cell (i := 4) HX2.out rfl
          have q5 := blk_cell (i := 5) HX2.out rfl
          have ql := blk_lt HX2.out
          go_wp2_with fail
          refine (fetch_lays W0 gk k pl sl hk nb (n + 1) ls0 _ HP2.out (by omega) _ hd x.a ha).mono ?_
          rintro e w4 ⟨rfl, hp, hkk⟩
          have HP3 := Lib.hid hp
          have HK3 := Lib.hid (HK2.out.trans hkk)
          have HX3 := Lib.hid (hkk.2 _ _ _ _ HX2.out (by decide) (by decide))
          clear hp hkk q0 q1 q2 q3 q4 q5 ql
          have q0 := blk_cell (i := 0) HX3.out rfl
          have q1 := blk_cell (i := 1) HX3.out rfl
          have q2 := blk_cell (i := 2) HX3.out rfl
          have q3 := blk_cell (i := 3) HX3.out rfl
          have q4 := blk_cell (i := 4) HX3.out rfl
          have q5 := blk_cell (i := 5) HX3.out rfl
          have ql := blk_lt HX3.out
          have HM := Lib.hid (show 7 ≤ o ∧ o ≤ 13 by have := HALU.out.1 (by have := HSH.out; omega) HT.out; omega)
          go_wp2_with fail
          refine (ins_lays W0 gk k pl sl nb (n + 2) ls0 _ HP3.out (by omega) o d u 0 0 false 0 [] (two_ok (Or.inr HM.out) hd hu) (by have := HM.out; omega) (by have := HM.out; omega)).mono ?_
          rintro e w5 ⟨rfl, hp, hkk⟩
          have HP4 := Lib.hid hp
          have HK4 := Lib.hid (HK3.out.trans hkk)
          have HX4 := Lib.hid (hkk.2 _ _ _ _ HX3.out (by decide) (by decide))
          clear hp hkk q0 q1 q2 q3 q4 q5 ql
          have q0 := blk_cell (i := 0) HX4.out rfl
          have q1 := blk_cell (i := 1) HX4.out rfl
          have q2 := blk_cell (i := 2) HX4.out rfl
          have q3 := blk_cell (i := 3) HX4.out rfl
          have q4 := blk_cell (i := 4) HX4.out rfl
          have q5 := blk_cell (i := 5) HX4.out rfl
          have ql := blk_lt HX4.out
          go_wp2_with fail
          refine (keep_lays W0 gk k pl sl hk nb (n + 3) ls0 _ HP4.out (by omega) rn px hr (_) hd).mono ?_
          rintro e w6 ⟨rfl, hp, hkk⟩
          have HP5 := Lib.hid hp
          have HK5 := Lib.hid (HK4.out.trans hkk)
          have HX5 := Lib.hid (hkk.2 _ _ _ _ HX4.out (by decide) (by decide))
          clear hp hkk q0 q1 q2 q3 q4 q5 ql
          have q0 := blk_cell (i := 0) HX5.out rfl
          have q1 := blk_cell (i := 1) HX5.out rfl
          have q2 := blk_cell (i := 2) HX5.out rfl
          have q3 := blk_cell (i := 3) HX5.out rfl
          have q4 := blk_cell (i := 4) HX5.out rfl
          have q5 := blk_cell (i := 5) HX5.out rfl
          have ql := blk_lt HX5.out
          go_wp2_with fail
          go_returns
          exact ⟨rfl, HP5.out.le (by omega), HK5.out⟩
      · have dl : decide (x.b.reg < 0) = false := decide_eq_false hneg
        have HNG := Lib.hid hneg
        have HA := Lib.hid (below_alloc (.cells #[.int .i64 x.op, .int .i64 (rn : Nat), .int .i64 x.a.reg, .int .i64 x.a.num, .int .i64 x.b.reg, .int .i64 x.b.num, .int .i64 x.size, .bool x.signed, .bool x.secret, .int .i64 x.ref, .int .i64 x.off, vx] 74) (Below.refl w.heap.size w))
        have HP0 := Lib.hid (h.later HA.out)
        have HK0 := Lib.hid (KeptL.of_below HA.out)
        have HX0 := Lib.hid (blk_new w (.cells #[.int .i64 x.op, .int .i64 (rn : Nat), .int .i64 x.a.reg, .int .i64 x.a.num, .int .i64 x.b.reg, .int .i64 x.b.num, .int .i64 x.size, .bool x.signed, .bool x.secret, .int .i64 x.ref, .int .i64 x.off, vx] 74))
        obtain ⟨w1, hw1⟩ : ∃ w1, w1 = w.alloc (.cells #[.int .i64 x.op, .int .i64 (rn : Nat), .int .i64 x.a.reg, .int .i64 x.a.num, .int .i64 x.b.reg, .int .i64 x.b.num, .int .i64 x.size, .bool x.signed, .bool x.secret, .int .i64 x.ref, .int .i64 x.off, vx] 74) := ⟨_, rfl⟩
        rw [← hw1] at HP0 HK0 HX0
        obtain ⟨gx, hgx⟩ : ∃ gx, gx = w.heap.size := ⟨_, rfl⟩
        rw [← hgx] at HX0
        clear HA h
        have q0 := blk_cell (i := 0) HX0.out rfl
        have q1 := blk_cell (i := 1) HX0.out rfl
        have q2 := blk_cell (i := 2) HX0.out rfl
        have q3 := blk_cell (i := 3) HX0.out rfl
        have q4 := blk_cell (i := 4) HX0.out rfl
        have q5 := blk_cell (i := 5) HX0.out rfl
        have ql := blk_lt HX0.out
        have HGX := Lib.hid hgx
        go_enter Tryd.func45, Tryd.ntmps45
        go_upto_region 1 with (fail)
        rw [← hw1, ← hgx]
        clear hw1 hgx
        go_wp2_with fail
        refine (HAl.out _).mono ?_
        rintro e w8 ⟨o, m, hal, rfl, rfl⟩
        have HALU := Lib.hid hal
        clear hal
        go_wp2_with fail
        refine (HTr.out _).mono ?_
        rintro e w8 ⟨rfl, rfl⟩
        go_wp2_with fail
        refine (result_p W0 gk k pl sl hk nb (n + 0) ls0 _ (HP0.out.later (below_alloc _ (Below.refl _ _))) rn px hr _ [x.b] (slr_one (blk_new _ _) hb.1 hb.2.1) (fun a h => by simp at h; subst h; exact hb) (by simp)).mono ?_
        rintro e w2 ⟨d, hd, rfl, hbb⟩
        have HP1 := Lib.hid ((HP0.out.later (below_alloc _ (Below.refl _ _))).later hbb)
        have HK1 := Lib.hid ((HK0.out.trans (KeptL.of_below (below_alloc _ (Below.refl _ _)))).trans (KeptL.of_below hbb))
        have HX1 := Lib.hid (blk_below (blk_below HX0.out (below_alloc _ (Below.refl _ _))) hbb)
        clear hbb q0 q1 q2 q3 q4 q5 ql
        have q0 := blk_cell (i := 0) HX1.out rfl
        have q1 := blk_cell (i := 1) HX1.out rfl
        have q2 := blk_cell (i := 2) HX1.out rfl
        have q3 := blk_cell (i := 3) HX1.out rfl
        have q4 := blk_cell (i := 4) HX1.out rfl
        have q5 := blk_cell (i := 5) HX1.out rfl
        have ql := blk_lt HX1.out
        go_wp2_with fail
        refine (have_gives W0 gk k pl sl hk nb (n + 0) ls0 _ HP1.out (by omega) 10 r10 x.b hb).mono ?_
        rintro e w3 ⟨u, hu, rfl, hp, hkk⟩
        have HP2 := Lib.hid hp
        have HK2 := Lib.hid (HK1.out.trans hkk)
        have HX2 := Lib.hid (hkk.2 _ _ _ _ HX1.out (by decide) (by decide))
        clear hp hkk q0 q1 q2 q3 q4 q5 ql
        have q0 := blk_cell (i := 0) HX2.out rfl
        have q1 := blk_cell (i := 1) HX2.out rfl
        have q2 := blk_cell (i := 2) HX2.out rfl
        have q3 := blk_cell (i := 3) HX2.out rfl
        have q4 := blk_cell (i := 4) HX2.out rfl
        have q5 := blk_cell (i := 5) HX2.out rfl
        have ql := blk_lt HX2.out
        go_wp2_with fail
        refine (fetch_lays W0 gk k pl sl hk nb (n + 1) ls0 _ HP2.out (by omega) _ hd x.a ha).mono ?_
        rintro e w4 ⟨rfl, hp, hkk⟩
        have HP3 := Lib.hid hp
        have HK3 := Lib.hid (HK2.out.trans hkk)
        have HX3 := Lib.hid (hkk.2 _ _ _ _ HX2.out (by decide) (by decide))
        clear hp hkk q0 q1 q2 q3 q4 q5 ql
        have q0 := blk_cell (i := 0) HX3.out rfl
        have q1 := blk_cell (i := 1) HX3.out rfl
        have q2 := blk_cell (i := 2) HX3.out rfl
        have q3 := blk_cell (i := 3) HX3.out rfl
        have q4 := blk_cell (i := 4) HX3.out rfl
        have q5 := blk_cell (i := 5) HX3.out rfl
        have ql := blk_lt HX3.out
        have HM := Lib.hid (show 7 ≤ o ∧ o ≤ 13 by have := HALU.out.1 (by have := HSH.out; omega) HT.out; omega)
        go_wp2_with fail
        refine (ins_lays W0 gk k pl sl nb (n + 2) ls0 _ HP3.out (by omega) o d u 0 0 false 0 [] (two_ok (Or.inr HM.out) hd hu) (by have := HM.out; omega) (by have := HM.out; omega)).mono ?_
        rintro e w5 ⟨rfl, hp, hkk⟩
        have HP4 := Lib.hid hp
        have HK4 := Lib.hid (HK3.out.trans hkk)
        have HX4 := Lib.hid (hkk.2 _ _ _ _ HX3.out (by decide) (by decide))
        clear hp hkk q0 q1 q2 q3 q4 q5 ql
        have q0 := blk_cell (i := 0) HX4.out rfl
        have q1 := blk_cell (i := 1) HX4.out rfl
        have q2 := blk_cell (i := 2) HX4.out rfl
        have q3 := blk_cell (i := 3) HX4.out rfl
        have q4 := blk_cell (i := 4) HX4.out rfl
        have q5 := blk_cell (i := 5) HX4.out rfl
        have ql := blk_lt HX4.out
        go_wp2_with fail
        refine (keep_lays W0 gk k pl sl hk nb (n + 3) ls0 _ HP4.out (by omega) rn px hr (_) hd).mono ?_
        rintro e w6 ⟨rfl, hp, hkk⟩
        have HP5 := Lib.hid hp
        have HK5 := Lib.hid (HK4.out.trans hkk)
        have HX5 := Lib.hid (hkk.2 _ _ _ _ HX4.out (by decide) (by decide))
        clear hp hkk q0 q1 q2 q3 q4 q5 ql
        have q0 := blk_cell (i := 0) HX5.out rfl
        have q1 := blk_cell (i := 1) HX5.out rfl
        have q2 := blk_cell (i := 2) HX5.out rfl
        have q3 := blk_cell (i := 3) HX5.out rfl
        have q4 := blk_cell (i := 4) HX5.out rfl
        have q5 := blk_cell (i := 5) HX5.out rfl
        have ql := blk_lt HX5.out
        go_wp2_with fail
        go_returns
        exact ⟨rfl, HP5.out.le (by omega), HK5.out⟩
end
end Go.Proofs.YtbogcompeefoaaaDoor
