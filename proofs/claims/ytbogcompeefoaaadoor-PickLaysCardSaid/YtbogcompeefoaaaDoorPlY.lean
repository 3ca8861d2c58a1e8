/- pick: an instruction (printed by gen_ply.py). No condition. -/
import Derived.Test.YtbogcompeefoaaaDoorPlU
namespace Go.Proofs.YtbogcompeefoaaaDoor
open Go.RowKit
set_option linter.unusedVariables false
set_option linter.unusedSimpArgs false
set_option maxHeartbeats 4000000
theorem PS.slot {W0 : World} {gk : Nat} {k : PK} {pl sl : List Int} {ls : List LineD} {w : World} (h : PS W0 gk k pl sl ls w) {r : Nat} {x : Int} (hr : sl[r]? = some x) : ∃ gp cp, k.slots = .slice (some ⟨gp, 0, none⟩) sl.length cp ∧ w.cell? ⟨gp, r, none⟩ = some (.int .i64 x) ∧ gp < w.heap.size := by
  have hn := (List.getElem?_eq_some_iff.1 hr).1
  obtain ⟨gp, cp, e, _, _, _, hl⟩ := own_form h.slt (by omega)
  have ho := h.slt
  rw [e] at ho
  refine ⟨gp, cp, e, ?_, hl⟩
  rw [ho.cellAt r (by omega), ivL, List.getElem?_map, hr]; rfl
theorem PSeg.slot {W0 : World} {gk : Nat} {k : PK} {pl sl : List Int} {nb n : Nat} {ls0 : List LineD} {w : World} (h : PSeg W0 gk k pl sl nb ls0 n w) {r : Nat} {x : Int} (hr : sl[r]? = some x) : ∃ gp cp, w.cell? ⟨gk, 8, none⟩ = some (.slice (some ⟨gp, 0, none⟩) sl.length cp) ∧ w.cell? ⟨gp, r, none⟩ = some (.int .i64 x) := by
  obtain ⟨_, _, _, _, h3⟩ := h
  obtain ⟨gp, cp, e, h4, _⟩ := h3.slot hr
  obtain ⟨A, c, hb, _⟩ := h3.box
  exact ⟨gp, cp, by rw [← e]; exact blk_cell hb rfl, h4⟩
section
variable (W0 : World) (gk : Nat) (k : PK) (pl sl : List Int)
set_option maxRecDepth 100000 in
theorem one_copy (hk : KOk W0 k pl) (nb n : Nat) (ls0 : List LineD) (w : World) (h : PSeg W0 gk k pl sl nb ls0 n w) (hn : n ≤ 99998000) (x : InsD) (vx : Value) (rn : Nat) (px : Int) (hr : pl[rn]? = some px) (ht : Bool) (op : Int) (ho : op = 1 ∨ op = 2) (ha : ArgOk pl x.a) :
    Calls Tryd.prog 25 #[.pointer (some ⟨gk, 0, none⟩), .agg #[.int .i64 op, .int .i64 (rn : Nat), .int .i64 x.a.reg, .int .i64 x.a.num, .int .i64 x.b.reg, .int .i64 x.b.num, .int .i64 x.size, .bool x.signed, .bool x.secret, .int .i64 x.ref, .int .i64 x.off, vx], .bool ht] w (Lays W0 gk k pl sl nb ls0 (n + 10) w (.tuple #[])) := by
  have r0 : RR 0 := by unfold RR; decide
  have r10 : RR 10 := by unfold RR; decide
  rcases ho with rfl | rfl
  · skip
    have HA := Lib.hid (below_alloc (.cells #[.int .i64 1, .int .i64 (rn : Nat), .int .i64 x.a.reg, .int .i64 x.a.num, .int .i64 x.b.reg, .int .i64 x.b.num, .int .i64 x.size, .bool x.signed, .bool x.secret, .int .i64 x.ref, .int .i64 x.off, vx] 74) (Below.refl w.heap.size w))
    have HP0 := Lib.hid (h.later HA.out)
    have HK0 := Lib.hid (KeptL.of_below HA.out)
    have HX0 := Lib.hid (blk_new w (.cells #[.int .i64 1, .int .i64 (rn : Nat), .int .i64 x.a.reg, .int .i64 x.a.num, .int .i64 x.b.reg, .int .i64 x.b.num, .int .i64 x.size, .bool x.signed, .bool x.secret, .int .i64 x.ref, .int .i64 x.off, vx] 74))
    obtain ⟨w1, hw1⟩ : ∃ w1, w1 = w.alloc (.cells #[.int .i64 1, .int .i64 (rn : Nat), .int .i64 x.a.reg, .int .i64 x.a.num, .int .i64 x.b.reg, .int .i64 x.b.num, .int .i64 x.size, .bool x.signed, .bool x.secret, .int .i64 x.ref, .int .i64 x.off, vx] 74) := ⟨_, rfl⟩
    rw [← hw1] at HP0 HK0 HX0
    obtain ⟨gx, hgx⟩ : ∃ gx, gx = w.heap.size := ⟨_, rfl⟩
    rw [← hgx] at HX0
    clear HA h
    have q0 := blk_cell (i := 0) HX0.out rfl
    have q1 := blk_cell (i := 1) HX0.out rfl
    have q2 := blk_cell (i := 2) HX0.out rfl
    have q3 := blk_cell (i := 3) HX0.out rfl
    have ql := blk_lt HX0.out
    have HGX := Lib.hid hgx
    go_enter Tryd.func25, Tryd.ntmps25
    go_upto_region 2 with (fail)
    rw [← hw1, ← hgx]
    clear hw1 hgx
    go_wp2_with fail
    refine (result_p W0 gk k pl sl hk nb (n + 0) ls0 _ HP0.out rn px hr _ [] (slr_nil _) (fun a h => by simp at h) (by simp)).mono ?_
    rintro e w2 ⟨d, hd, rfl, hbb⟩
    have HP1 := Lib.hid (HP0.out.later hbb)
    have HK1 := Lib.hid (HK0.out.trans (KeptL.of_below hbb))
    have HX1 := Lib.hid (blk_below HX0.out hbb)
    clear hbb q0 q1 q2 q3 ql
    have q0 := blk_cell (i := 0) HX1.out rfl
    have q1 := blk_cell (i := 1) HX1.out rfl
    have q2 := blk_cell (i := 2) HX1.out rfl
    have q3 := blk_cell (i := 3) HX1.out rfl
    have ql := blk_lt HX1.out
    go_wp2_with fail
    refine (fetch_lays W0 gk k pl sl hk nb (n + 0) ls0 _ HP1.out (by omega) _ hd x.a ha).mono ?_
    rintro e w3 ⟨rfl, hp, hkk⟩
    have HP2 := Lib.hid hp
    have HK2 := Lib.hid (HK1.out.trans hkk)
    have HX2 := Lib.hid (hkk.2 _ _ _ _ HX1.out (by decide) (by decide))
    clear hp hkk q0 q1 q2 q3 ql
    have q0 := blk_cell (i := 0) HX2.out rfl
    have q1 := blk_cell (i := 1) HX2.out rfl
    have q2 := blk_cell (i := 2) HX2.out rfl
    have q3 := blk_cell (i := 3) HX2.out rfl
    have ql := blk_lt HX2.out
    go_wp2_with fail
    refine (keep_lays W0 gk k pl sl hk nb (n + 1) ls0 _ HP2.out (by omega) rn px hr (_) hd).mono ?_
    rintro e w4 ⟨rfl, hp, hkk⟩
    have HP3 := Lib.hid hp
    have HK3 := Lib.hid (HK2.out.trans hkk)
    have HX3 := Lib.hid (hkk.2 _ _ _ _ HX2.out (by decide) (by decide))
    clear hp hkk q0 q1 q2 q3 ql
    have q0 := blk_cell (i := 0) HX3.out rfl
    have q1 := blk_cell (i := 1) HX3.out rfl
    have q2 := blk_cell (i := 2) HX3.out rfl
    have q3 := blk_cell (i := 3) HX3.out rfl
    have ql := blk_lt HX3.out
    go_wp2_with fail
    go_returns
    exact ⟨rfl, HP3.out.le (by omega), HK3.out⟩
  · skip
    have HA := Lib.hid (below_alloc (.cells #[.int .i64 2, .int .i64 (rn : Nat), .int .i64 x.a.reg, .int .i64 x.a.num, .int .i64 x.b.reg, .int .i64 x.b.num, .int .i64 x.size, .bool x.signed, .bool x.secret, .int .i64 x.ref, .int .i64 x.off, vx] 74) (Below.refl w.heap.size w))
    have HP0 := Lib.hid (h.later HA.out)
    have HK0 := Lib.hid (KeptL.of_below HA.out)
    have HX0 := Lib.hid (blk_new w (.cells #[.int .i64 2, .int .i64 (rn : Nat), .int .i64 x.a.reg, .int .i64 x.a.num, .int .i64 x.b.reg, .int .i64 x.b.num, .int .i64 x.size, .bool x.signed, .bool x.secret, .int .i64 x.ref, .int .i64 x.off, vx] 74))
    obtain ⟨w1, hw1⟩ : ∃ w1, w1 = w.alloc (.cells #[.int .i64 2, .int .i64 (rn : Nat), .int .i64 x.a.reg, .int .i64 x.a.num, .int .i64 x.b.reg, .int .i64 x.b.num, .int .i64 x.size, .bool x.signed, .bool x.secret, .int .i64 x.ref, .int .i64 x.off, vx] 74) := ⟨_, rfl⟩
    rw [← hw1] at HP0 HK0 HX0
    obtain ⟨gx, hgx⟩ : ∃ gx, gx = w.heap.size := ⟨_, rfl⟩
    rw [← hgx] at HX0
    clear HA h
    have q0 := blk_cell (i := 0) HX0.out rfl
    have q1 := blk_cell (i := 1) HX0.out rfl
    have q2 := blk_cell (i := 2) HX0.out rfl
    have q3 := blk_cell (i := 3) HX0.out rfl
    have ql := blk_lt HX0.out
    have HGX := Lib.hid hgx
    go_enter Tryd.func25, Tryd.ntmps25
    go_upto_region 2 with (fail)
    rw [← hw1, ← hgx]
    clear hw1 hgx
    go_wp2_with fail
    refine (result_p W0 gk k pl sl hk nb (n + 0) ls0 _ HP0.out rn px hr _ [] (slr_nil _) (fun a h => by simp at h) (by simp)).mono ?_
    rintro e w2 ⟨d, hd, rfl, hbb⟩
    have HP1 := Lib.hid (HP0.out.later hbb)
    have HK1 := Lib.hid (HK0.out.trans (KeptL.of_below hbb))
    have HX1 := Lib.hid (blk_below HX0.out hbb)
    clear hbb q0 q1 q2 q3 ql
    have q0 := blk_cell (i := 0) HX1.out rfl
    have q1 := blk_cell (i := 1) HX1.out rfl
    have q2 := blk_cell (i := 2) HX1.out rfl
    have q3 := blk_cell (i := 3) HX1.out rfl
    have ql := blk_lt HX1.out
    go_wp2_with fail
    refine (fetch_lays W0 gk k pl sl hk nb (n + 0) ls0 _ HP1.out (by omega) _ hd x.a ha).mono ?_
    rintro e w3 ⟨rfl, hp, hkk⟩
    have HP2 := Lib.hid hp
    have HK2 := Lib.hid (HK1.out.trans hkk)
    have HX2 := Lib.hid (hkk.2 _ _ _ _ HX1.out (by decide) (by decide))
    clear hp hkk q0 q1 q2 q3 ql
    have q0 := blk_cell (i := 0) HX2.out rfl
    have q1 := blk_cell (i := 1) HX2.out rfl
    have q2 := blk_cell (i := 2) HX2.out rfl
    have q3 := blk_cell (i := 3) HX2.out rfl
    have ql := blk_lt HX2.out
    go_wp2_with fail
    refine (keep_lays W0 gk k pl sl hk nb (n + 1) ls0 _ HP2.out (by omega) rn px hr (_) hd).mono ?_
    rintro e w4 ⟨rfl, hp, hkk⟩
    have HP3 := Lib.hid hp
    have HK3 := Lib.hid (HK2.out.trans hkk)
    have HX3 := Lib.hid (hkk.2 _ _ _ _ HX2.out (by decide) (by decide))
    clear hp hkk q0 q1 q2 q3 ql
    have q0 := blk_cell (i := 0) HX3.out rfl
    have q1 := blk_cell (i := 1) HX3.out rfl
    have q2 := blk_cell (i := 2) HX3.out rfl
    have q3 := blk_cell (i := 3) HX3.out rfl
    have ql := blk_lt HX3.out
    go_wp2_with fail
    go_returns
    exact ⟨rfl, HP3.out.le (by omega), HK3.out⟩
set_option maxRecDepth 100000 in
theorem one_reckon (hk : KOk W0 k pl) (nb n : Nat) (ls0 : List LineD) (w : World) (h : PSeg W0 gk k pl sl nb ls0 n w) (hn : n ≤ 99998000) (x : InsD) (vx : Value) (rn : Nat) (px : Int) (hr : pl[rn]? = some px) (ht : Bool) (ho : 3 ≤ x.op ∧ x.op ≤ 15) (ha : ArgOk pl x.a) (hb : ArgOk pl x.b) :
    Calls Tryd.prog 25 #[.pointer (some ⟨gk, 0, none⟩), .agg #[.int .i64 x.op, .int .i64 (rn : Nat), .int .i64 x.a.reg, .int .i64 x.a.num, .int .i64 x.b.reg, .int .i64 x.b.num, .int .i64 x.size, .bool x.signed, .bool x.secret, .int .i64 x.ref, .int .i64 x.off, vx], .bool ht] w (Lays W0 gk k pl sl nb ls0 (n + 10) w (.tuple #[])) := by
  have r0 : RR 0 := by unfold RR; decide
  have r10 : RR 10 := by unfold RR; decide
  have HA := Lib.hid (below_alloc (.cells #[.int .i64 x.op, .int .i64 (rn : Nat), .int .i64 x.a.reg, .int .i64 x.a.num, .int .i64 x.b.reg, .int .i64 x.b.num, .int .i64 x.size, .bool x.signed, .bool x.secret, .int .i64 x.ref, .int .i64 x.off, vx] 74) (Below.refl w.heap.size w))
  have HP0 := Lib.hid (h.later HA.out)
  have HK0 := Lib.hid (KeptL.of_below HA.out)
  have HX0 := Lib.hid (blk_new w (.cells #[.int .i64 x.op, .int .i64 (rn : Nat), .int .i64 x.a.reg, .int .i64 x.a.num, .int .i64 x.b.reg, .int .i64 x.b.num, .int .i64 x.size, .bool x.signed, .bool x.secret, .int .i64 x.ref, .int .i64 x.off, vx] 74))
  obtain ⟨w1, hw1⟩ : ∃ w1, w1 = w.alloc (.cells #[.int .i64 x.op, .int .i64 (rn : Nat), .int .i64 x.a.reg, .int .i64 x.a.num, .int .i64 x.b.reg, .int .i64 x.b.num, .int .i64 x.size, .bool x.signed, .bool x.secret, .int .i64 x.ref, .int .i64 x.off, vx] 74) := ⟨_, rfl⟩
  rw [← hw1] at HP0 HK0 HX0
  obtain ⟨gx, hgx⟩ : ∃ gx, gx = w.heap.size := ⟨_, rfl⟩
  rw [← hgx] at HX0
  clear HA h
  have g1 : (x.op == 1) = false := by rw [beq_eq_false_iff_ne]; omega
  have g2 : (x.op == 2) = false := by rw [beq_eq_false_iff_ne]; omega
  have g3 : decide (x.op ≥ 3) = true := decide_eq_true ho.1
  have g4 : decide (x.op ≤ 15) = true := decide_eq_true ho.2
  have HO := Lib.hid ho
  clear ho
  have q0 := blk_cell (i := 0) HX0.out rfl
  have q1 := blk_cell (i := 1) HX0.out rfl
  have q2 := blk_cell (i := 2) HX0.out rfl
  have q3 := blk_cell (i := 3) HX0.out rfl
  have q4 := blk_cell (i := 4) HX0.out rfl
  have q5 := blk_cell (i := 5) HX0.out rfl
  have q6 := blk_cell (i := 6) HX0.out rfl
  have q7 := blk_cell (i := 7) HX0.out rfl
  have q8 := blk_cell (i := 8) HX0.out rfl
  have q9 := blk_cell (i := 9) HX0.out rfl
  have q10 := blk_cell (i := 10) HX0.out rfl
  have q11 := blk_cell (i := 11) HX0.out rfl
  have ql := blk_lt HX0.out
  have HGX := Lib.hid hgx
  go_enter Tryd.func25, Tryd.ntmps25
  go_upto_region 2 with (fail)
  rw [← hw1, ← hgx]
  clear hw1 hgx
  go_wp2_with fail
  refine (reckon_lays W0 gk k pl sl hk nb n ls0 _ HP0.out (by omega) x vx rn px hr ha hb HO.out).mono ?_
  rintro e w2 ⟨rfl, hp, hkk⟩
  have HP1 := Lib.hid hp
  have HK1 := Lib.hid (HK0.out.trans hkk)
  have HX1 := Lib.hid (hkk.2 _ _ _ _ HX0.out (by decide) (by decide))
  clear hp hkk q0 q1 q2 q3 q4 q5 q6 q7 q8 q9 q10 q11 ql
  have q0 := blk_cell (i := 0) HX1.out rfl
  have q1 := blk_cell (i := 1) HX1.out rfl
  have q2 := blk_cell (i := 2) HX1.out rfl
  have q3 := blk_cell (i := 3) HX1.out rfl
  have q4 := blk_cell (i := 4) HX1.out rfl
  have q5 := blk_cell (i := 5) HX1.out rfl
  have q6 := blk_cell (i := 6) HX1.out rfl
  have q7 := blk_cell (i := 7) HX1.out rfl
  have q8 := blk_cell (i := 8) HX1.out rfl
  have q9 := blk_cell (i := 9) HX1.out rfl
  have q10 := blk_cell (i := 10) HX1.out rfl
  have q11 := blk_cell (i := 11) HX1.out rfl
  have ql := blk_lt HX1.out
  go_wp2_with fail
  go_returns
  exact ⟨rfl, HP1.out.le (by omega), HK1.out⟩
set_option maxRecDepth 100000 in
theorem one_compare (hk : KOk W0 k pl) (nb n : Nat) (ls0 : List LineD) (w : World) (h : PSeg W0 gk k pl sl nb ls0 n w) (hn : n ≤ 99998000) (x : InsD) (vx : Value) (rn : Nat) (px : Int) (hr : pl[rn]? = some px) (ht : Bool) (ho : 16 ≤ x.op ∧ x.op ≤ 21) (ha : ArgOk pl x.a) (hb : ArgOk pl x.b) :
    Calls Tryd.prog 25 #[.pointer (some ⟨gk, 0, none⟩), .agg #[.int .i64 x.op, .int .i64 (rn : Nat), .int .i64 x.a.reg, .int .i64 x.a.num, .int .i64 x.b.reg, .int .i64 x.b.num, .int .i64 x.size, .bool x.signed, .bool x.secret, .int .i64 x.ref, .int .i64 x.off, vx], .bool ht] w (Lays W0 gk k pl sl nb ls0 (n + 10) w (.tuple #[])) := by
  have r0 : RR 0 := by unfold RR; decide
  have r10 : RR 10 := by unfold RR; decide
  have HA := Lib.hid (below_alloc (.cells #[.int .i64 x.op, .int .i64 (rn : Nat), .int .i64 x.a.reg, .int .i64 x.a.num, .int .i64 x.b.reg, .int .i64 x.b.num, .int .i64 x.size, .bool x.signed, .bool x.secret, .int .i64 x.ref, .int .i64 x.off, vx] 74) (Below.refl w.heap.size w))
  have HP0 := Lib.hid (h.later HA.out)
  have HK0 := Lib.hid (KeptL.of_below HA.out)
  have HX0 := Lib.hid (blk_new w (.cells #[.int .i64 x.op, .int .i64 (rn : Nat), .int .i64 x.a.reg, .int .i64 x.a.num, .int .i64 x.b.reg, .int .i64 x.b.num, .int .i64 x.size, .bool x.signed, .bool x.secret, .int .i64 x.ref, .int .i64 x.off, vx] 74))
  obtain ⟨w1, hw1⟩ : ∃ w1, w1 = w.alloc (.cells #[.int .i64 x.op, .int .i64 (rn : Nat), .int .i64 x.a.reg, .int .i64 x.a.num, .int .i64 x.b.reg, .int .i64 x.b.num, .int .i64 x.size, .bool x.signed, .bool x.secret, .int .i64 x.ref, .int .i64 x.off, vx] 74) := ⟨_, rfl⟩
  rw [← hw1] at HP0 HK0 HX0
  obtain ⟨gx, hgx⟩ : ∃ gx, gx = w.heap.size := ⟨_, rfl⟩
  rw [← hgx] at HX0
  clear HA h
  have g1 : (x.op == 1) = false := by rw [beq_eq_false_iff_ne]; omega
  have g2 : (x.op == 2) = false := by rw [beq_eq_false_iff_ne]; omega
  have g3 : decide (x.op ≥ 3) = true := decide_eq_true (by omega)
  have g4 : decide (x.op ≤ 15) = false := decide_eq_false (by omega)
  have g5 : decide (x.op ≥ 16) = true := decide_eq_true ho.1
  have g6 : decide (x.op ≤ 21) = true := decide_eq_true ho.2
  have HO := Lib.hid ho
  clear ho
  have q0 := blk_cell (i := 0) HX0.out rfl
  have q1 := blk_cell (i := 1) HX0.out rfl
  have q2 := blk_cell (i := 2) HX0.out rfl
  have q3 := blk_cell (i := 3) HX0.out rfl
  have q4 := blk_cell (i := 4) HX0.out rfl
  have q5 := blk_cell (i := 5) HX0.out rfl
  have q6 := blk_cell (i := 6) HX0.out rfl
  have q7 := blk_cell (i := 7) HX0.out rfl
  have q8 := blk_cell (i := 8) HX0.out rfl
  have q9 := blk_cell (i := 9) HX0.out rfl
  have q10 := blk_cell (i := 10) HX0.out rfl
  have q11 := blk_cell (i := 11) HX0.out rfl
  have ql := blk_lt HX0.out
  have HGX := Lib.hid hgx
  go_enter Tryd.func25, Tryd.ntmps25
  go_upto_region 2 with (fail)
  rw [← hw1, ← hgx]
  clear hw1 hgx
  go_wp2_with fail
  refine (compare_any W0 gk k pl sl hk nb n ls0 _ HP0.out (by omega) x.op x.a x.b ha hb HO.out).mono ?_
  rintro e w2 ⟨c, hc, rfl, hp, hkk⟩
  have HP1 := Lib.hid hp
  have HK1 := Lib.hid (HK0.out.trans hkk)
  have HX1 := Lib.hid (hkk.2 _ _ _ _ HX0.out (by decide) (by decide))
  clear hp hkk q0 q1 q2 q3 q4 q5 q6 q7 q8 q9 q10 q11 ql
  have q1 := blk_cell (i := 1) HX1.out rfl
  have ql := blk_lt HX1.out
  go_wp2_with fail
  refine (ins_lays W0 gk k pl sl nb (n + 3) ls0 _ HP1.out (by omega) 31 0 0 0 0 false c [] (set_ok r0 hc) (by decide) (by decide)).mono ?_
  rintro e w3 ⟨rfl, hp, hkk⟩
  have HP2 := Lib.hid hp
  have HK2 := Lib.hid (HK1.out.trans hkk)
  have HX2 := Lib.hid (hkk.2 _ _ _ _ HX1.out (by decide) (by decide))
  clear hp hkk q1 ql
  have q1 := blk_cell (i := 1) HX2.out rfl
  have ql := blk_lt HX2.out
  go_wp2_with fail
  refine (ins_lays W0 gk k pl sl nb (n + 4) ls0 _ HP2.out (by omega) 30 0 0 0 1 false 0 [] (ext_ok r0 r0 (Or.inl rfl)) (by decide) (by decide)).mono ?_
  rintro e w4 ⟨rfl, hp, hkk⟩
  have HP3 := Lib.hid hp
  have HK3 := Lib.hid (HK2.out.trans hkk)
  have HX3 := Lib.hid (hkk.2 _ _ _ _ HX2.out (by decide) (by decide))
  clear hp hkk q1 ql
  have q1 := blk_cell (i := 1) HX3.out rfl
  have ql := blk_lt HX3.out
  go_wp2_with fail
  refine (keep_lays W0 gk k pl sl hk nb (n + 5) ls0 _ HP3.out (by omega) rn px hr (0) r0).mono ?_
  rintro e w5 ⟨rfl, hp, hkk⟩
  have HP4 := Lib.hid hp
  have HK4 := Lib.hid (HK3.out.trans hkk)
  have HX4 := Lib.hid (hkk.2 _ _ _ _ HX3.out (by decide) (by decide))
  clear hp hkk q1 ql
  have q1 := blk_cell (i := 1) HX4.out rfl
  have ql := blk_lt HX4.out
  go_wp2_with fail
  go_returns
  exact ⟨rfl, HP4.out.le (by omega), HK4.out⟩
set_option maxRecDepth 100000 in
theorem one_extend (hk : KOk W0 k pl) (nb n : Nat) (ls0 : List LineD) (w : World) (h : PSeg W0 gk k pl sl nb ls0 n w) (hn : n ≤ 99998000) (x : InsD) (vx : Value) (rn : Nat) (px : Int) (hr : pl[rn]? = some px) (ht : Bool) (ha : ArgOk pl x.a) (hz : x.size = 1 ∨ x.size = 2 ∨ x.size = 4 ∨ x.size = 8) (hop : x.op = 22) :
    Calls Tryd.prog 25 #[.pointer (some ⟨gk, 0, none⟩), .agg #[.int .i64 22, .int .i64 (rn : Nat), .int .i64 x.a.reg, .int .i64 x.a.num, .int .i64 x.b.reg, .int .i64 x.b.num, .int .i64 x.size, .bool x.signed, .bool x.secret, .int .i64 x.ref, .int .i64 x.off, vx], .bool ht] w (Lays W0 gk k pl sl nb ls0 (n + 10) w (.tuple #[])) := by
  have r0 : RR 0 := by unfold RR; decide
  have r10 : RR 10 := by unfold RR; decide
  have HA := Lib.hid (below_alloc (.cells #[.int .i64 22, .int .i64 (rn : Nat), .int .i64 x.a.reg, .int .i64 x.a.num, .int .i64 x.b.reg, .int .i64 x.b.num, .int .i64 x.size, .bool x.signed, .bool x.secret, .int .i64 x.ref, .int .i64 x.off, vx] 74) (Below.refl w.heap.size w))
  have HP0 := Lib.hid (h.later HA.out)
  have HK0 := Lib.hid (KeptL.of_below HA.out)
  have HX0 := Lib.hid (blk_new w (.cells #[.int .i64 22, .int .i64 (rn : Nat), .int .i64 x.a.reg, .int .i64 x.a.num, .int .i64 x.b.reg, .int .i64 x.b.num, .int .i64 x.size, .bool x.signed, .bool x.secret, .int .i64 x.ref, .int .i64 x.off, vx] 74))
  obtain ⟨w1, hw1⟩ : ∃ w1, w1 = w.alloc (.cells #[.int .i64 22, .int .i64 (rn : Nat), .int .i64 x.a.reg, .int .i64 x.a.num, .int .i64 x.b.reg, .int .i64 x.b.num, .int .i64 x.size, .bool x.signed, .bool x.secret, .int .i64 x.ref, .int .i64 x.off, vx] 74) := ⟨_, rfl⟩
  rw [← hw1] at HP0 HK0 HX0
  obtain ⟨gx, hgx⟩ : ∃ gx, gx = w.heap.size := ⟨_, rfl⟩
  rw [← hgx] at HX0
  clear HA h
  have HOP := Lib.hid hop
  clear hop
  have q0 := blk_cell (i := 0) HX0.out rfl
  have q1 := blk_cell (i := 1) HX0.out rfl
  have q2 := blk_cell (i := 2) HX0.out rfl
  have q3 := blk_cell (i := 3) HX0.out rfl
  have q4 := blk_cell (i := 4) HX0.out rfl
  have q5 := blk_cell (i := 5) HX0.out rfl
  have q6 := blk_cell (i := 6) HX0.out rfl
  have q7 := blk_cell (i := 7) HX0.out rfl
  have q8 := blk_cell (i := 8) HX0.out rfl
  have q9 := blk_cell (i := 9) HX0.out rfl
  have q10 := blk_cell (i := 10) HX0.out rfl
  have q11 := blk_cell (i := 11) HX0.out rfl
  have ql := blk_lt HX0.out
  have HGX := Lib.hid hgx
  go_enter Tryd.func25, Tryd.ntmps25
  go_upto_region 2 with (fail)
  rw [← hw1, ← hgx]
  clear hw1 hgx
  go_wp2_with fail
  have HE := Lib.hid (extend_lays W0 gk k pl sl hk nb n ls0 _ HP0.out (by omega) x vx rn px hr ha hz)
  rw [HOP.out] at HE
  refine (HE.out).mono ?_
  rintro e w2 ⟨rfl, hp, hkk⟩
  have HP1 := Lib.hid hp
  have HK1 := Lib.hid (HK0.out.trans hkk)
  have HX1 := Lib.hid (hkk.2 _ _ _ _ HX0.out (by decide) (by decide))
  clear hp hkk q0 q1 q2 q3 q4 q5 q6 q7 q8 q9 q10 q11 ql
  have q0 := blk_cell (i := 0) HX1.out rfl
  have q1 := blk_cell (i := 1) HX1.out rfl
  have q2 := blk_cell (i := 2) HX1.out rfl
  have q3 := blk_cell (i := 3) HX1.out rfl
  have q4 := blk_cell (i := 4) HX1.out rfl
  have q5 := blk_cell (i := 5) HX1.out rfl
  have q6 := blk_cell (i := 6) HX1.out rfl
  have q7 := blk_cell (i := 7) HX1.out rfl
  have q8 := blk_cell (i := 8) HX1.out rfl
  have q9 := blk_cell (i := 9) HX1.out rfl
  have q10 := blk_cell (i := 10) HX1.out rfl
  have q11 := blk_cell (i := 11) HX1.out rfl
  have ql := blk_lt HX1.out
  go_wp2_with fail
  go_returns
  exact ⟨rfl, HP1.out.le (by omega), HK1.out⟩
set_option maxRecDepth 100000 in
theorem one_global (hk : KOk W0 k pl) (nb n : Nat) (ls0 : List LineD) (w : World) (h : PSeg W0 gk k pl sl nb ls0 n w) (hn : n ≤ 99998000) (x : InsD) (vx : Value) (rn : Nat) (px : Int) (hr : pl[rn]? = some px) (ht : Bool) (pb : Nat) (fs : List FuncD) (gs : List GlobD) (hN : NmT W0 k pb fs gs) (rf : Nat) (hrl : rf < gs.length) (ho1 : -2147483648 ≤ x.off) (ho2 : x.off ≤ 2147483647) :
    Calls Tryd.prog 25 #[.pointer (some ⟨gk, 0, none⟩), .agg #[.int .i64 23, .int .i64 (rn : Nat), .int .i64 x.a.reg, .int .i64 x.a.num, .int .i64 x.b.reg, .int .i64 x.b.num, .int .i64 x.size, .bool x.signed, .bool x.secret, .int .i64 (rf : Nat), .int .i64 x.off, vx], .bool ht] w (Lays W0 gk k pl sl nb ls0 (n + 10) w (.tuple #[])) := by
  have r0 : RR 0 := by unfold RR; decide
  have r10 : RR 10 := by unfold RR; decide
  by_cases hz : x.off = 0
  · have z1 : (x.off != 0) = false := by simp [hz]
    have HA := Lib.hid (below_alloc (.cells #[.int .i64 23, .int .i64 (rn : Nat), .int .i64 x.a.reg, .int .i64 x.a.num, .int .i64 x.b.reg, .int .i64 x.b.num, .int .i64 x.size, .bool x.signed, .bool x.secret, .int .i64 (rf : Nat), .int .i64 x.off, vx] 74) (Below.refl w.heap.size w))
    have HP0 := Lib.hid (h.later HA.out)
    have HK0 := Lib.hid (KeptL.of_below HA.out)
    have HX0 := Lib.hid (blk_new w (.cells #[.int .i64 23, .int .i64 (rn : Nat), .int .i64 x.a.reg, .int .i64 x.a.num, .int .i64 x.b.reg, .int .i64 x.b.num, .int .i64 x.size, .bool x.signed, .bool x.secret, .int .i64 (rf : Nat), .int .i64 x.off, vx] 74))
    obtain ⟨w1, hw1⟩ : ∃ w1, w1 = w.alloc (.cells #[.int .i64 23, .int .i64 (rn : Nat), .int .i64 x.a.reg, .int .i64 x.a.num, .int .i64 x.b.reg, .int .i64 x.b.num, .int .i64 x.size, .bool x.signed, .bool x.secret, .int .i64 (rf : Nat), .int .i64 x.off, vx] 74) := ⟨_, rfl⟩
    rw [← hw1] at HP0 HK0 HX0
    obtain ⟨gx, hgx⟩ : ∃ gx, gx = w.heap.size := ⟨_, rfl⟩
    rw [← hgx] at HX0
    clear HA h
    have HNM := Lib.hid hN
    clear hN
    clear hz
    have q0 := blk_cell (i := 0) HX0.out rfl
    have q1 := blk_cell (i := 1) HX0.out rfl
    have q9 := blk_cell (i := 9) HX0.out rfl
    have q10 := blk_cell (i := 10) HX0.out rfl
    have ql := blk_lt HX0.out
    have HGX := Lib.hid hgx
    go_enter Tryd.func25, Tryd.ntmps25
    go_upto_region 2 with (fail)
    rw [← hw1, ← hgx]
    clear hw1 hgx
    go_wp2_with fail
    refine (result_p W0 gk k pl sl hk nb (n + 0) ls0 _ HP0.out rn px hr _ [] (slr_nil _) (fun a h => by simp at h) (by simp)).mono ?_
    rintro e w2 ⟨d, hd, rfl, hbb⟩
    have HP1 := Lib.hid (HP0.out.later hbb)
    have HK1 := Lib.hid (HK0.out.trans (KeptL.of_below hbb))
    have HX1 := Lib.hid (blk_below HX0.out hbb)
    clear hbb q0 q1 q9 q10 ql
    have q0 := blk_cell (i := 0) HX1.out rfl
    have q1 := blk_cell (i := 1) HX1.out rfl
    have q9 := blk_cell (i := 9) HX1.out rfl
    have q10 := blk_cell (i := 10) HX1.out rfl
    have ql := blk_lt HX1.out
    obtain ⟨fb, fo, fc, nm, n1, n2, n3⟩ := HNM.out.gname HP1.out.bel hrl
    have n0 := HP1.out.cell0 HNM.out
    have hfl := HNM.out.gll
    obtain ⟨nf, hnf⟩ : ∃ nf, nf = gs.length := ⟨_, rfl⟩
    rw [← hnf] at n1 hrl hfl
    have n0l := World.block_lt_of_cell? _ _ n0
    have n1l := World.block_lt_of_cell? _ _ n1
    have n2l := World.block_lt_of_cell? _ _ n2
    have HFL := Lib.hid (fun (W : World) => glab_any W nm n3)
    obtain ⟨NB, hNB⟩ : ∃ NB : ByteArray, NB = ⟨⟨103 :: 95 :: nm.data.toList⟩⟩ := ⟨_, rfl⟩
    rw [← hNB] at HFL
    have HNB := Lib.hid hNB
    clear hNB hnf
    go_upto_region 17 with (fail)
    refine wp_region_over_tail 16 (by kernel_rfl) (by kernel_rfl) ?_
    simp only [List.take_succ_cons, List.take_zero, List.drop_succ_cons, List.drop_zero]
    repeat (go_big_quiet_step ((go_at_call 48; exact calls_over (by exact Nat.le_refl _) (HFL.out _))))
    refine wpQuiet_nil ?_
    intro w6 kb6
    have HP6 := Lib.hid (HP1.out.later kb6)
    have HK6 := Lib.hid (HK1.out.trans (KeptL.of_below kb6))
    have HX6 := Lib.hid (blk_below HX1.out kb6)
    rw [HNB.out]
    clear kb6 n0 n1 n2 n0l n1l n2l q0 q1 q9 q10 ql HFL
    have q1 := blk_cell (i := 1) HX6.out rfl
    have q10 := blk_cell (i := 10) HX6.out rfl
    have ql := blk_lt HX6.out
    go_wp2_with fail
    refine (ins_lays W0 gk k pl sl nb (n + 0) ls0 _ HP6.out (by omega) 6 d 0 0 0 false 0 (103 :: 95 :: nm.data.toList) (leal_ok hd (by simp [fnB])) (by decide) (by decide)).mono ?_
    rintro e w8 ⟨rfl, hp, hkk⟩
    have HP7 := Lib.hid hp
    have HK7 := Lib.hid (HK6.out.trans hkk)
    have HX7 := Lib.hid (hkk.2 _ _ _ _ HX6.out (by decide) (by decide))
    clear hp hkk q1 q10 ql
    have q1 := blk_cell (i := 1) HX7.out rfl
    have q10 := blk_cell (i := 10) HX7.out rfl
    have ql := blk_lt HX7.out
    go_wp2_with fail
    refine (keep_lays W0 gk k pl sl hk nb (n + 1) ls0 _ HP7.out (by omega) rn px hr (_) hd).mono ?_
    rintro e w9 ⟨rfl, hp, hkk⟩
    have HP8 := Lib.hid hp
    have HK8 := Lib.hid (HK7.out.trans hkk)
    have HX8 := Lib.hid (hkk.2 _ _ _ _ HX7.out (by decide) (by decide))
    clear hp hkk q1 q10 ql
    have q1 := blk_cell (i := 1) HX8.out rfl
    have q10 := blk_cell (i := 10) HX8.out rfl
    have ql := blk_lt HX8.out
    go_wp2_with fail
    go_returns
    exact ⟨rfl, HP8.out.le (by omega), HK8.out⟩
  · have z1 : (x.off != 0) = true := by simpa using hz
    have HA := Lib.hid (below_alloc (.cells #[.int .i64 23, .int .i64 (rn : Nat), .int .i64 x.a.reg, .int .i64 x.a.num, .int .i64 x.b.reg, .int .i64 x.b.num, .int .i64 x.size, .bool x.signed, .bool x.secret, .int .i64 (rf : Nat), .int .i64 x.off, vx] 74) (Below.refl w.heap.size w))
    have HP0 := Lib.hid (h.later HA.out)
    have HK0 := Lib.hid (KeptL.of_below HA.out)
    have HX0 := Lib.hid (blk_new w (.cells #[.int .i64 23, .int .i64 (rn : Nat), .int .i64 x.a.reg, .int .i64 x.a.num, .int .i64 x.b.reg, .int .i64 x.b.num, .int .i64 x.size, .bool x.signed, .bool x.secret, .int .i64 (rf : Nat), .int .i64 x.off, vx] 74))
    obtain ⟨w1, hw1⟩ : ∃ w1, w1 = w.alloc (.cells #[.int .i64 23, .int .i64 (rn : Nat), .int .i64 x.a.reg, .int .i64 x.a.num, .int .i64 x.b.reg, .int .i64 x.b.num, .int .i64 x.size, .bool x.signed, .bool x.secret, .int .i64 (rf : Nat), .int .i64 x.off, vx] 74) := ⟨_, rfl⟩
    rw [← hw1] at HP0 HK0 HX0
    obtain ⟨gx, hgx⟩ : ∃ gx, gx = w.heap.size := ⟨_, rfl⟩
    rw [← hgx] at HX0
    clear HA h
    have HNM := Lib.hid hN
    clear hN
    clear hz
    have q0 := blk_cell (i := 0) HX0.out rfl
    have q1 := blk_cell (i := 1) HX0.out rfl
    have q9 := blk_cell (i := 9) HX0.out rfl
    have q10 := blk_cell (i := 10) HX0.out rfl
    have ql := blk_lt HX0.out
    have HGX := Lib.hid hgx
    go_enter Tryd.func25, Tryd.ntmps25
    go_upto_region 2 with (fail)
    rw [← hw1, ← hgx]
    clear hw1 hgx
    go_wp2_with fail
    refine (result_p W0 gk k pl sl hk nb (n + 0) ls0 _ HP0.out rn px hr _ [] (slr_nil _) (fun a h => by simp at h) (by simp)).mono ?_
    rintro e w2 ⟨d, hd, rfl, hbb⟩
    have HP1 := Lib.hid (HP0.out.later hbb)
    have HK1 := Lib.hid (HK0.out.trans (KeptL.of_below hbb))
    have HX1 := Lib.hid (blk_below HX0.out hbb)
    clear hbb q0 q1 q9 q10 ql
    have q0 := blk_cell (i := 0) HX1.out rfl
    have q1 := blk_cell (i := 1) HX1.out rfl
    have q9 := blk_cell (i := 9) HX1.out rfl
    have q10 := blk_cell (i := 10) HX1.out rfl
    have ql := blk_lt HX1.out
    obtain ⟨fb, fo, fc, nm, n1, n2, n3⟩ := HNM.out.gname HP1.out.bel hrl
    have n0 := HP1.out.cell0 HNM.out
    have hfl := HNM.out.gll
    obtain ⟨nf, hnf⟩ : ∃ nf, nf = gs.length := ⟨_, rfl⟩
    rw [← hnf] at n1 hrl hfl
    have n0l := World.block_lt_of_cell? _ _ n0
    have n1l := World.block_lt_of_cell? _ _ n1
    have n2l := World.block_lt_of_cell? _ _ n2
    have HFL := Lib.hid (fun (W : World) => glab_any W nm n3)
    obtain ⟨NB, hNB⟩ : ∃ NB : ByteArray, NB = ⟨⟨103 :: 95 :: nm.data.toList⟩⟩ := ⟨_, rfl⟩
    rw [← hNB] at HFL
    have HNB := Lib.hid hNB
    clear hNB hnf
    go_upto_region 17 with (fail)
    refine wp_region_over_tail 16 (by kernel_rfl) (by kernel_rfl) ?_
    simp only [List.take_succ_cons, List.take_zero, List.drop_succ_cons, List.drop_zero]
    repeat (go_big_quiet_step ((go_at_call 48; exact calls_over (by exact Nat.le_refl _) (HFL.out _))))
    refine wpQuiet_nil ?_
    intro w6 kb6
    have HP6 := Lib.hid (HP1.out.later kb6)
    have HK6 := Lib.hid (HK1.out.trans (KeptL.of_below kb6))
    have HX6 := Lib.hid (blk_below HX1.out kb6)
    rw [HNB.out]
    clear kb6 n0 n1 n2 n0l n1l n2l q0 q1 q9 q10 ql HFL
    have q1 := blk_cell (i := 1) HX6.out rfl
    have q10 := blk_cell (i := 10) HX6.out rfl
    have ql := blk_lt HX6.out
    go_wp2_with fail
    refine (ins_lays W0 gk k pl sl nb (n + 0) ls0 _ HP6.out (by omega) 6 d 0 0 0 false 0 (103 :: 95 :: nm.data.toList) (leal_ok hd (by simp [fnB])) (by decide) (by decide)).mono ?_
    rintro e w8 ⟨rfl, hp, hkk⟩
    have HP7 := Lib.hid hp
    have HK7 := Lib.hid (HK6.out.trans hkk)
    have HX7 := Lib.hid (hkk.2 _ _ _ _ HX6.out (by decide) (by decide))
    clear hp hkk q1 q10 ql
    have q1 := blk_cell (i := 1) HX7.out rfl
    have q10 := blk_cell (i := 10) HX7.out rfl
    have ql := blk_lt HX7.out
    go_wp2_with fail
    refine (ins_lays W0 gk k pl sl nb (n + 1) ls0 _ HP7.out (by omega) 5 d d x.off 0 false 0 [] (lea_ok hd (Or.inl hd) ho1 ho2) (by decide) (by decide)).mono ?_
    rintro e w9 ⟨rfl, hp, hkk⟩
    have HP8 := Lib.hid hp
    have HK8 := Lib.hid (HK7.out.trans hkk)
    have HX8 := Lib.hid (hkk.2 _ _ _ _ HX7.out (by decide) (by decide))
    clear hp hkk q1 q10 ql
    have q1 := blk_cell (i := 1) HX8.out rfl
    have q10 := blk_cell (i := 10) HX8.out rfl
    have ql := blk_lt HX8.out
    go_wp2_with fail
    refine (keep_lays W0 gk k pl sl hk nb (n + 2) ls0 _ HP8.out (by omega) rn px hr (_) hd).mono ?_
    rintro e w10 ⟨rfl, hp, hkk⟩
    have HP9 := Lib.hid hp
    have HK9 := Lib.hid (HK8.out.trans hkk)
    have HX9 := Lib.hid (hkk.2 _ _ _ _ HX8.out (by decide) (by decide))
    clear hp hkk q1 q10 ql
    have q1 := blk_cell (i := 1) HX9.out rfl
    have q10 := blk_cell (i := 10) HX9.out rfl
    have ql := blk_lt HX9.out
    go_wp2_with fail
    go_returns
    exact ⟨rfl, HP9.out.le (by omega), HK9.out⟩
set_option maxRecDepth 100000 in
theorem one_funcof (hk : KOk W0 k pl) (nb n : Nat) (ls0 : List LineD) (w : World) (h : PSeg W0 gk k pl sl nb ls0 n w) (hn : n ≤ 99998000) (x : InsD) (vx : Value) (rn : Nat) (px : Int) (hr : pl[rn]? = some px) (ht : Bool) (pb : Nat) (fs : List FuncD) (gs : List GlobD) (hN : NmT W0 k pb fs gs) (rf : Nat) (hrl : rf < fs.length)  :
    Calls Tryd.prog 25 #[.pointer (some ⟨gk, 0, none⟩), .agg #[.int .i64 25, .int .i64 (rn : Nat), .int .i64 x.a.reg, .int .i64 x.a.num, .int .i64 x.b.reg, .int .i64 x.b.num, .int .i64 x.size, .bool x.signed, .bool x.secret, .int .i64 (rf : Nat), .int .i64 x.off, vx], .bool ht] w (Lays W0 gk k pl sl nb ls0 (n + 10) w (.tuple #[])) := by
  have r0 : RR 0 := by unfold RR; decide
  have r10 : RR 10 := by unfold RR; decide
  have HA := Lib.hid (below_alloc (.cells #[.int .i64 25, .int .i64 (rn : Nat), .int .i64 x.a.reg, .int .i64 x.a.num, .int .i64 x.b.reg, .int .i64 x.b.num, .int .i64 x.size, .bool x.signed, .bool x.secret, .int .i64 (rf : Nat), .int .i64 x.off, vx] 74) (Below.refl w.heap.size w))
  have HP0 := Lib.hid (h.later HA.out)
  have HK0 := Lib.hid (KeptL.of_below HA.out)
  have HX0 := Lib.hid (blk_new w (.cells #[.int .i64 25, .int .i64 (rn : Nat), .int .i64 x.a.reg, .int .i64 x.a.num, .int .i64 x.b.reg, .int .i64 x.b.num, .int .i64 x.size, .bool x.signed, .bool x.secret, .int .i64 (rf : Nat), .int .i64 x.off, vx] 74))
  obtain ⟨w1, hw1⟩ : ∃ w1, w1 = w.alloc (.cells #[.int .i64 25, .int .i64 (rn : Nat), .int .i64 x.a.reg, .int .i64 x.a.num, .int .i64 x.b.reg, .int .i64 x.b.num, .int .i64 x.size, .bool x.signed, .bool x.secret, .int .i64 (rf : Nat), .int .i64 x.off, vx] 74) := ⟨_, rfl⟩
  rw [← hw1] at HP0 HK0 HX0
  obtain ⟨gx, hgx⟩ : ∃ gx, gx = w.heap.size := ⟨_, rfl⟩
  rw [← hgx] at HX0
  clear HA h
  have HNM := Lib.hid hN
  clear hN
  have q0 := blk_cell (i := 0) HX0.out rfl
  have q1 := blk_cell (i := 1) HX0.out rfl
  have q9 := blk_cell (i := 9) HX0.out rfl
  have q10 := blk_cell (i := 10) HX0.out rfl
  have ql := blk_lt HX0.out
  have HGX := Lib.hid hgx
  go_enter Tryd.func25, Tryd.ntmps25
  go_upto_region 2 with (fail)
  rw [← hw1, ← hgx]
  clear hw1 hgx
  go_wp2_with fail
  refine (result_p W0 gk k pl sl hk nb (n + 0) ls0 _ HP0.out rn px hr _ [] (slr_nil _) (fun a h => by simp at h) (by simp)).mono ?_
  rintro e w2 ⟨d, hd, rfl, hbb⟩
  have HP1 := Lib.hid (HP0.out.later hbb)
  have HK1 := Lib.hid (HK0.out.trans (KeptL.of_below hbb))
  have HX1 := Lib.hid (blk_below HX0.out hbb)
  clear hbb q0 q1 q9 q10 ql
  have q0 := blk_cell (i := 0) HX1.out rfl
  have q1 := blk_cell (i := 1) HX1.out rfl
  have q9 := blk_cell (i := 9) HX1.out rfl
  have q10 := blk_cell (i := 10) HX1.out rfl
  have ql := blk_lt HX1.out
  obtain ⟨fb, fo, fc, nm, n1, n2, n3⟩ := HNM.out.name HP1.out.bel hrl
  have n0 := HP1.out.cell0 HNM.out
  have hfl := HNM.out.fl
  obtain ⟨nf, hnf⟩ : ∃ nf, nf = fs.length := ⟨_, rfl⟩
  rw [← hnf] at n1 hrl hfl
  have n0l := World.block_lt_of_cell? _ _ n0
  have n1l := World.block_lt_of_cell? _ _ n1
  have n2l := World.block_lt_of_cell? _ _ n2
  have HFL := Lib.hid (fun (W : World) => flab_any W nm n3)
  obtain ⟨NB, hNB⟩ : ∃ NB : ByteArray, NB = ⟨⟨fnB nm.data.toList⟩⟩ := ⟨_, rfl⟩
  rw [← hNB] at HFL
  have HNB := Lib.hid hNB
  clear hNB hnf
  go_upto_region 27 with (fail)
  refine wp_region_over_tail 16 (by kernel_rfl) (by kernel_rfl) ?_
  simp only [List.take_succ_cons, List.take_zero, List.drop_succ_cons, List.drop_zero]
  repeat (go_big_quiet_step ((go_at_call 8; exact calls_over (by exact Nat.le_refl _) (HFL.out _))))
  refine wpQuiet_nil ?_
  intro w6 kb6
  have HP6 := Lib.hid (HP1.out.later kb6)
  have HK6 := Lib.hid (HK1.out.trans (KeptL.of_below kb6))
  have HX6 := Lib.hid (blk_below HX1.out kb6)
  rw [HNB.out]
  clear kb6 n0 n1 n2 n0l n1l n2l q0 q1 q9 q10 ql HFL
  have q1 := blk_cell (i := 1) HX6.out rfl
  have q10 := blk_cell (i := 10) HX6.out rfl
  have ql := blk_lt HX6.out
  go_wp2_with fail
  refine (ins_lays W0 gk k pl sl nb (n + 0) ls0 _ HP6.out (by omega) 6 d 0 0 0 false 0 (fnB nm.data.toList) (leal_ok hd (by simp [fnB])) (by decide) (by decide)).mono ?_
  rintro e w8 ⟨rfl, hp, hkk⟩
  have HP7 := Lib.hid hp
  have HK7 := Lib.hid (HK6.out.trans hkk)
  have HX7 := Lib.hid (hkk.2 _ _ _ _ HX6.out (by decide) (by decide))
  clear hp hkk q1 q10 ql
  have q1 := blk_cell (i := 1) HX7.out rfl
  have q10 := blk_cell (i := 10) HX7.out rfl
  have ql := blk_lt HX7.out
  go_wp2_with fail
  refine (keep_lays W0 gk k pl sl hk nb (n + 1) ls0 _ HP7.out (by omega) rn px hr (_) hd).mono ?_
  rintro e w9 ⟨rfl, hp, hkk⟩
  have HP8 := Lib.hid hp
  have HK8 := Lib.hid (HK7.out.trans hkk)
  have HX8 := Lib.hid (hkk.2 _ _ _ _ HX7.out (by decide) (by decide))
  clear hp hkk q1 q10 ql
  have q1 := blk_cell (i := 1) HX8.out rfl
  have q10 := blk_cell (i := 10) HX8.out rfl
  have ql := blk_lt HX8.out
  go_wp2_with fail
  go_returns
  exact ⟨rfl, HP8.out.le (by omega), HK8.out⟩
set_option maxRecDepth 100000 in
theorem one_slot (hk : KOk W0 k pl) (nb n : Nat) (ls0 : List LineD) (w : World) (h : PSeg W0 gk k pl sl nb ls0 n w) (hn : n ≤ 99998000) (x : InsD) (vx : Value) (rn : Nat) (px : Int) (hr : pl[rn]? = some px) (ht : Bool) (rf : Nat) (sv : Int) (hsl : sl[rf]? = some sv) (ho1 : -2147483648 ≤ sv + x.off) (ho2 : sv + x.off ≤ 2147483647) (hl : sl.length ≤ 100000) :
    Calls Tryd.prog 25 #[.pointer (some ⟨gk, 0, none⟩), .agg #[.int .i64 24, .int .i64 (rn : Nat), .int .i64 x.a.reg, .int .i64 x.a.num, .int .i64 x.b.reg, .int .i64 x.b.num, .int .i64 x.size, .bool x.signed, .bool x.secret, .int .i64 (rf : Nat), .int .i64 x.off, vx], .bool ht] w (Lays W0 gk k pl sl nb ls0 (n + 10) w (.tuple #[])) := by
  have r0 : RR 0 := by unfold RR; decide
  have r10 : RR 10 := by unfold RR; decide
  have HA := Lib.hid (below_alloc (.cells #[.int .i64 24, .int .i64 (rn : Nat), .int .i64 x.a.reg, .int .i64 x.a.num, .int .i64 x.b.reg, .int .i64 x.b.num, .int .i64 x.size, .bool x.signed, .bool x.secret, .int .i64 (rf : Nat), .int .i64 x.off, vx] 74) (Below.refl w.heap.size w))
  have HP0 := Lib.hid (h.later HA.out)
  have HK0 := Lib.hid (KeptL.of_below HA.out)
  have HX0 := Lib.hid (blk_new w (.cells #[.int .i64 24, .int .i64 (rn : Nat), .int .i64 x.a.reg, .int .i64 x.a.num, .int .i64 x.b.reg, .int .i64 x.b.num, .int .i64 x.size, .bool x.signed, .bool x.secret, .int .i64 (rf : Nat), .int .i64 x.off, vx] 74))
  obtain ⟨w1, hw1⟩ : ∃ w1, w1 = w.alloc (.cells #[.int .i64 24, .int .i64 (rn : Nat), .int .i64 x.a.reg, .int .i64 x.a.num, .int .i64 x.b.reg, .int .i64 x.b.num, .int .i64 x.size, .bool x.signed, .bool x.secret, .int .i64 (rf : Nat), .int .i64 x.off, vx] 74) := ⟨_, rfl⟩
  rw [← hw1] at HP0 HK0 HX0
  obtain ⟨gx, hgx⟩ : ∃ gx, gx = w.heap.size := ⟨_, rfl⟩
  rw [← hgx] at HX0
  clear HA h
  have hrl := (List.getElem?_eq_some_iff.1 hsl).1
  have q0 := blk_cell (i := 0) HX0.out rfl
  have q1 := blk_cell (i := 1) HX0.out rfl
  have q9 := blk_cell (i := 9) HX0.out rfl
  have q10 := blk_cell (i := 10) HX0.out rfl
  have ql := blk_lt HX0.out
  have HGX := Lib.hid hgx
  go_enter Tryd.func25, Tryd.ntmps25
  go_upto_region 2 with (fail)
  rw [← hw1, ← hgx]
  clear hw1 hgx
  go_wp2_with fail
  refine (result_p W0 gk k pl sl hk nb (n + 0) ls0 _ HP0.out rn px hr _ [] (slr_nil _) (fun a h => by simp at h) (by simp)).mono ?_
  rintro e w2 ⟨d, hd, rfl, hbb⟩
  have HP1 := Lib.hid (HP0.out.later hbb)
  have HK1 := Lib.hid (HK0.out.trans (KeptL.of_below hbb))
  have HX1 := Lib.hid (blk_below HX0.out hbb)
  clear hbb q0 q1 q9 q10 ql
  have q0 := blk_cell (i := 0) HX1.out rfl
  have q1 := blk_cell (i := 1) HX1.out rfl
  have q9 := blk_cell (i := 9) HX1.out rfl
  have q10 := blk_cell (i := 10) HX1.out rfl
  have ql := blk_lt HX1.out
  obtain ⟨gs, cs, n1, n2⟩ := HP1.out.slot hsl
  obtain ⟨ns, hns⟩ : ∃ ns, ns = sl.length := ⟨_, rfl⟩
  rw [← hns] at n1 hrl hl
  have n1l := World.block_lt_of_cell? _ _ n1
  have n2l := World.block_lt_of_cell? _ _ n2
  clear hns
  go_upto_region 23 with (fail)
  refine wp_region_over_tail 14 (by kernel_rfl) (by kernel_rfl) ?_
  simp only [List.take_succ_cons, List.take_zero, List.drop_succ_cons, List.drop_zero]
  repeat (go_big_quiet_step (fail))
  refine wpQuiet_nil ?_
  intro w6 kb6
  have HP6 := Lib.hid (HP1.out.later kb6)
  have HK6 := Lib.hid (HK1.out.trans (KeptL.of_below kb6))
  have HX6 := Lib.hid (blk_below HX1.out kb6)
  clear kb6 n1 n2 n1l n2l q0 q1 q9 q10 ql
  have q1 := blk_cell (i := 1) HX6.out rfl
  have ql := blk_lt HX6.out
  go_wp2_with fail
  refine (ins_lays W0 gk k pl sl nb (n + 0) ls0 _ HP6.out (by omega) 5 d 4 (sv + x.off) 0 false 0 [] (lea_ok hd (Or.inr rfl) ho1 ho2) (by decide) (by decide)).mono ?_
  rintro e w8 ⟨rfl, hp, hkk⟩
  have HP7 := Lib.hid hp
  have HK7 := Lib.hid (HK6.out.trans hkk)
  have HX7 := Lib.hid (hkk.2 _ _ _ _ HX6.out (by decide) (by decide))
  clear hp hkk q1 ql
  have q1 := blk_cell (i := 1) HX7.out rfl
  have ql := blk_lt HX7.out
  go_wp2_with fail
  refine (keep_lays W0 gk k pl sl hk nb (n + 1) ls0 _ HP7.out (by omega) rn px hr (_) hd).mono ?_
  rintro e w9 ⟨rfl, hp, hkk⟩
  have HP8 := Lib.hid hp
  have HK8 := Lib.hid (HK7.out.trans hkk)
  have HX8 := Lib.hid (hkk.2 _ _ _ _ HX7.out (by decide) (by decide))
  clear hp hkk q1 ql
  have q1 := blk_cell (i := 1) HX8.out rfl
  have ql := blk_lt HX8.out
  go_wp2_with fail
  go_returns
  exact ⟨rfl, HP8.out.le (by omega), HK8.out⟩
set_option maxRecDepth 100000 in
theorem one_load (hk : KOk W0 k pl) (nb n : Nat) (ls0 : List LineD) (w : World) (h : PSeg W0 gk k pl sl nb ls0 n w) (hn : n ≤ 99998000) (x : InsD) (vx : Value) (rn : Nat) (px : Int) (hr : pl[rn]? = some px) (ht : Bool) (ha : ArgOk pl x.a) (hz : x.size = 1 ∨ x.size = 2 ∨ x.size = 4 ∨ x.size = 8) (ho1 : -2147483648 ≤ x.off) (ho2 : x.off ≤ 2147483647) :
    Calls Tryd.prog 25 #[.pointer (some ⟨gk, 0, none⟩), .agg #[.int .i64 26, .int .i64 (rn : Nat), .int .i64 x.a.reg, .int .i64 x.a.num, .int .i64 x.b.reg, .int .i64 x.b.num, .int .i64 x.size, .bool x.signed, .bool x.secret, .int .i64 x.ref, .int .i64 x.off, vx], .bool ht] w (Lays W0 gk k pl sl nb ls0 (n + 10) w (.tuple #[])) := by
  have r0 : RR 0 := by unfold RR; decide
  have r10 : RR 10 := by unfold RR; decide
  by_cases hs : x.signed = true
  · by_cases h8 : x.size < 8
    · have d8 : decide (x.size < 8) = true := decide_eq_true h8
      rw [hs]
      have HA := Lib.hid (below_alloc (.cells #[.int .i64 26, .int .i64 (rn : Nat), .int .i64 x.a.reg, .int .i64 x.a.num, .int .i64 x.b.reg, .int .i64 x.b.num, .int .i64 x.size, .bool true, .bool x.secret, .int .i64 x.ref, .int .i64 x.off, vx] 74) (Below.refl w.heap.size w))
      have HP0 := Lib.hid (h.later HA.out)
      have HK0 := Lib.hid (KeptL.of_below HA.out)
      have HX0 := Lib.hid (blk_new w (.cells #[.int .i64 26, .int .i64 (rn : Nat), .int .i64 x.a.reg, .int .i64 x.a.num, .int .i64 x.b.reg, .int .i64 x.b.num, .int .i64 x.size, .bool true, .bool x.secret, .int .i64 x.ref, .int .i64 x.off, vx] 74))
      obtain ⟨w1, hw1⟩ : ∃ w1, w1 = w.alloc (.cells #[.int .i64 26, .int .i64 (rn : Nat), .int .i64 x.a.reg, .int .i64 x.a.num, .int .i64 x.b.reg, .int .i64 x.b.num, .int .i64 x.size, .bool true, .bool x.secret, .int .i64 x.ref, .int .i64 x.off, vx] 74) := ⟨_, rfl⟩
      rw [← hw1] at HP0 HK0 HX0
      obtain ⟨gx, hgx⟩ : ∃ gx, gx = w.heap.size := ⟨_, rfl⟩
      rw [← hgx] at HX0
      clear HA h
      have HZ := Lib.hid hz
      have H8 := Lib.hid h8
      clear h8 hz hs
      have q0 := blk_cell (i := 0) HX0.out rfl
      have q1 := blk_cell (i := 1) HX0.out rfl
      have q2 := blk_cell (i := 2) HX0.out rfl
      have q3 := blk_cell (i := 3) HX0.out rfl
      have q6 := blk_cell (i := 6) HX0.out rfl
      have q7 := blk_cell (i := 7) HX0.out rfl
      have q10 := blk_cell (i := 10) HX0.out rfl
      have ql := blk_lt HX0.out
      have HGX := Lib.hid hgx
      go_enter Tryd.func25, Tryd.ntmps25
      go_upto_region 2 with (fail)
      rw [← hw1, ← hgx]
      clear hw1 hgx
      go_wp2_with fail
      refine (have_gives W0 gk k pl sl hk nb (n + 0) ls0 _ HP0.out (by omega) 10 r10 x.a ha).mono ?_
      rintro e w2 ⟨b, hb, rfl, hp, hkk⟩
      have HP1 := Lib.hid hp
      have HK1 := Lib.hid (HK0.out.trans hkk)
      have HX1 := Lib.hid (hkk.2 _ _ _ _ HX0.out (by decide) (by decide))
      clear hp hkk q0 q1 q2 q3 q6 q7 q10 ql
      have q0 := blk_cell (i := 0) HX1.out rfl
      have q1 := blk_cell (i := 1) HX1.out rfl
      have q2 := blk_cell (i := 2) HX1.out rfl
      have q3 := blk_cell (i := 3) HX1.out rfl
      have q6 := blk_cell (i := 6) HX1.out rfl
      have q7 := blk_cell (i := 7) HX1.out rfl
      have q10 := blk_cell (i := 10) HX1.out rfl
      have ql := blk_lt HX1.out
      go_wp2_with fail
      refine (result_p W0 gk k pl sl hk nb (n + 1) ls0 _ HP1.out rn px hr _ [] (slr_nil _) (fun a h => by simp at h) (by simp)).mono ?_
      rintro e w3 ⟨d, hd, rfl, hbb⟩
      have HP2 := Lib.hid (HP1.out.later hbb)
      have HK2 := Lib.hid (HK1.out.trans (KeptL.of_below hbb))
      have HX2 := Lib.hid (blk_below HX1.out hbb)
      clear hbb q0 q1 q2 q3 q6 q7 q10 ql
      have q0 := blk_cell (i := 0) HX2.out rfl
      have q1 := blk_cell (i := 1) HX2.out rfl
      have q2 := blk_cell (i := 2) HX2.out rfl
      have q3 := blk_cell (i := 3) HX2.out rfl
      have q6 := blk_cell (i := 6) HX2.out rfl
      have q7 := blk_cell (i := 7) HX2.out rfl
      have q10 := blk_cell (i := 10) HX2.out rfl
      have ql := blk_lt HX2.out
      go_wp2_with fail
      refine (hot_lays W0 gk k pl sl nb (n + 1) ls0 _ HP2.out (by omega) 3 d b x.off x.size true 0 [] ht (load_ok hd hb ho1 ho2 HZ.out (fun _ => by have := H8.out; omega)) (by decide) (by decide)).mono ?_
      rintro e w4 ⟨rfl, hp, hkk⟩
      have HP3 := Lib.hid hp
      have HK3 := Lib.hid (HK2.out.trans hkk)
      have HX3 := Lib.hid (hkk.2 _ _ _ _ HX2.out (by decide) (by decide))
      clear hp hkk q0 q1 q2 q3 q6 q7 q10 ql
      have q0 := blk_cell (i := 0) HX3.out rfl
      have q1 := blk_cell (i := 1) HX3.out rfl
      have q2 := blk_cell (i := 2) HX3.out rfl
      have q3 := blk_cell (i := 3) HX3.out rfl
      have q6 := blk_cell (i := 6) HX3.out rfl
      have q7 := blk_cell (i := 7) HX3.out rfl
      have q10 := blk_cell (i := 10) HX3.out rfl
      have ql := blk_lt HX3.out
      go_wp2_with fail
      refine (keep_lays W0 gk k pl sl hk nb (n + 2) ls0 _ HP3.out (by omega) rn px hr (_) hd).mono ?_
      rintro e w5 ⟨rfl, hp, hkk⟩
      have HP4 := Lib.hid hp
      have HK4 := Lib.hid (HK3.out.trans hkk)
      have HX4 := Lib.hid (hkk.2 _ _ _ _ HX3.out (by decide) (by decide))
      clear hp hkk q0 q1 q2 q3 q6 q7 q10 ql
      have q0 := blk_cell (i := 0) HX4.out rfl
      have q1 := blk_cell (i := 1) HX4.out rfl
      have q2 := blk_cell (i := 2) HX4.out rfl
      have q3 := blk_cell (i := 3) HX4.out rfl
      have q6 := blk_cell (i := 6) HX4.out rfl
      have q7 := blk_cell (i := 7) HX4.out rfl
      have q10 := blk_cell (i := 10) HX4.out rfl
      have ql := blk_lt HX4.out
      go_wp2_with fail
      go_returns
      exact ⟨rfl, HP4.out.le (by omega), HK4.out⟩
    · have d8 : decide (x.size < 8) = false := decide_eq_false h8
      rw [hs]
      have HA := Lib.hid (below_alloc (.cells #[.int .i64 26, .int .i64 (rn : Nat), .int .i64 x.a.reg, .int .i64 x.a.num, .int .i64 x.b.reg, .int .i64 x.b.num, .int .i64 x.size, .bool true, .bool x.secret, .int .i64 x.ref, .int .i64 x.off, vx] 74) (Below.refl w.heap.size w))
      have HP0 := Lib.hid (h.later HA.out)
      have HK0 := Lib.hid (KeptL.of_below HA.out)
      have HX0 := Lib.hid (blk_new w (.cells #[.int .i64 26, .int .i64 (rn : Nat), .int .i64 x.a.reg, .int .i64 x.a.num, .int .i64 x.b.reg, .int .i64 x.b.num, .int .i64 x.size, .bool true, .bool x.secret, .int .i64 x.ref, .int .i64 x.off, vx] 74))
      obtain ⟨w1, hw1⟩ : ∃ w1, w1 = w.alloc (.cells #[.int .i64 26, .int .i64 (rn : Nat), .int .i64 x.a.reg, .int .i64 x.a.num, .int .i64 x.b.reg, .int .i64 x.b.num, .int .i64 x.size, .bool true, .bool x.secret, .int .i64 x.ref, .int .i64 x.off, vx] 74) := ⟨_, rfl⟩
      rw [← hw1] at HP0 HK0 HX0
      obtain ⟨gx, hgx⟩ : ∃ gx, gx = w.heap.size := ⟨_, rfl⟩
      rw [← hgx] at HX0
      clear HA h
      have HZ := Lib.hid hz
      have H8 := Lib.hid h8
      clear h8 hz hs
      have q0 := blk_cell (i := 0) HX0.out rfl
      have q1 := blk_cell (i := 1) HX0.out rfl
      have q2 := blk_cell (i := 2) HX0.out rfl
      have q3 := blk_cell (i := 3) HX0.out rfl
      have q6 := blk_cell (i := 6) HX0.out rfl
      have q7 := blk_cell (i := 7) HX0.out rfl
      have q10 := blk_cell (i := 10) HX0.out rfl
      have ql := blk_lt HX0.out
      have HGX := Lib.hid hgx
      go_enter Tryd.func25, Tryd.ntmps25
      go_upto_region 2 with (fail)
      rw [← hw1, ← hgx]
      clear hw1 hgx
      go_wp2_with fail
      refine (have_gives W0 gk k pl sl hk nb (n + 0) ls0 _ HP0.out (by omega) 10 r10 x.a ha).mono ?_
      rintro e w2 ⟨b, hb, rfl, hp, hkk⟩
      have HP1 := Lib.hid hp
      have HK1 := Lib.hid (HK0.out.trans hkk)
      have HX1 := Lib.hid (hkk.2 _ _ _ _ HX0.out (by decide) (by decide))
      clear hp hkk q0 q1 q2 q3 q6 q7 q10 ql
      have q0 := blk_cell (i := 0) HX1.out rfl
      have q1 := blk_cell (i := 1) HX1.out rfl
      have q2 := blk_cell (i := 2) HX1.out rfl
      have q3 := blk_cell (i := 3) HX1.out rfl
      have q6 := blk_cell (i := 6) HX1.out rfl
      have q7 := blk_cell (i := 7) HX1.out rfl
      have q10 := blk_cell (i := 10) HX1.out rfl
      have ql := blk_lt HX1.out
      go_wp2_with fail
      refine (result_p W0 gk k pl sl hk nb (n + 1) ls0 _ HP1.out rn px hr _ [] (slr_nil _) (fun a h => by simp at h) (by simp)).mono ?_
      rintro e w3 ⟨d, hd, rfl, hbb⟩
      have HP2 := Lib.hid (HP1.out.later hbb)
      have HK2 := Lib.hid (HK1.out.trans (KeptL.of_below hbb))
      have HX2 := Lib.hid (blk_below HX1.out hbb)
      clear hbb q0 q1 q2 q3 q6 q7 q10 ql
      have q0 := blk_cell (i := 0) HX2.out rfl
      have q1 := blk_cell (i := 1) HX2.out rfl
      have q2 := blk_cell (i := 2) HX2.out rfl
      have q3 := blk_cell (i := 3) HX2.out rfl
      have q6 := blk_cell (i := 6) HX2.out rfl
      have q7 := blk_cell (i := 7) HX2.out rfl
      have q10 := blk_cell (i := 10) HX2.out rfl
      have ql := blk_lt HX2.out
      go_wp2_with fail
      refine (hot_lays W0 gk k pl sl nb (n + 1) ls0 _ HP2.out (by omega) 3 d b x.off x.size false 0 [] ht (load_ok hd hb ho1 ho2 HZ.out (fun h => by cases h)) (by decide) (by decide)).mono ?_
      rintro e w4 ⟨rfl, hp, hkk⟩
      have HP3 := Lib.hid hp
      have HK3 := Lib.hid (HK2.out.trans hkk)
      have HX3 := Lib.hid (hkk.2 _ _ _ _ HX2.out (by decide) (by decide))
      clear hp hkk q0 q1 q2 q3 q6 q7 q10 ql
      have q0 := blk_cell (i := 0) HX3.out rfl
      have q1 := blk_cell (i := 1) HX3.out rfl
      have q2 := blk_cell (i := 2) HX3.out rfl
      have q3 := blk_cell (i := 3) HX3.out rfl
      have q6 := blk_cell (i := 6) HX3.out rfl
      have q7 := blk_cell (i := 7) HX3.out rfl
      have q10 := blk_cell (i := 10) HX3.out rfl
      have ql := blk_lt HX3.out
      go_wp2_with fail
      refine (keep_lays W0 gk k pl sl hk nb (n + 2) ls0 _ HP3.out (by omega) rn px hr (_) hd).mono ?_
      rintro e w5 ⟨rfl, hp, hkk⟩
      have HP4 := Lib.hid hp
      have HK4 := Lib.hid (HK3.out.trans hkk)
      have HX4 := Lib.hid (hkk.2 _ _ _ _ HX3.out (by decide) (by decide))
      clear hp hkk q0 q1 q2 q3 q6 q7 q10 ql
      have q0 := blk_cell (i := 0) HX4.out rfl
      have q1 := blk_cell (i := 1) HX4.out rfl
      have q2 := blk_cell (i := 2) HX4.out rfl
      have q3 := blk_cell (i := 3) HX4.out rfl
      have q6 := blk_cell (i := 6) HX4.out rfl
      have q7 := blk_cell (i := 7) HX4.out rfl
      have q10 := blk_cell (i := 10) HX4.out rfl
      have ql := blk_lt HX4.out
      go_wp2_with fail
      go_returns
      exact ⟨rfl, HP4.out.le (by omega), HK4.out⟩
  · have hs2 : x.signed = false := by simpa using hs
    rw [hs2]
    have HA := Lib.hid (below_alloc (.cells #[.int .i64 26, .int .i64 (rn : Nat), .int .i64 x.a.reg, .int .i64 x.a.num, .int .i64 x.b.reg, .int .i64 x.b.num, .int .i64 x.size, .bool false, .bool x.secret, .int .i64 x.ref, .int .i64 x.off, vx] 74) (Below.refl w.heap.size w))
    have HP0 := Lib.hid (h.later HA.out)
    have HK0 := Lib.hid (KeptL.of_below HA.out)
    have HX0 := Lib.hid (blk_new w (.cells #[.int .i64 26, .int .i64 (rn : Nat), .int .i64 x.a.reg, .int .i64 x.a.num, .int .i64 x.b.reg, .int .i64 x.b.num, .int .i64 x.size, .bool false, .bool x.secret, .int .i64 x.ref, .int .i64 x.off, vx] 74))
    obtain ⟨w1, hw1⟩ : ∃ w1, w1 = w.alloc (.cells #[.int .i64 26, .int .i64 (rn : Nat), .int .i64 x.a.reg, .int .i64 x.a.num, .int .i64 x.b.reg, .int .i64 x.b.num, .int .i64 x.size, .bool false, .bool x.secret, .int .i64 x.ref, .int .i64 x.off, vx] 74) := ⟨_, rfl⟩
    rw [← hw1] at HP0 HK0 HX0
    obtain ⟨gx, hgx⟩ : ∃ gx, gx = w.heap.size := ⟨_, rfl⟩
    rw [← hgx] at HX0
    clear HA h
    have HZ := Lib.hid hz
    clear hz hs hs2
    have q0 := blk_cell (i := 0) HX0.out rfl
    have q1 := blk_cell (i := 1) HX0.out rfl
    have q2 := blk_cell (i := 2) HX0.out rfl
    have q3 := blk_cell (i := 3) HX0.out rfl
    have q6 := blk_cell (i := 6) HX0.out rfl
    have q7 := blk_cell (i := 7) HX0.out rfl
    have q10 := blk_cell (i := 10) HX0.out rfl
    have ql := blk_lt HX0.out
    have HGX := Lib.hid hgx
    go_enter Tryd.func25, Tryd.ntmps25
    go_upto_region 2 with (fail)
    rw [← hw1, ← hgx]
    clear hw1 hgx
    go_wp2_with fail
    refine (have_gives W0 gk k pl sl hk nb (n + 0) ls0 _ HP0.out (by omega) 10 r10 x.a ha).mono ?_
    rintro e w2 ⟨b, hb, rfl, hp, hkk⟩
    have HP1 := Lib.hid hp
    have HK1 := Lib.hid (HK0.out.trans hkk)
    have HX1 := Lib.hid (hkk.2 _ _ _ _ HX0.out (by decide) (by decide))
    clear hp hkk q0 q1 q2 q3 q6 q7 q10 ql
    have q0 := blk_cell (i := 0) HX1.out rfl
    have q1 := blk_cell (i := 1) HX1.out rfl
    have q2 := blk_cell (i := 2) HX1.out rfl
    have q3 := blk_cell (i := 3) HX1.out rfl
    have q6 := blk_cell (i := 6) HX1.out rfl
    have q7 := blk_cell (i := 7) HX1.out rfl
    have q10 := blk_cell (i := 10) HX1.out rfl
    have ql := blk_lt HX1.out
    go_wp2_with fail
    refine (result_p W0 gk k pl sl hk nb (n + 1) ls0 _ HP1.out rn px hr _ [] (slr_nil _) (fun a h => by simp at h) (by simp)).mono ?_
    rintro e w3 ⟨d, hd, rfl, hbb⟩
    have HP2 := Lib.hid (HP1.out.later hbb)
    have HK2 := Lib.hid (HK1.out.trans (KeptL.of_below hbb))
    have HX2 := Lib.hid (blk_below HX1.out hbb)
    clear hbb q0 q1 q2 q3 q6 q7 q10 ql
    have q0 := blk_cell (i := 0) HX2.out rfl
    have q1 := blk_cell (i := 1) HX2.out rfl
    have q2 := blk_cell (i := 2) HX2.out rfl
    have q3 := blk_cell (i := 3) HX2.out rfl
    have q6 := blk_cell (i := 6) HX2.out rfl
    have q7 := blk_cell (i := 7) HX2.out rfl
    have q10 := blk_cell (i := 10) HX2.out rfl
    have ql := blk_lt HX2.out
    go_wp2_with fail
    refine (hot_lays W0 gk k pl sl nb (n + 1) ls0 _ HP2.out (by omega) 3 d b x.off x.size false 0 [] ht (load_ok hd hb ho1 ho2 HZ.out (fun h => by cases h)) (by decide) (by decide)).mono ?_
    rintro e w4 ⟨rfl, hp, hkk⟩
    have HP3 := Lib.hid hp
    have HK3 := Lib.hid (HK2.out.trans hkk)
    have HX3 := Lib.hid (hkk.2 _ _ _ _ HX2.out (by decide) (by decide))
    clear hp hkk q0 q1 q2 q3 q6 q7 q10 ql
    have q0 := blk_cell (i := 0) HX3.out rfl
    have q1 := blk_cell (i := 1) HX3.out rfl
    have q2 := blk_cell (i := 2) HX3.out rfl
    have q3 := blk_cell (i := 3) HX3.out rfl
    have q6 := blk_cell (i := 6) HX3.out rfl
    have q7 := blk_cell (i := 7) HX3.out rfl
    have q10 := blk_cell (i := 10) HX3.out rfl
    have ql := blk_lt HX3.out
    go_wp2_with fail
    refine (keep_lays W0 gk k pl sl hk nb (n + 2) ls0 _ HP3.out (by omega) rn px hr (_) hd).mono ?_
    rintro e w5 ⟨rfl, hp, hkk⟩
    have HP4 := Lib.hid hp
    have HK4 := Lib.hid (HK3.out.trans hkk)
    have HX4 := Lib.hid (hkk.2 _ _ _ _ HX3.out (by decide) (by decide))
    clear hp hkk q0 q1 q2 q3 q6 q7 q10 ql
    have q0 := blk_cell (i := 0) HX4.out rfl
    have q1 := blk_cell (i := 1) HX4.out rfl
    have q2 := blk_cell (i := 2) HX4.out rfl
    have q3 := blk_cell (i := 3) HX4.out rfl
    have q6 := blk_cell (i := 6) HX4.out rfl
    have q7 := blk_cell (i := 7) HX4.out rfl
    have q10 := blk_cell (i := 10) HX4.out rfl
    have ql := blk_lt HX4.out
    go_wp2_with fail
    go_returns
    exact ⟨rfl, HP4.out.le (by omega), HK4.out⟩
set_option maxRecDepth 100000 in
theorem one_store (hk : KOk W0 k pl) (nb n : Nat) (ls0 : List LineD) (w : World) (h : PSeg W0 gk k pl sl nb ls0 n w) (hn : n ≤ 99998000) (x : InsD) (vx : Value)  (ht : Bool) (ha : ArgOk pl x.a) (hb : ArgOk pl x.b) (hz : x.size = 1 ∨ x.size = 2 ∨ x.size = 4 ∨ x.size = 8) (ho1 : -2147483648 ≤ x.off) (ho2 : x.off ≤ 2147483647) :
    Calls Tryd.prog 25 #[.pointer (some ⟨gk, 0, none⟩), .agg #[.int .i64 27, .int .i64 x.dst, .int .i64 x.a.reg, .int .i64 x.a.num, .int .i64 x.b.reg, .int .i64 x.b.num, .int .i64 x.size, .bool x.signed, .bool x.secret, .int .i64 x.ref, .int .i64 x.off, vx], .bool ht] w (Lays W0 gk k pl sl nb ls0 (n + 10) w (.tuple #[])) := by
  have r0 : RR 0 := by unfold RR; decide
  have r10 : RR 10 := by unfold RR; decide
  have HA := Lib.hid (below_alloc (.cells #[.int .i64 27, .int .i64 x.dst, .int .i64 x.a.reg, .int .i64 x.a.num, .int .i64 x.b.reg, .int .i64 x.b.num, .int .i64 x.size, .bool x.signed, .bool x.secret, .int .i64 x.ref, .int .i64 x.off, vx] 74) (Below.refl w.heap.size w))
  have HP0 := Lib.hid (h.later HA.out)
  have HK0 := Lib.hid (KeptL.of_below HA.out)
  have HX0 := Lib.hid (blk_new w (.cells #[.int .i64 27, .int .i64 x.dst, .int .i64 x.a.reg, .int .i64 x.a.num, .int .i64 x.b.reg, .int .i64 x.b.num, .int .i64 x.size, .bool x.signed, .bool x.secret, .int .i64 x.ref, .int .i64 x.off, vx] 74))
  obtain ⟨w1, hw1⟩ : ∃ w1, w1 = w.alloc (.cells #[.int .i64 27, .int .i64 x.dst, .int .i64 x.a.reg, .int .i64 x.a.num, .int .i64 x.b.reg, .int .i64 x.b.num, .int .i64 x.size, .bool x.signed, .bool x.secret, .int .i64 x.ref, .int .i64 x.off, vx] 74) := ⟨_, rfl⟩
  rw [← hw1] at HP0 HK0 HX0
  obtain ⟨gx, hgx⟩ : ∃ gx, gx = w.heap.size := ⟨_, rfl⟩
  rw [← hgx] at HX0
  clear HA h
  have HZ := Lib.hid hz
  clear hz
  have q0 := blk_cell (i := 0) HX0.out rfl
  have q1 := blk_cell (i := 1) HX0.out rfl
  have q2 := blk_cell (i := 2) HX0.out rfl
  have q3 := blk_cell (i := 3) HX0.out rfl
  have q4 := blk_cell (i := 4) HX0.out rfl
  have q5 := blk_cell (i := 5) HX0.out rfl
  have q6 := blk_cell (i := 6) HX0.out rfl
  have q10 := blk_cell (i := 10) HX0.out rfl
  have ql := blk_lt HX0.out
  have HGX := Lib.hid hgx
  go_enter Tryd.func25, Tryd.ntmps25
  go_upto_region 2 with (fail)
  rw [← hw1, ← hgx]
  clear hw1 hgx
  go_wp2_with fail
  refine (have_gives W0 gk k pl sl hk nb (n + 0) ls0 _ HP0.out (by omega) 0 r0 x.b hb).mono ?_
  rintro e w2 ⟨v, hv, rfl, hp, hkk⟩
  have HP1 := Lib.hid hp
  have HK1 := Lib.hid (HK0.out.trans hkk)
  have HX1 := Lib.hid (hkk.2 _ _ _ _ HX0.out (by decide) (by decide))
  clear hp hkk q0 q1 q2 q3 q4 q5 q6 q10 ql
  have q0 := blk_cell (i := 0) HX1.out rfl
  have q1 := blk_cell (i := 1) HX1.out rfl
  have q2 := blk_cell (i := 2) HX1.out rfl
  have q3 := blk_cell (i := 3) HX1.out rfl
  have q4 := blk_cell (i := 4) HX1.out rfl
  have q5 := blk_cell (i := 5) HX1.out rfl
  have q6 := blk_cell (i := 6) HX1.out rfl
  have q10 := blk_cell (i := 10) HX1.out rfl
  have ql := blk_lt HX1.out
  go_wp2_with fail
  refine (have_gives W0 gk k pl sl hk nb (n + 1) ls0 _ HP1.out (by omega) 10 r10 x.a ha).mono ?_
  rintro e w3 ⟨u, hu, rfl, hp, hkk⟩
  have HP2 := Lib.hid hp
  have HK2 := Lib.hid (HK1.out.trans hkk)
  have HX2 := Lib.hid (hkk.2 _ _ _ _ HX1.out (by decide) (by decide))
  clear hp hkk q0 q1 q2 q3 q4 q5 q6 q10 ql
  have q0 := blk_cell (i := 0) HX2.out rfl
  have q1 := blk_cell (i := 1) HX2.out rfl
  have q2 := blk_cell (i := 2) HX2.out rfl
  have q3 := blk_cell (i := 3) HX2.out rfl
  have q4 := blk_cell (i := 4) HX2.out rfl
  have q5 := blk_cell (i := 5) HX2.out rfl
  have q6 := blk_cell (i := 6) HX2.out rfl
  have q10 := blk_cell (i := 10) HX2.out rfl
  have ql := blk_lt HX2.out
  go_wp2_with fail
  refine (hot_lays W0 gk k pl sl nb (n + 2) ls0 _ HP2.out (by omega) 4 u v x.off x.size false 0 [] ht (store_ok hu hv ho1 ho2 HZ.out) (by decide) (by decide)).mono ?_
  rintro e w4 ⟨rfl, hp, hkk⟩
  have HP3 := Lib.hid hp
  have HK3 := Lib.hid (HK2.out.trans hkk)
  have HX3 := Lib.hid (hkk.2 _ _ _ _ HX2.out (by decide) (by decide))
  clear hp hkk q0 q1 q2 q3 q4 q5 q6 q10 ql
  have q0 := blk_cell (i := 0) HX3.out rfl
  have q1 := blk_cell (i := 1) HX3.out rfl
  have q2 := blk_cell (i := 2) HX3.out rfl
  have q3 := blk_cell (i := 3) HX3.out rfl
  have q4 := blk_cell (i := 4) HX3.out rfl
  have q5 := blk_cell (i := 5) HX3.out rfl
  have q6 := blk_cell (i := 6) HX3.out rfl
  have q10 := blk_cell (i := 10) HX3.out rfl
  have ql := blk_lt HX3.out
  go_wp2_with fail
  go_returns
  exact ⟨rfl, HP3.out.le (by omega), HK3.out⟩
set_option maxRecDepth 100000 in
theorem one_out (hk : KOk W0 k pl) (nb n : Nat) (ls0 : List LineD) (w : World) (h : PSeg W0 gk k pl sl nb ls0 n w) (hn : n ≤ 99998000) (x : InsD) (vx : Value)  (ht : Bool) (ha : ArgOk pl x.a) :
    Calls Tryd.prog 25 #[.pointer (some ⟨gk, 0, none⟩), .agg #[.int .i64 30, .int .i64 x.dst, .int .i64 x.a.reg, .int .i64 x.a.num, .int .i64 x.b.reg, .int .i64 x.b.num, .int .i64 x.size, .bool x.signed, .bool x.secret, .int .i64 x.ref, .int .i64 x.off, vx], .bool ht] w (Lays W0 gk k pl sl nb ls0 (n + 10) w (.tuple #[])) := by
  have r0 : RR 0 := by unfold RR; decide
  have r10 : RR 10 := by unfold RR; decide
  have HA := Lib.hid (below_alloc (.cells #[.int .i64 30, .int .i64 x.dst, .int .i64 x.a.reg, .int .i64 x.a.num, .int .i64 x.b.reg, .int .i64 x.b.num, .int .i64 x.size, .bool x.signed, .bool x.secret, .int .i64 x.ref, .int .i64 x.off, vx] 74) (Below.refl w.heap.size w))
  have HP0 := Lib.hid (h.later HA.out)
  have HK0 := Lib.hid (KeptL.of_below HA.out)
  have HX0 := Lib.hid (blk_new w (.cells #[.int .i64 30, .int .i64 x.dst, .int .i64 x.a.reg, .int .i64 x.a.num, .int .i64 x.b.reg, .int .i64 x.b.num, .int .i64 x.size, .bool x.signed, .bool x.secret, .int .i64 x.ref, .int .i64 x.off, vx] 74))
  obtain ⟨w1, hw1⟩ : ∃ w1, w1 = w.alloc (.cells #[.int .i64 30, .int .i64 x.dst, .int .i64 x.a.reg, .int .i64 x.a.num, .int .i64 x.b.reg, .int .i64 x.b.num, .int .i64 x.size, .bool x.signed, .bool x.secret, .int .i64 x.ref, .int .i64 x.off, vx] 74) := ⟨_, rfl⟩
  rw [← hw1] at HP0 HK0 HX0
  obtain ⟨gx, hgx⟩ : ∃ gx, gx = w.heap.size := ⟨_, rfl⟩
  rw [← hgx] at HX0
  clear HA h
  have q0 := blk_cell (i := 0) HX0.out rfl
  have q1 := blk_cell (i := 1) HX0.out rfl
  have q2 := blk_cell (i := 2) HX0.out rfl
  have q3 := blk_cell (i := 3) HX0.out rfl
  have q4 := blk_cell (i := 4) HX0.out rfl
  have q5 := blk_cell (i := 5) HX0.out rfl
  have ql := blk_lt HX0.out
  have HGX := Lib.hid hgx
  go_enter Tryd.func25, Tryd.ntmps25
  go_upto_region 2 with (fail)
  rw [← hw1, ← hgx]
  clear hw1 hgx
  go_wp2_with fail
  refine (have_gives W0 gk k pl sl hk nb (n + 0) ls0 _ HP0.out (by omega) 0 r0 x.a ha).mono ?_
  rintro e w2 ⟨v, hv, rfl, hp, hkk⟩
  have HP1 := Lib.hid hp
  have HK1 := Lib.hid (HK0.out.trans hkk)
  have HX1 := Lib.hid (hkk.2 _ _ _ _ HX0.out (by decide) (by decide))
  clear hp hkk q0 q1 q2 q3 q4 q5 ql
  have q0 := blk_cell (i := 0) HX1.out rfl
  have q1 := blk_cell (i := 1) HX1.out rfl
  have q2 := blk_cell (i := 2) HX1.out rfl
  have q3 := blk_cell (i := 3) HX1.out rfl
  have q4 := blk_cell (i := 4) HX1.out rfl
  have q5 := blk_cell (i := 5) HX1.out rfl
  have ql := blk_lt HX1.out
  go_wp2_with fail
  refine (ins_lays W0 gk k pl sl nb (n + 1) ls0 _ HP1.out (by omega) 40 v 0 0 0 false 0 [] (one_ok (by omega) hv) (by decide) (by decide)).mono ?_
  rintro e w3 ⟨rfl, hp, hkk⟩
  have HP2 := Lib.hid hp
  have HK2 := Lib.hid (HK1.out.trans hkk)
  have HX2 := Lib.hid (hkk.2 _ _ _ _ HX1.out (by decide) (by decide))
  clear hp hkk q0 q1 q2 q3 q4 q5 ql
  have q0 := blk_cell (i := 0) HX2.out rfl
  have q1 := blk_cell (i := 1) HX2.out rfl
  have q2 := blk_cell (i := 2) HX2.out rfl
  have q3 := blk_cell (i := 3) HX2.out rfl
  have q4 := blk_cell (i := 4) HX2.out rfl
  have q5 := blk_cell (i := 5) HX2.out rfl
  have ql := blk_lt HX2.out
  go_wp2_with fail
  go_returns
  exact ⟨rfl, HP2.out.le (by omega), HK2.out⟩
set_option maxRecDepth 100000 in
theorem one_call28 (hk : KOk W0 k pl) (nb n : Nat) (ls0 : List LineD) (w : World) (h : PSeg W0 gk k pl sl nb ls0 n w) (hn : n ≤ 99998000) (x : InsD) (vx : Value)  (ht : Bool) (pb : Nat) (fs : List FuncD) (gs : List GlobD) (hN : NmT W0 k pb fs gs) (VA : Option Addr) (vc : Nat) (hs : SlR W0 2 ArgR (.slice VA x.args.length vc) x.args) (hm6 : x.args.length ≤ 6) (dst : Int)  (hal : ∀ a ∈ x.args, ArgOk pl a) (ho : ∃ rf : Nat, x.ref = (rf : Int) ∧ rf < fs.length) (hd : dst = -1 ∨ ∃ (rn : Nat) (px : Int), dst = (rn : Int) ∧ pl[rn]? = some px) :
    Calls Tryd.prog 25 #[.pointer (some ⟨gk, 0, none⟩), .agg #[.int .i64 28, .int .i64 dst, .int .i64 x.a.reg, .int .i64 x.a.num, .int .i64 x.b.reg, .int .i64 x.b.num, .int .i64 x.size, .bool x.signed, .bool x.secret, .int .i64 x.ref, .int .i64 x.off, .slice VA x.args.length vc], .bool ht] w (Lays W0 gk k pl sl nb ls0 (n + 10) w (.tuple #[])) := by
  have r0 : RR 0 := by unfold RR; decide
  have r10 : RR 10 := by unfold RR; decide
  have HC := Lib.hid (fun (w2 : World) (h2 : PSeg W0 gk k pl sl nb ls0 n w2) => call_lays W0 gk k pl sl hk nb n ls0 w2 h2 (by omega) pb fs gs hN x VA vc hs hm6 28 dst ht (fun h => absurd h (by decide)) hal (Or.inl ⟨rfl, ho⟩) hd)
  clear hal ho hd hN hs
  obtain ⟨m, hm⟩ : ∃ m, m = x.args.length := ⟨_, rfl⟩
  rw [← hm] at HC ⊢
  clear hm hm6
  have HA := Lib.hid (below_alloc (.cells #[.int .i64 28, .int .i64 dst, .int .i64 x.a.reg, .int .i64 x.a.num, .int .i64 x.b.reg, .int .i64 x.b.num, .int .i64 x.size, .bool x.signed, .bool x.secret, .int .i64 x.ref, .int .i64 x.off, .slice VA m vc] 74) (Below.refl w.heap.size w))
  have HP0 := Lib.hid (h.later HA.out)
  have HK0 := Lib.hid (KeptL.of_below HA.out)
  have HX0 := Lib.hid (blk_new w (.cells #[.int .i64 28, .int .i64 dst, .int .i64 x.a.reg, .int .i64 x.a.num, .int .i64 x.b.reg, .int .i64 x.b.num, .int .i64 x.size, .bool x.signed, .bool x.secret, .int .i64 x.ref, .int .i64 x.off, .slice VA m vc] 74))
  obtain ⟨w1, hw1⟩ : ∃ w1, w1 = w.alloc (.cells #[.int .i64 28, .int .i64 dst, .int .i64 x.a.reg, .int .i64 x.a.num, .int .i64 x.b.reg, .int .i64 x.b.num, .int .i64 x.size, .bool x.signed, .bool x.secret, .int .i64 x.ref, .int .i64 x.off, .slice VA m vc] 74) := ⟨_, rfl⟩
  rw [← hw1] at HP0 HK0 HX0
  obtain ⟨gx, hgx⟩ : ∃ gx, gx = w.heap.size := ⟨_, rfl⟩
  rw [← hgx] at HX0
  clear HA h
  have q0 := blk_cell (i := 0) HX0.out rfl
  have q1 := blk_cell (i := 1) HX0.out rfl
  have q2 := blk_cell (i := 2) HX0.out rfl
  have q3 := blk_cell (i := 3) HX0.out rfl
  have q4 := blk_cell (i := 4) HX0.out rfl
  have q5 := blk_cell (i := 5) HX0.out rfl
  have q6 := blk_cell (i := 6) HX0.out rfl
  have q7 := blk_cell (i := 7) HX0.out rfl
  have q8 := blk_cell (i := 8) HX0.out rfl
  have q9 := blk_cell (i := 9) HX0.out rfl
  have q10 := blk_cell (i := 10) HX0.out rfl
  have q11 := blk_cell (i := 11) HX0.out rfl
  have ql := blk_lt HX0.out
  have HGX := Lib.hid hgx
  go_enter Tryd.func25, Tryd.ntmps25
  go_upto_region 2 with (fail)
  rw [← hw1, ← hgx]
  clear hw1 hgx
  go_wp2_with fail
  refine (HC.out _ HP0.out).mono ?_
  rintro e w2 ⟨rfl, hp, hkk⟩
  have HP1 := Lib.hid hp
  have HK1 := Lib.hid (HK0.out.trans hkk)
  have HX1 := Lib.hid (hkk.2 _ _ _ _ HX0.out (by decide) (by decide))
  clear hp hkk q0 q1 q2 q3 q4 q5 q6 q7 q8 q9 q10 q11 ql
  have q0 := blk_cell (i := 0) HX1.out rfl
  have q1 := blk_cell (i := 1) HX1.out rfl
  have q2 := blk_cell (i := 2) HX1.out rfl
  have q3 := blk_cell (i := 3) HX1.out rfl
  have q4 := blk_cell (i := 4) HX1.out rfl
  have q5 := blk_cell (i := 5) HX1.out rfl
  have q6 := blk_cell (i := 6) HX1.out rfl
  have q7 := blk_cell (i := 7) HX1.out rfl
  have q8 := blk_cell (i := 8) HX1.out rfl
  have q9 := blk_cell (i := 9) HX1.out rfl
  have q10 := blk_cell (i := 10) HX1.out rfl
  have q11 := blk_cell (i := 11) HX1.out rfl
  have ql := blk_lt HX1.out
  go_wp2_with fail
  go_returns
  exact ⟨rfl, HP1.out.le (by omega), HK1.out⟩
set_option maxRecDepth 100000 in
theorem one_call29 (hk : KOk W0 k pl) (nb n : Nat) (ls0 : List LineD) (w : World) (h : PSeg W0 gk k pl sl nb ls0 n w) (hn : n ≤ 99998000) (x : InsD) (vx : Value)  (ht : Bool) (pb : Nat) (fs : List FuncD) (gs : List GlobD) (hN : NmT W0 k pb fs gs) (VA : Option Addr) (vc : Nat) (hs : SlR W0 2 ArgR (.slice VA x.args.length vc) x.args) (hm6 : x.args.length ≤ 6) (dst : Int) (ha : ArgOk pl x.a) (hal : ∀ a ∈ x.args, ArgOk pl a) (ho : True) (hd : dst = -1 ∨ ∃ (rn : Nat) (px : Int), dst = (rn : Int) ∧ pl[rn]? = some px) :
    Calls Tryd.prog 25 #[.pointer (some ⟨gk, 0, none⟩), .agg #[.int .i64 29, .int .i64 dst, .int .i64 x.a.reg, .int .i64 x.a.num, .int .i64 x.b.reg, .int .i64 x.b.num, .int .i64 x.size, .bool x.signed, .bool x.secret, .int .i64 x.ref, .int .i64 x.off, .slice VA x.args.length vc], .bool ht] w (Lays W0 gk k pl sl nb ls0 (n + 10) w (.tuple #[])) := by
  have r0 : RR 0 := by unfold RR; decide
  have r10 : RR 10 := by unfold RR; decide
  have HC := Lib.hid (fun (w2 : World) (h2 : PSeg W0 gk k pl sl nb ls0 n w2) => call_lays W0 gk k pl sl hk nb n ls0 w2 h2 (by omega) pb fs gs hN x VA vc hs hm6 29 dst ht (fun h => ha) hal (Or.inr rfl) hd)
  clear ha hal ho hd hN hs
  obtain ⟨m, hm⟩ : ∃ m, m = x.args.length := ⟨_, rfl⟩
  rw [← hm] at HC ⊢
  clear hm hm6
  have HA := Lib.hid (below_alloc (.cells #[.int .i64 29, .int .i64 dst, .int .i64 x.a.reg, .int .i64 x.a.num, .int .i64 x.b.reg, .int .i64 x.b.num, .int .i64 x.size, .bool x.signed, .bool x.secret, .int .i64 x.ref, .int .i64 x.off, .slice VA m vc] 74) (Below.refl w.heap.size w))
  have HP0 := Lib.hid (h.later HA.out)
  have HK0 := Lib.hid (KeptL.of_below HA.out)
  have HX0 := Lib.hid (blk_new w (.cells #[.int .i64 29, .int .i64 dst, .int .i64 x.a.reg, .int .i64 x.a.num, .int .i64 x.b.reg, .int .i64 x.b.num, .int .i64 x.size, .bool x.signed, .bool x.secret, .int .i64 x.ref, .int .i64 x.off, .slice VA m vc] 74))
  obtain ⟨w1, hw1⟩ : ∃ w1, w1 = w.alloc (.cells #[.int .i64 29, .int .i64 dst, .int .i64 x.a.reg, .int .i64 x.a.num, .int .i64 x.b.reg, .int .i64 x.b.num, .int .i64 x.size, .bool x.signed, .bool x.secret, .int .i64 x.ref, .int .i64 x.off, .slice VA m vc] 74) := ⟨_, rfl⟩
  rw [← hw1] at HP0 HK0 HX0
  obtain ⟨gx, hgx⟩ : ∃ gx, gx = w.heap.size := ⟨_, rfl⟩
  rw [← hgx] at HX0
  clear HA h
  have q0 := blk_cell (i := 0) HX0.out rfl
  have q1 := blk_cell (i := 1) HX0.out rfl
  have q2 := blk_cell (i := 2) HX0.out rfl
  have q3 := blk_cell (i := 3) HX0.out rfl
  have q4 := blk_cell (i := 4) HX0.out rfl
  have q5 := blk_cell (i := 5) HX0.out rfl
  have q6 := blk_cell (i := 6) HX0.out rfl
  have q7 := blk_cell (i := 7) HX0.out rfl
  have q8 := blk_cell (i := 8) HX0.out rfl
  have q9 := blk_cell (i := 9) HX0.out rfl
  have q10 := blk_cell (i := 10) HX0.out rfl
  have q11 := blk_cell (i := 11) HX0.out rfl
  have ql := blk_lt HX0.out
  have HGX := Lib.hid hgx
  go_enter Tryd.func25, Tryd.ntmps25
  go_upto_region 2 with (fail)
  rw [← hw1, ← hgx]
  clear hw1 hgx
  go_wp2_with fail
  refine (HC.out _ HP0.out).mono ?_
  rintro e w2 ⟨rfl, hp, hkk⟩
  have HP1 := Lib.hid hp
  have HK1 := Lib.hid (HK0.out.trans hkk)
  have HX1 := Lib.hid (hkk.2 _ _ _ _ HX0.out (by decide) (by decide))
  clear hp hkk q0 q1 q2 q3 q4 q5 q6 q7 q8 q9 q10 q11 ql
  have q0 := blk_cell (i := 0) HX1.out rfl
  have q1 := blk_cell (i := 1) HX1.out rfl
  have q2 := blk_cell (i := 2) HX1.out rfl
  have q3 := blk_cell (i := 3) HX1.out rfl
  have q4 := blk_cell (i := 4) HX1.out rfl
  have q5 := blk_cell (i := 5) HX1.out rfl
  have q6 := blk_cell (i := 6) HX1.out rfl
  have q7 := blk_cell (i := 7) HX1.out rfl
  have q8 := blk_cell (i := 8) HX1.out rfl
  have q9 := blk_cell (i := 9) HX1.out rfl
  have q10 := blk_cell (i := 10) HX1.out rfl
  have q11 := blk_cell (i := 11) HX1.out rfl
  have ql := blk_lt HX1.out
  go_wp2_with fail
  go_returns
  exact ⟨rfl, HP1.out.le (by omega), HK1.out⟩
end
end Go.Proofs.YtbogcompeefoaaaDoor
