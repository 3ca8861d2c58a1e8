/- merlonlaw06.paint of an int: its bytes become secret or not. No condition. -/
import Derived.Test.YtpcfibnnboenhaaOlF
namespace Go.Proofs.Ytpcfibnnboenhaa
open Go.RowKit
set_option linter.unusedVariables false
set_option maxHeartbeats 2000000
def bvs (l : List Bool) : List Value := l.map Value.bool
theorem setB_succ : ∀ (n a : Nat) (l : List Bool) (c : Bool), setB l a (n + 1) c = (setB l a n c).set (a + n) c
  | 0, a, l, c => by simp [setB]
  | n + 1, a, l, c => by
    have ih := setB_succ n (a + 1) (l.set a c) c
    rw [show setB l a (n + 1 + 1) c = setB (l.set a c) (a + 1) (n + 1) c from rfl, ih, show setB l a (n + 1) c = setB (l.set a c) (a + 1) n c from rfl, show a + 1 + n = a + (n + 1) by omega]
theorem bvs_set (l : List Bool) (i : Nat) (c : Bool) : (bvs l).toArray.setIfInBounds i (.bool c) = (bvs (l.set i c)).toArray := by
  unfold bvs
  simp [List.map_set]
/-- the labels at block g -/
def LabB (w : World) (g : Nat) (l : List Bool) : Prop := w.heap[g]? = some (.cells (bvs l).toArray 4 (0, 0))
theorem LabB.at {w : World} {g : Nat} {l : List Bool} (h : LabB w g l) {i : Nat} (hi : i < l.length) : w.cell? ⟨g, i, none⟩ = some (.bool l[i]) := blk_cell h (by simp [bvs, hi])
theorem LabB.set {w : World} {g : Nat} {l : List Bool} (h : LabB w g l) (i : Nat) (c : Bool) : LabB (w.setCell ⟨g, i, none⟩ (.bool c)) g (l.set i c) := by
  unfold LabB
  rw [blk_setCell h, bvs_set]
theorem grown_set (w : World) (b j : Nat) (v : Value) : w.grownBy (w.setCell ⟨b, j, none⟩ v) (some b) := ⟨rfl, rfl, rfl, by simp [World.setCell], fun k hk hne => Below.heap_setCell w ⟨b, j, none⟩ v k (fun e => hne (by rw [e]))⟩
def PaintV (w : World) (g : Nat) (l : List Bool) (e : Ending) (w' : World) : Prop := e = .returned (.tuple #[]) ∧ LabB w' g l ∧ w.grownBy w' (some g)
theorem grown_more {w w1 w2 : World} {r : Option Nat} (h : w.grownBy w1 r) (k : w1.grownBy w2 r) : w.grownBy w2 r :=
  ⟨k.os.trans h.os, k.tape.trans h.tape, k.output.trans h.output, Nat.le_trans h.size k.size, fun b hb hn => (k.block b (Nat.lt_of_lt_of_le hb h.size) hn).trans (h.block b hb hn)⟩
theorem paint_int (w : World) (p g cap a : Nat) (l : List Bool) (s : Nat) (sg c : Bool) (hs : s ≤ 8) (ha : a + s ≤ l.length) (hl : l.length ≤ 1000000) (hg : LabB w g l) :
    Calls Try.prog 10 #[.pointer (some ⟨p, 0, none⟩), .agg #[.int .i64 1, .int .i64 (s : Int), .bool sg, .bool c, .pointer none, .int .i64 0, .int .i64 0, .slice none 0 0, .pointer none], .slice (some ⟨g, 0, none⟩) l.length cap, .int .i64 (a : Int)] w (PaintV w g (setB l a s c)) := by
  obtain ⟨wa, hwa⟩ : ∃ wa, wa = w.alloc (.cells #[.int .i64 1, .int .i64 (s : Int), .bool sg, .bool c, .pointer none, .int .i64 0, .int .i64 0, .slice none 0 0, .pointer none] 39) := ⟨_, rfl⟩
  have HKX := Lib.hid (show wa.heap[w.heap.size]? = some (.cells #[.int .i64 1, .int .i64 (s : Int), .bool sg, .bool c, .pointer none, .int .i64 0, .int .i64 0, .slice none 0 0, .pointer none] 39 (0, 0)) by rw [hwa]; exact blk_new _ _)
  have hlg := blk_lt hg
  have HGA := Lib.hid (show LabB wa g l by rw [hwa]; exact blk_alloc hg _)
  have HG0 := Lib.hid (show w.grownBy wa (some g) by rw [hwa]; exact World.grownBy_alloc w _ _)
  have HGN := Lib.hid (show g ≠ w.heap.size by omega)
  go_enter Try.func10, Try.ntmps10
  go_wp2_with fail
  rw [← hwa]
  go_loopw [18] (fun i wr => ∃ j : Nat, j ≤ s ∧ i = .int .i64 j ∧ LabB wr g (setB l a j c) ∧ wr.heap[w.heap.size]? = some (.cells #[.int .i64 1, .int .i64 (s : Int), .bool sg, .bool c, .pointer none, .int .i64 0, .int .i64 0, .slice none 0 0, .pointer none] 39 (0, 0)) ∧ w.grownBy wr (some g)) (fun i _ => s - (intOf i).toNat)
  case atStart => exact ⟨0, by omega, rfl, HGA.out, HKX.out, HG0.out⟩
  case round =>
    obtain ⟨j, hj, rfl, hL, hK, hG⟩ := hrel
    have HL := Lib.hid hL
    have HK := Lib.hid hK
    have HG := Lib.hid hG
    by_cases hlt : j < s
    · have d1 : decide ((j : Int) < s) = true := decide_eq_true (by omega)
      have c3 := blk_cell (i := 3) hK rfl
      have lw := blk_lt hK
      have z0 := hL.at (i := a + j) (by rw [setB_length]; omega)
      have lg := blk_lt hL
      have fg := blk_free (i := a + j) hL
      have HLT := Lib.hid hlt
      clear hL hK hG
      have HLS := Lib.hid (show LabB (wr.setCell ⟨g, a + j, none⟩ (.bool c)) g (setB l a (j + 1) c) by rw [setB_succ]; exact HL.out.set (a + j) c)
      have HKS := Lib.hid (((grown_set wr g (a + j) (.bool c)).block w.heap.size lw (by simp; exact fun e => HGN.out e.symm)).trans HK.out)
      have HGS := Lib.hid (grown_more HG.out (grown_set wr g (a + j) (.bool c)))
      go_wp2_with fail
      have hlt := HLT.out
      go_roundw
      case rel => exact ⟨j + 1, by omega, by go_num, HLS.out, HKS.out, HGS.out⟩
      case measure => simp [intOf]; omega
    · have e : j = s := by omega
      subst e
      clear hL hK hG
      go_wp2_with fail
      go_returns
      exact ⟨rfl, HL.out, HG.out⟩
end Go.Proofs.Ytpcfibnnboenhaa
