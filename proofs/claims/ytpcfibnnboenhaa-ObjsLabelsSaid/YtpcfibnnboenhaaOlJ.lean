/- objs.mark of an int: its bytes become secret or not. No condition. -/
import Derived.Test.YtpcfibnnboenhaaOlN
namespace Go.Proofs.Ytpcfibnnboenhaa
open Go.RowKit
set_option linter.unusedVariables false
set_option maxHeartbeats 2000000
theorem mark_int (w : World) (p g cap a n : Nat) (l : List Bool) (s : Nat) (sg c : Bool) (hs : 1 ≤ s ∧ s ≤ 8) (hn : s ≤ n) (ha : a + n = l.length) (hl : l.length ≤ 1000000) (hcap : n ≤ cap) (hcap2 : cap ≤ 9223372036854775807) (hg : LabB w g l) :
    Calls Try.prog 22 #[.pointer (some ⟨p, 0, none⟩), .agg #[.int .i64 1, .int .i64 (s : Int), .bool sg, .bool c, .pointer none, .int .i64 0, .int .i64 0, .slice none 0 0, .pointer none], .slice (some ⟨g, a, none⟩) n cap] w (PaintV w g (setB l a s c)) := by
  obtain ⟨wa, hwa⟩ : ∃ wa, wa = w.alloc (.cells #[.int .i64 1, .int .i64 (s : Int), .bool sg, .bool c, .pointer none, .int .i64 0, .int .i64 0, .slice none 0 0, .pointer none] 39) := ⟨_, rfl⟩
  have HKX := Lib.hid (show wa.heap[w.heap.size]? = some (.cells #[.int .i64 1, .int .i64 (s : Int), .bool sg, .bool c, .pointer none, .int .i64 0, .int .i64 0, .slice none 0 0, .pointer none] 39 (0, 0)) by rw [hwa]; exact blk_new _ _)
  have hlg := blk_lt hg
  have HGA := Lib.hid (show LabB wa g l by rw [hwa]; exact blk_alloc hg _)
  have HG0 := Lib.hid (show w.grownBy wa (some g) by rw [hwa]; exact World.grownBy_alloc w _ _)
  have HGN := Lib.hid (show g ≠ w.heap.size by omega)
  go_enter Try.func22, Try.ntmps22
  go_wp2_with fail
  rw [← hwa]
  go_loopw [20] (fun i wr => ∃ j : Nat, j ≤ s ∧ i = .int .i64 j ∧ LabB wr g (setB l a j c) ∧ wr.heap[w.heap.size]? = some (.cells #[.int .i64 1, .int .i64 (s : Int), .bool sg, .bool c, .pointer none, .int .i64 0, .int .i64 0, .slice none 0 0, .pointer none] 39 (0, 0)) ∧ w.grownBy wr (some g)) (fun i _ => s - (intOf i).toNat)
  case atStart => exact ⟨0, by omega, rfl, HGA.out, HKX.out, HG0.out⟩
  case round =>
    obtain ⟨j, hj, rfl, hL, hK, hG⟩ := hrel
    have HL := Lib.hid hL
    have HK := Lib.hid hK
    have HG := Lib.hid hG
    by_cases hlt : j < s
    · have d1 : decide ((j : Int) < s) = true := decide_eq_true (by omega)
      have c3 := blk_cell (i := 3) hK rfl
      have lw := blk_lt hK
      have z0 := hL.at (i := a + j) (by rw [setB_length]; omega)
      have lg := blk_lt hL
      have fg := blk_free (i := a + j) hL
      have HLT := Lib.hid hlt
      clear hL hK hG
      have HLS := Lib.hid (show LabB (wr.setCell ⟨g, a + j, none⟩ (.bool c)) g (setB l a (j + 1) c) by rw [setB_succ]; exact HL.out.set (a + j) c)
      have HKS := Lib.hid (((grown_set wr g (a + j) (.bool c)).block w.heap.size lw (by simp; exact fun e => HGN.out e.symm)).trans HK.out)
      have HGS := Lib.hid (grown_more HG.out (grown_set wr g (a + j) (.bool c)))
      go_wp2_with fail
      have hlt := HLT.out
      go_roundw
      case rel => exact ⟨j + 1, by omega, by go_num, HLS.out, HKS.out, HGS.out⟩
      case measure => simp [intOf]; omega
    · have e : j = s := by omega
      subst e
      clear hL hK hG
      go_wp2_with fail
      go_returns
      exact ⟨rfl, HL.out, HG.out⟩
end Go.Proofs.Ytpcfibnnboenhaa
