/- ctype.Table's Size: what a type takes. No condition. -/
import Derived.Test.YtpcfibnnboenhaaOlT
namespace Go.Proofs.Ytpcfibnnboenhaa
open Go.RowKit
set_option linter.unusedVariables false
set_option maxHeartbeats 2000000
theorem size_bound (tab : List RecP) (hz : ∀ k, 0 ≤ (recT tab k).size ∧ (recT tab k).size ≤ hugeS) : ∀ t, OkT t → 0 ≤ sizeT tab t ∧ sizeT tab t ≤ hugeS
  | .int s _ _, h => by unfold OkT at h; unfold sizeT hugeS; omega
  | .ptr _, _ => by unfold sizeT hugeS; omega
  | .arr e n, h => by
    obtain ⟨h1, h2, h3⟩ := h
    have ih := size_bound tab hz e h3
    unfold sizeT
    split
    · unfold hugeS; omega
    · rename_i hc
      by_cases hn : n = 0
      · subst hn; simp; unfold hugeS; omega
      · have hle : sizeT tab e ≤ hugeS / n := by
          have : ¬ (hugeS / n < sizeT tab e) := fun hx => hc ⟨by omega, hx⟩
          omega
        refine ⟨Int.mul_nonneg h1 ih.1, ?_⟩
        exact Int.le_trans (Int.mul_le_mul_of_nonneg_left hle h1) (Int.mul_ediv_self_le hn)
  | .str k, _ => hz k
  | .fn _ _ _, h => h.elim
theorem rec_size (nm : ByteArray) (A : Option Addr) (m c : Nat) (x y : Int) (W : World) : (Instr.field 69 (.agg #[.string nm, .slice A m c, .int .i64 x, .int .i64 y]) 2).run Try.prog W = .ok (.int .i64 x) W := by kernel_rfl
theorem rec_align (nm : ByteArray) (A : Option Addr) (m c : Nat) (x y : Int) (W : World) : (Instr.field 69 (.agg #[.string nm, .slice A m c, .int .i64 x, .int .i64 y]) 3).run Try.prog W = .ok (.int .i64 y) W := by kernel_rfl
theorem size_any (p : Nat) (tab : List RecP) (hz : ∀ k, 0 ≤ (recT tab k).size ∧ (recT tab k).size ≤ hugeS) : ∀ (t : Ty) (w : World) (ds : List Value), OkT t → TabC w p tab → TyC w (fun _ => True) t ds →
    Calls Try.prog 7 #[.pointer (some ⟨p, 0, none⟩), .agg ds.toArray] w fun e w' => e = .returned (.int .i64 (sizeT tab t)) ∧ Below w.heap.size w w'
  | .int s g c, w, ds, hO, hT, hC => by
    have hC : ds = tyCells 1 s g c none 0 0 (.slice none 0 0) none := hC
    subst hC
    unfold tyCells sizeT
    have hb := Lib.hid (below_alloc (.cells #[.int .i64 1, .int .i64 s, .bool g, .bool c, .pointer none, .int .i64 0, .int .i64 0, .slice none 0 0, .pointer none] 39) (Below.refl w.heap.size w))
    clear hT
    go_enter Try.func7, Try.ntmps7
    go_wp2_with fail
    go_returns
    exact ⟨rfl, hb.out⟩
  | .ptr e, w, ds, hO, hT, hC => by
    obtain ⟨b, es, rfl, _, h2, h3⟩ := hC
    unfold tyCells sizeT
    have hb := Lib.hid (below_alloc (.cells #[.int .i64 2, .int .i64 8, .bool false, .bool false, .pointer (some ⟨b, 0, none⟩), .int .i64 0, .int .i64 0, .slice none 0 0, .pointer none] 39) (Below.refl w.heap.size w))
    clear hT h2 h3
    go_enter Try.func7, Try.ntmps7
    go_wp2_with fail
    go_returns
    exact ⟨rfl, hb.out⟩
  | .arr e n, w, ds, hO, hT, hC => by
    obtain ⟨b, es, rfl, _, h2, h3⟩ := hC
    have hI : ∀ W, Below w.heap.size w W → Calls Try.prog 7 #[.pointer (some ⟨p, 0, none⟩), .agg es.toArray] W fun e' w' => e' = .returned (.int .i64 (sizeT tab e)) ∧ Below W.heap.size W w' := fun W hb => size_any p tab hz e W es hO.2.2 (hT.later hb) (h3.later hb)
    obtain ⟨m1, m2⟩ := size_bound tab hz e hO.2.2
    obtain ⟨n1, n2, _⟩ := hO
    obtain ⟨k', s', g', c', p', n', num', A', q1', q2', rt', rfl⟩ := h3.ten
    unfold tyCells at h2 hI
    unfold tyCells sizeT
    obtain ⟨m, hm⟩ : ∃ m, m = sizeT tab e := ⟨_, rfl⟩
    rw [← hm] at hI m1 m2 ⊢
    have HI := Lib.hid hI
    obtain ⟨wa, hwa⟩ : ∃ wa, wa = w.alloc (.cells #[.int .i64 3, .int .i64 0, .bool false, .bool false, .pointer (some ⟨b, 0, none⟩), .int .i64 n, .int .i64 0, .slice none 0 0, .pointer none] 39) := ⟨_, rfl⟩
    have hb : Below w.heap.size w wa := by rw [hwa]; exact below_alloc _ (Below.refl _ _)
    have HB := Lib.hid hb
    have HKW := Lib.hid (show wa.heap[w.heap.size]? = some (.cells #[.int .i64 3, .int .i64 0, .bool false, .bool false, .pointer (some ⟨b, 0, none⟩), .int .i64 n, .int .i64 0, .slice none 0 0, .pointer none] 39 (0, 0)) by rw [hwa]; exact blk_new _ _)
    have h4 := blk_alloc h2 (.cells #[.int .i64 3, .int .i64 0, .bool false, .bool false, .pointer (some ⟨b, 0, none⟩), .int .i64 n, .int .i64 0, .slice none 0 0, .pointer none] 39)
    have c0 := blk_cell (i := 0) h4 rfl
    have c1 := blk_cell (i := 1) h4 rfl
    have c2 := blk_cell (i := 2) h4 rfl
    have c3 := blk_cell (i := 3) h4 rfl
    have c4 := blk_cell (i := 4) h4 rfl
    have c5 := blk_cell (i := 5) h4 rfl
    have c6 := blk_cell (i := 6) h4 rfl
    have c7 := blk_cell (i := 7) h4 rfl
    have c8 := blk_cell (i := 8) h4 rfl
    have lb := blk_lt h4
    clear hT h2 h3 hI hb h4 hm
    unfold hugeS at m2 ⊢
    obtain ⟨R, hR⟩ : ∃ R : Int, R = if 0 < n ∧ 1099511627776 / n < m then 1099511627776 else n * m := ⟨_, rfl⟩
    rw [← hR]
    have HR := Lib.hid hR
    clear hR
    go_enter Try.func7, Try.ntmps7
    go_wp2_with fail
    rw [← hwa]
    clear hwa c0 c1 c2 c3 c4 c5 c6 c7 c8 lb
    refine (HI.out _ HB.out).mono ?_
    rintro e' w2 ⟨rfl, kb⟩
    have HB2 := Lib.hid (HB.out.bt kb)
    have k2 := blk_below HKW.out kb
    have y5 := blk_cell (i := 5) k2 rfl
    have yl := blk_lt k2
    clear kb k2
    by_cases hn : 0 < n
    · have hn0 : n ≠ 0 := by omega
      have dn : decide (0 < n) = true := decide_eq_true hn
      by_cases hc : 1099511627776 / n < m
      · have HV := Lib.hid (show R = 1099511627776 by rw [HR.out, if_pos ⟨hn, hc⟩])
        have dc : decide (1099511627776 / n < m) = true := decide_eq_true hc
        go_wp2_with fail
        go_returns
        exact ⟨by rw [HV.out]; rfl, HB2.out⟩
      · have HV := Lib.hid (show R = n * m by rw [HR.out, if_neg (fun h => hc h.2)])
        have dc : decide (1099511627776 / n < m) = false := decide_eq_false hc
        have hle : m ≤ 1099511627776 / n := by omega
        have hx1 : 0 ≤ n * m := Int.mul_nonneg n1 m1
        have hx2 : n * m ≤ 1099511627776 := Int.le_trans (Int.mul_le_mul_of_nonneg_left hle n1) (Int.mul_ediv_self_le hn0)
        go_wp2_with fail
        go_returns
        exact ⟨by rw [HV.out]; rfl, HB2.out⟩
    · obtain rfl : n = 0 := by omega
      have HV := Lib.hid (show R = 0 by rw [HR.out]; simp)
      go_wp2_with fail
      go_returns
      exact ⟨by rw [HV.out]; rfl, HB2.out⟩
  | .str k, w, ds, hO, hT, hC => by
    have hC : ds = tyCells 4 0 false false none 0 k (.slice none 0 0) none := hC
    subst hC
    unfold tyCells sizeT
    have hk : In64 k := hO
    obtain ⟨wa, hwa⟩ : ∃ wa, wa = w.alloc (.cells #[.int .i64 4, .int .i64 0, .bool false, .bool false, .pointer none, .int .i64 0, .int .i64 k, .slice none 0 0, .pointer none] 39) := ⟨_, rfl⟩
    have hb : Below w.heap.size w wa := by rw [hwa]; exact below_alloc _ (Below.refl _ _)
    have HB := Lib.hid hb
    have HR := Lib.hid (record_any wa p tab k (hT.later hb) hk)
    clear hT hb
    go_enter Try.func7, Try.ntmps7
    go_wp2_with fail
    rw [← hwa]
    clear hwa
    refine HR.out.mono ?_
    rintro e' w2 ⟨vf, rfl, hv, _, kb⟩
    obtain ⟨A, cap, rfl, _⟩ := hv
    have HB2 := Lib.hid (HB.out.bt kb)
    have hfl := rec_size (recT tab k).name A (recT tab k).fields.length cap (recT tab k).size (recT tab k).align
    clear kb
    go_wp2_with fail
    go_returns
    exact ⟨rfl, HB2.out⟩
  | .fn _ _ _, w, ds, hO, hT, hC => hO.elim
end Go.Proofs.Ytpcfibnnboenhaa
