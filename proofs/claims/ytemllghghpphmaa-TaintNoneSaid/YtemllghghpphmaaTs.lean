/- The walks of taint.arg, taint.step. No condition. -/
import Derived.Test.YtemllghghpphmaaTp
import Derived.Test.YtemllghghpphmaaTq
namespace Go.Proofs.Ytemllghghpphmaa
open Go.RowKit
set_option linter.unusedVariables false
set_option maxHeartbeats 1000000
theorem arg_any (w : World) (base : Nat) (sv : Value) (l : List Nat) (a : ArgD) (hs : SetR w base sv l) (ha : In64 a.reg) :
    Calls Try.prog 14 #[sv, .agg #[.int .i64 a.reg, .int .i64 a.num]] w fun e w' => e = .returned (.bool (hasL l a.reg)) ∧ Below w.heap.size w w' := by
  have hal := below_alloc (.cells #[.int .i64 a.reg, .int .i64 a.num] 25) (Below.refl w.heap.size w)
  have HAL := Lib.hid hal
  have HS1 := Lib.hid (set_below hs hal)
  have HA := Lib.hid ha
  clear hs ha hal
  go_enter Try.func14, Try.ntmps14
  go_wp2_with fail
  refine (has_any _ base sv l a.reg HS1.out HA.out.2).mono ?_
  rintro e w2 ⟨rfl, rfl⟩
  go_wp2_with fail
  go_returns
  exact ⟨rfl, HAL.out⟩
theorem any_take {α : Type} {l : List α} {k : Nat} {x : α} (p : α → Bool) (h : l[k]? = some x) : (l.take (k + 1)).any p = ((l.take k).any p || p x) := by
  rw [List.take_add_one, h]; simp
set_option maxRecDepth 100000 in
theorem step_any (w : World) (base : Nat) (sv va : Value) (l : List Nat) (x : InsD) (hs : SetR w base sv l) (h0 : In64 x.op) (h1 : In64 x.dst) (h2 : In64 x.a.reg ∧ In64 x.a.num) (h3 : In64 x.b.reg ∧ In64 x.b.num) (ha : SlR w 2 ArgR va x.args)
    (hsl : x.args.length ≤ 1000000) :
    Calls Try.prog 15 #[sv, insV x va] w (SetTo w base sv (stepL l x)) := by
  obtain ⟨A, cap, rfl, _⟩ := id ha
  have HA := Lib.hid ha
  have H0 := Lib.hid h0
  have H1 := Lib.hid h1
  have H2 := Lib.hid h2
  have H3 := Lib.hid h3
  have HSl := Lib.hid hsl
  have hal := below_alloc (.cells #[.int .i64 x.op, .int .i64 x.dst, .int .i64 x.a.reg, .int .i64 x.a.num, .int .i64 x.b.reg, .int .i64 x.b.num, .int .i64 x.size, .bool x.signed, .bool x.secret, .int .i64 x.ref, .int .i64 x.off, .slice A x.args.length cap] 29) (Below.refl w.heap.size w)
  have HAL := Lib.hid hal
  have HS1 := Lib.hid (set_below hs hal)
  have HBK := Lib.hid (blk_new w (.cells #[.int .i64 x.op, .int .i64 x.dst, .int .i64 x.a.reg, .int .i64 x.a.num, .int .i64 x.b.reg, .int .i64 x.b.num, .int .i64 x.size, .bool x.signed, .bool x.secret, .int .i64 x.ref, .int .i64 x.off, .slice A x.args.length cap] 29))
  have HA1 := Lib.hid (ha.later (by decide) hal)
  obtain ⟨q1, q2⟩ := h1
  obtain ⟨q3, q4⟩ := h0
  clear hs h2 h3 ha hsl hal
  by_cases hd : x.dst < 0
  · have d1 : decide (x.dst < 0) = true := decide_eq_true hd
    have HST := Lib.hid (show stepL l x = l by unfold stepL; rw [if_pos hd])
    go_enter Try.func15, Try.ntmps15
    go_wp2_with fail
    go_returns
    refine ⟨rfl, ?_, grown_of_below HAL.out⟩
    rw [HST.out]; exact HS1.out
  have d1 : decide (x.dst < 0) = false := decide_eq_false hd
  have HST := Lib.hid (show stepL l x = if hotL l x = true then putL (outL l x.dst) x.dst else outL l x.dst by unfold stepL; rw [if_neg hd])
  have HND := Lib.hid hd
  clear hd
  have hcase : x.op = 28 ∨ x.op = 29 ∨ ((x.op == 28) = false ∧ (x.op == 29) = false) := by simp only [beq_eq_false_iff_ne, ne_eq]; omega
  obtain ⟨w1, hw1⟩ : ∃ z, z = w.alloc (.cells #[.int .i64 x.op, .int .i64 x.dst, .int .i64 x.a.reg, .int .i64 x.a.num, .int .i64 x.b.reg, .int .i64 x.b.num, .int .i64 x.size, .bool x.signed, .bool x.secret, .int .i64 x.ref, .int .i64 x.off, .slice A x.args.length cap] 29) := ⟨_, rfl⟩
  have HZ := Lib.hid (show w.heap.size < w1.heap.size by rw [hw1]; simp)
  obtain ⟨gb, hgb0⟩ : ∃ z, w.heap.size = z := ⟨_, rfl⟩
  have HGB := Lib.hid hgb0
  have HW1 := Lib.hid hw1
  clear hgb0 hw1
  have HCL := Lib.hid (show x.op = 28 ∨ x.op = 29 → hotL l x = x.secret from fun h => by unfold hotL hotB; rw [decide_eq_true h]; simp)
  rcases hcase with k | k | ⟨k1, k2⟩
  · have b1 : (x.op == 28) = true := by simp [k]
    have HC := Lib.hid (HCL.out (Or.inl k))
    clear k
    go_enter Try.func15, Try.ntmps15
    go_wp2_with fail
    rw [← HW1.out] at HAL HS1 HBK ⊢
    rw [HGB.out] at HBK HAL ⊢
    refine (out_any w1 base sv l x.dst HS1.out H1.out.2).mono ?_
    rintro e w3 ⟨rfl, hs3, hg3⟩
    have HS3 := Lib.hid hs3
    have HG3 := Lib.hid (grown_trans (grown_of_below (r := sv.ownBlock) (w := w) (by rw [HGB.out]; exact HAL.out)) hg3)
    have HB3 := Lib.hid (blk_kept HBK.out hg3 (own_blk (HS1.out).1 (HBK.out) (by decide)))
    have k1 : w3.cell? ⟨gb, 1, none⟩ = some (.int .i64 x.dst) := blk_cell HB3.out rfl
    have lk := blk_lt HB3.out
    clear hs3 hg3
    cases hh : hotL l x with
    | false =>
      rw [hh] at HST HC
      have hsc := HC.out.symm
      have HHH := Lib.hid hh
      clear hh
      go_wp2_with fail
      go_returns
      refine ⟨rfl, ?_, HG3.out⟩
      rw [HST.out]; simpa using HS3.out
    | true =>
      rw [hh] at HST HC
      have hsc := HC.out.symm
      have HHH := Lib.hid hh
      clear hh
      go_wp2_with fail
      refine (put_any w3 base sv (outL l x.dst) x.dst HS3.out H1.out.2).mono ?_
      rintro e w4 ⟨rfl, hs4, hg4⟩
      have HS4 := Lib.hid hs4
      have HG4 := Lib.hid (grown_trans HG3.out hg4)
      clear hs4 hg4
      go_wp2_with fail
      go_returns
      refine ⟨rfl, ?_, HG4.out⟩
      rw [HST.out]; simpa using HS4.out
  · have b1 : (x.op == 28) = false := by simp [k]
    have b2 : (x.op == 29) = true := by simp [k]
    have HC := Lib.hid (HCL.out (Or.inr k))
    clear k
    go_enter Try.func15, Try.ntmps15
    go_wp2_with fail
    rw [← HW1.out] at HAL HS1 HBK ⊢
    rw [HGB.out] at HBK HAL ⊢
    refine (out_any w1 base sv l x.dst HS1.out H1.out.2).mono ?_
    rintro e w3 ⟨rfl, hs3, hg3⟩
    have HS3 := Lib.hid hs3
    have HG3 := Lib.hid (grown_trans (grown_of_below (r := sv.ownBlock) (w := w) (by rw [HGB.out]; exact HAL.out)) hg3)
    have HB3 := Lib.hid (blk_kept HBK.out hg3 (own_blk (HS1.out).1 (HBK.out) (by decide)))
    have k1 : w3.cell? ⟨gb, 1, none⟩ = some (.int .i64 x.dst) := blk_cell HB3.out rfl
    have lk := blk_lt HB3.out
    clear hs3 hg3
    cases hh : hotL l x with
    | false =>
      rw [hh] at HST HC
      have hsc := HC.out.symm
      have HHH := Lib.hid hh
      clear hh
      go_wp2_with fail
      go_returns
      refine ⟨rfl, ?_, HG3.out⟩
      rw [HST.out]; simpa using HS3.out
    | true =>
      rw [hh] at HST HC
      have hsc := HC.out.symm
      have HHH := Lib.hid hh
      clear hh
      go_wp2_with fail
      refine (put_any w3 base sv (outL l x.dst) x.dst HS3.out H1.out.2).mono ?_
      rintro e w4 ⟨rfl, hs4, hg4⟩
      have HS4 := Lib.hid hs4
      have HG4 := Lib.hid (grown_trans HG3.out hg4)
      clear hs4 hg4
      go_wp2_with fail
      go_returns
      refine ⟨rfl, ?_, HG4.out⟩
      rw [HST.out]; simpa using HS4.out
  · have HC := Lib.hid (show hotL l x = (x.secret || (readsD x).any fun a => hasL l a.reg) by
      unfold hotL hotB hasL
      have : decide (x.op = 28 ∨ x.op = 29) = false := decide_eq_false (by simp only [beq_eq_false_iff_ne, ne_eq] at k1 k2; omega)
      rw [this]; rfl)
    go_enter Try.func15, Try.ntmps15
    go_wp2_with fail
    rw [← HW1.out] at HAL HS1 HBK HA1 ⊢
    rw [HGB.out] at HBK HAL ⊢
    refine (ireads_new w1 x _ H0.out H2.out H3.out HA1.out HSl.out).mono ?_
    rintro e w2 ⟨v, rfl, hv, hb2, how⟩
    have HAR := Lib.hid hv.argsIn
    obtain ⟨Av, cv, rfl, l1, l2, l3⟩ := hv
    have HV := Lib.hid l3
    have HB2 := Lib.hid (show Below gb w w2 by have h1 := HAL.out; rw [← HGB.out] at h1 ⊢; exact h1.bt hb2)
    have HS2 := Lib.hid (set_below HS1.out hb2)
    have HBK2 := Lib.hid (blk_below HBK.out hb2)
    have hrl : (readsD x).length ≤ 9223372036854775807 := by unfold maxLen at l2; omega
    clear l1 l2 l3 hb2 how
    go_wp2_with fail
    go_loopw [4, 17] (fun h i wr => ∃ j : Nat, j ≤ (readsD x).length ∧ i = .int .i64 j ∧ h = .bool (x.secret || ((readsD x).take j).any fun a => hasL l a.reg) ∧ Below w2.heap.size w2 wr) (fun _ i _ => (readsD x).length - (intOf i).toNat)
    case atStart => exact ⟨0, by omega, rfl, by simp, Below.refl _ _⟩
    case round =>
      obtain ⟨j, hj, rfl, rfl, hb⟩ := hrel
      have HBR := Lib.hid hb
      by_cases hlt : j < (readsD x).length
      · obtain ⟨a, ha⟩ : ∃ a, (readsD x)[j]? = some a := ⟨_, List.getElem?_eq_getElem hlt⟩
        have HT := Lib.hid (any_take (fun a => hasL l a.reg) ha)
        obtain ⟨lb, lo, cs, rfl, e1, e2, e3, e4, e5⟩ := HV.out j a ha
        subst e3
        have r0 := later (e2 0 (by omega)) hb
        have r1 := later (e2 1 (by omega)) hb
        rw [Nat.add_zero] at r0
        have lr := World.block_lt_of_cell? _ _ r0
        have HSR := Lib.hid (set_below (set_below HS2.out hb) (below_alloc (.cells #[.int .i64 a.reg, .int .i64 a.num] 25) (Below.refl wr.heap.size wr)))
        have E4 := Lib.hid e4
        clear e1 e2 e4 e5 ha hb
        obtain ⟨hc, hhc⟩ : ∃ z, (x.secret || ((readsD x).take j).any fun a => hasL l a.reg) = z := ⟨_, rfl⟩
        rw [hhc]
        cases hc with
        | true =>
          have HN := Lib.hid (show (x.secret || ((readsD x).take (j + 1)).any fun a => hasL l a.reg) = true by rw [HT.out, ← Bool.or_assoc, hhc]; rfl)
          clear hhc
          go_wp2_with fail
          go_roundw
          case rel => exact ⟨j + 1, by omega, by go_num, by rw [HN.out], below_alloc _ HBR.out⟩
          case measure => simp [intOf]; omega
        | false =>
          have HN := Lib.hid (show (x.secret || ((readsD x).take (j + 1)).any fun a => hasL l a.reg) = hasL l a.reg by rw [HT.out, ← Bool.or_assoc, hhc]; rfl)
          clear hhc
          go_wp2_with fail
          refine (arg_any _ base sv l a HSR.out E4.out).mono ?_
          rintro e w5 ⟨rfl, hb5⟩
          have HB5 := Lib.hid (HBR.out.bt (below_new hb5))
          clear hb5
          go_wp2_with fail
          go_roundw
          case rel => exact ⟨j + 1, by omega, by go_num, by rw [HN.out], HB5.out⟩
          case measure => simp [intOf]; omega
      · have e : j = (readsD x).length := by omega
        subst e
        rw [List.take_length, ← HC.out]
        have HSE := Lib.hid (set_below HS2.out hb)
        have HBE := Lib.hid (show Below gb w wr by have h2 := HB2.out; rw [← HGB.out] at h2 ⊢; exact h2.bt hb)
        have HKE := Lib.hid (blk_below HBK2.out hb)
        have kk1 : wr.cell? ⟨gb, 1, none⟩ = some (.int .i64 x.dst) := blk_cell HKE.out rfl
        have lkk := blk_lt HKE.out
        clear hb
        go_wp2_with fail
        clear kk1 lkk
        refine (out_any wr base sv l x.dst HSE.out H1.out.2).mono ?_
        rintro e w3 ⟨rfl, hs3, hg3⟩
        have HS3 := Lib.hid hs3
        have HG3 := Lib.hid (grown_trans (grown_of_below (r := sv.ownBlock) (w := w) (by rw [HGB.out]; exact HBE.out)) hg3)
        have HB3 := Lib.hid (blk_kept HKE.out hg3 (own_blk (HSE.out).1 (HKE.out) (by decide)))
        have k1 : w3.cell? ⟨gb, 1, none⟩ = some (.int .i64 x.dst) := blk_cell HB3.out rfl
        have lk := blk_lt HB3.out
        clear hs3 hg3
        cases hh : hotL l x with
        | false =>
          rw [hh] at HST
          have HHH := Lib.hid hh
          clear hh
          go_wp2_with fail
          go_returns
          refine ⟨rfl, ?_, HG3.out⟩
          rw [HST.out]; simpa using HS3.out
        | true =>
          rw [hh] at HST
          have HHH := Lib.hid hh
          clear hh
          go_wp2_with fail
          refine (put_any w3 base sv (outL l x.dst) x.dst HS3.out H1.out.2).mono ?_
          rintro e w4 ⟨rfl, hs4, hg4⟩
          have HS4 := Lib.hid hs4
          have HG4 := Lib.hid (grown_trans HG3.out hg4)
          clear hs4 hg4
          go_wp2_with fail
          go_returns
          refine ⟨rfl, ?_, HG4.out⟩
          rw [HST.out]; simpa using HS4.out
end Go.Proofs.Ytemllghghpphmaa
