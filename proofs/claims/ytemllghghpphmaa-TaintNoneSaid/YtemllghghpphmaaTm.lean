/- The walk of taint.Of where nothing is secret: none is marked. No condition. -/
import Derived.Test.YtemllghghpphmaaTo
import Derived.Test.YtemllghghpphmaaHu
namespace Go.Proofs.Ytemllghghpphmaa
open Go.RowKit
set_option linter.unusedVariables false
set_option maxHeartbeats 8000000
theorem heap_same {w : World} {g i : Nat} {cs : Array Value} {T : TypeId} {v : Value} (h : w.heap[g]? = some (.cells cs T (0, 0))) (hi : cs[i]? = some v) (k : Nat) : (w.setCell ⟨g, i, none⟩ v).heap[k]? = w.heap[k]? := by
  by_cases e : k = g
  · subst e
    have h2 := blk_setCell (i := i) h v
    rw [h, h2]
    congr 2
    obtain ⟨hlt, e⟩ := Array.getElem?_eq_some_iff.1 hi
    apply Array.ext
    · simp
    · intro j h1 h2
      rw [Array.getElem_setIfInBounds]
      split
      · rename_i e2; subst e2; exact e.symm
      · rfl
  · exact Below.heap_setCell _ _ _ _ e
theorem below_same {B : Nat} {w0 w : World} {g i : Nat} {cs : Array Value} {T : TypeId} {v : Value} (hb : Below B w0 w) (h : w.heap[g]? = some (.cells cs T (0, 0))) (hi : cs[i]? = some v) : Below B w0 (w.setCell ⟨g, i, none⟩ v) :=
  ⟨hb.os, hb.tape, hb.output, by have := hb.size; simp; exact this, fun k hk => (heap_same h hi k).trans (hb.block k hk)⟩
theorem own_same {base n g i : Nat} {T T2 : TypeId} {v u : Value} {xs : List Value} {w : World} {cs : Array Value} (h : w.ownsRow base T 1 v n xs) (hb : w.heap[g]? = some (.cells cs T2 (0, 0))) (hi : cs[i]? = some u) : (w.setCell ⟨g, i, none⟩ u).ownsRow base T 1 v n xs :=
  ⟨h.1, by
    rcases h.2 with h1 | ⟨q, cap, cur, h1, h2, h3, h4⟩
    · exact Or.inl h1
    · exact Or.inr ⟨q, cap, cur, h1, h2, (heap_same hb hi q).trans h3, h4⟩⟩
set_option maxRecDepth 100000 in
theorem of_none (W0 w : World) (h0 : Below W0.heap.size W0 w) (fb fo : Nat) (f : FuncD) (vc vb : Value) (c2 : w.cell? ⟨fb, fo + 2, none⟩ = some vc) (c5 : w.cell? ⟨fb, fo + 5, none⟩ = some vb) (R : Nat) (c3 : w.cell? ⟨fb, fo + 3, none⟩ = some (.int .i64 (R : Nat)))
    (hc : SlR W0 1 BoolR vc f.secret) (hb : SlR W0 9 (BlockR W0) vb f.blocks) (n : Nat) (hn : n = f.blocks.length) (h0n : 0 < n) (hn6 : n ≤ 1000000) (hR6 : R ≤ 1000000) (hnx : ∀ i k, i < n → k ∈ nxF f i → 0 ≤ k ∧ k < n)
    (hslim : ∀ b ∈ f.blocks, ∀ x ∈ b.ins, x.args.length ≤ 1000000) (hdst : ∀ b ∈ f.blocks, ∀ x ∈ b.ins, x.dst < R) (hsl : f.secret.length ≤ R) (hil6 : ∀ b ∈ f.blocks, b.ins.length ≤ 1000000)
    (hs1 : ∀ i : Nat, f.secret[i]? ≠ some true) (hs2 : ∀ b ∈ f.blocks, ∀ x ∈ b.ins, x.secret = false) :
    Calls Try.prog 8 #[.pointer (some ⟨fb, fo, none⟩)] w fun e w' => ∃ v1 v2, e = .returned (.agg #[v1, v2, .bool false]) ∧ Below w.heap.size w w' := by
  have HSO := Lib.hid (fun (w' : World) (h : Below w.heap.size w w') => solve_any W0 w' (h0.trans (h.mono h0.size)) fb fo f vc vb (later c2 h) (later c5 h) R (later c3 h) hc hb n hn h0n hn6 hR6 hnx hslim hdst hsl)
  obtain ⟨A1, cap1, rfl, _, m4, hi1⟩ := hc
  obtain ⟨A, cap, rfl, _, m3, hi⟩ := hb
  have HI := Lib.hid hi
  have HI1 := Lib.hid hi1
  have H0 := Lib.hid h0
  have HN := Lib.hid hn
  have HSl := Lib.hid hslim
  have HDs := Lib.hid hdst
  have HIL := Lib.hid hil6
  have HZ1 := Lib.hid hs1
  have HZ2 := Lib.hid hs2
  have C5 := Lib.hid c5
  have C2 := Lib.hid c2
  have hfl : fb < w.heap.size := World.block_lt_of_cell? _ _ c3
  have HFL := Lib.hid hfl
  rw [← hn] at c5 C5
  have d1 : ((n : Int) == 0) = false := by simp; omega
  have hsl9 : f.secret.length ≤ 1000000 := by omega
  clear hi hi1 hnx h0 hn m3 m4 hslim hdst hsl hil6 hs1 hs2 c3
  go_enter Try.func8, Try.ntmps8
  go_wp2_with fail
  obtain ⟨w1, hw1⟩ : ∃ z, z = (w.alloc (.cells #[.slice none 0 0, .slice none 0 0, .bool false] 43)).alloc (.cells #[.slice none 0 0, .slice none 0 0, .bool false] 43) := ⟨_, rfl⟩
  have HRS := Lib.hid (show w1.heap[w.heap.size]? = some (.cells #[.slice none 0 0, .slice none 0 0, .bool false] 43 (0, 0)) by rw [hw1]; exact blk_alloc (blk_new w _) _)
  have HMS := Lib.hid (show w1.heap[w.heap.size + 1]? = some (.cells #[.slice none 0 0, .slice none 0 0, .bool false] 43 (0, 0)) by rw [hw1]; exact blk_new' (by simp))
  have HB1 := Lib.hid (show Below w.heap.size w w1 by rw [hw1]; exact below_alloc _ (below_alloc _ (Below.refl _ _)))
  rw [← hw1]
  clear hw1 c2 c5 d1 hfl
  go_loopw [26] (fun i wr => ∃ j : Nat, j ≤ f.secret.length ∧ i = .int .i64 j ∧ wr.heap[w.heap.size]? = some (.cells #[.slice none 0 0, .slice none 0 0, .bool false] 43 (0, 0)) ∧ wr.heap[w.heap.size + 1]? = some (.cells #[.slice none 0 0, .slice none 0 0, .bool false] 43 (0, 0)) ∧ Below w.heap.size w wr) (fun i _ => f.secret.length - (intOf i).toNat)
  case atStart => exact ⟨0, by omega, rfl, HRS.out, HMS.out, HB1.out⟩
  case round =>
    obtain ⟨j, hj, rfl, hr, hm, hb⟩ := hrel
    have HR2 := Lib.hid hr
    have HM2 := Lib.hid hm
    have HB2 := Lib.hid hb
    have c2 := later C2.out hb
    have c5 := later C5.out hb
    have lfb := World.block_lt_of_cell? _ _ c2
    have m2 : wr.cell? ⟨w.heap.size + 1, 2, none⟩ = some (.bool false) := blk_cell hm rfl
    have m3 := blk_free (i := 2) hm
    have m4 := blk_lt hm
    clear hr hm hb
    by_cases hltj : j < f.secret.length
    · obtain ⟨b, hbj⟩ : ∃ b, f.secret[j]? = some b := ⟨_, List.getElem?_eq_getElem hltj⟩
      obtain ⟨lb, lo, cs, rfl, e1, e2, e3⟩ := HI1.out j b hbj
      have e3' : cs = [.bool b] := e3
      subst e3'
      cases b with
      | true => exact absurd hbj (HZ1.out j)
      | false =>
        have r0 := later (e2 0 (by omega)) (H0.out.trans (HB2.out.mono H0.out.size))
        rw [Nat.add_zero, Nat.mul_one] at r0
        have lr0 := World.block_lt_of_cell? _ _ r0
        clear e1 e2 hbj e3
        have N1 := Lib.hid (show (wr.setCell ⟨w.heap.size + 1, 2, none⟩ (.bool false)).heap[w.heap.size]? = _ from blk_set HR2.out (by simp) _)
        have N2 := Lib.hid (show (wr.setCell ⟨w.heap.size + 1, 2, none⟩ (.bool false)).heap[w.heap.size + 1]? = some (.cells #[.slice none 0 0, .slice none 0 0, .bool false] 43 (0, 0)) from blk_setCell (i := 2) HM2.out _)
        have N3 := Lib.hid (Below.setCell HB2.out (p := ⟨w.heap.size + 1, 2, none⟩) (by simp) (.bool false))
        go_wp2_with fail
        go_roundw
        case rel => exact ⟨j + 1, by omega, by go_num, N1.out, N2.out, N3.out⟩
        case measure => simp [intOf]; omega
    · have e : j = f.secret.length := by omega
      subst e
      go_wp2_with fail
      clear c2 c5 lfb m2 m3 m4
      refine (HSO.out wr HB2.out).mono ?_
      rintro e w2 ⟨iv, vs, I, rfl, hT, hI, hD, hS⟩
      have HIV := Lib.hid hI
      have HKB := Lib.hid (show (R + 63) / 64 ≤ 1000000 by omega)
      have HRK := Lib.hid (show R ≤ 64 * ((R + 63) / 64) by omega)
      have HDD := Lib.hid (show ∀ b, b < n → ∀ x ∈ (blkF f b).ins, x.dst < 64 * (((R + 63) / 64 : Nat) : Int) ∧ x.secret = false from fun b hb x hx => by
        have hbl : b < f.blocks.length := by rw [← HN.out]; exact hb
        have e : blkF f b = f.blocks[b] := blkF_of (List.getElem?_eq_getElem hbl)
        rw [e] at hx
        have := HDs.out _ (List.getElem_mem hbl) x hx
        exact ⟨by omega, HZ2.out _ (List.getElem_mem hbl) x hx⟩)
      have HZZ := Lib.hid (show ∀ b, b < n → ∀ r, bitL (I b) r = false from fun b hb r => by
        cases hbit : bitL (I b) r with
        | false => rfl
        | true => exact absurd (hI.least (fun _ _ => false) (post_none HZ1.out (fun b hb x hx => (HDD.out b hb x hx).2)) b r hb hbit) (by simp))
      obtain ⟨gi, ci, hiv, _, _, hgi, _⟩ := own_form hT.ri h0n
      subst hiv
      have hbw := hT.below
      have HO0 := Lib.hid (show OfS w w2 wr.heap.size (w.heap.size + 2) n gi ci vs I (w.heap.size + 1) 0 (.slice none 0 0) (.slice none 0 0) [] [] from ⟨hT.rebase, blk_below HM2.out hbw, World.ownsRow_nil _ _ _ _, World.ownsRow_nil _ _ _ _, HB2.out.bt hbw⟩)
      have HR3 := Lib.hid (blk_below HR2.out hbw)
      have hgm : w.heap.size + 2 ≤ wr.heap.size := by have := blk_lt HM2.out; omega
      have hBs0 := hbw.size
      have c5 := later C5.out (HB2.out.bt hbw)
      have lfb := World.block_lt_of_cell? _ _ c5
      clear hT hI hD hS hgi HRK HSO hbw
      generalize (R + 63) / 64 = K at *
      go_wp2_with fail
      clear c5 lfb
      obtain ⟨Bs, hBs⟩ : ∃ z, z = wr.heap.size := ⟨_, rfl⟩
      rw [← hBs] at HO0 hgm hBs0
      clear hBs
      go_loopw [44] (fun i wr => ∃ (j : Nat) (v1 v2 : Value) (xs ys : List Value), j ≤ n ∧ i = .int .i64 j ∧ OfS w wr Bs (w.heap.size + 2) n gi ci vs I (w.heap.size + 1) j v1 v2 xs ys ∧ wr.heap[w.heap.size]? = some (.cells #[.slice none 0 0, .slice none 0 0, .bool false] 43 (0, 0)) ∧ Bs ≤ wr.heap.size) (fun i _ => n - (intOf i).toNat)
      case atStart => exact ⟨0, _, _, [], [], by omega, rfl, HO0.out, HR3.out, hBs0⟩
      case round =>
        rename World => wb
        obtain ⟨j, v1, v2, xs, ys, hj, rfl, hO, hR, hz⟩ := hrel
        have HO1 := Lib.hid hO
        have HR4 := Lib.hid hR
        clear hO hR HO0 HR3 hBs0
        by_cases hlt : j < n
        · obtain ⟨blk, hblk⟩ : ∃ b', f.blocks[j]? = some b' := ⟨_, List.getElem?_eq_getElem (by rw [← HN.out]; exact hlt)⟩
          have HBk := Lib.hid (blkF_of hblk)
          obtain ⟨bb, bo, cs, rfl, e1, e2, vi, e3, y1, y2, t1, t2, t3, t4, t5, t6, t7, t8⟩ := HI.out j blk hblk
          subst e3
          have H03 := H0.out.trans (HO1.out.below.mono H0.out.size)
          obtain ⟨A9, cap9, rfl, _, _, h9⟩ := id y1
          have H9 := Lib.hid h9
          have r0 := later (e2 0 (by omega)) H03
          have r1 := later (e2 1 (by omega)) H03
          have r2 := later (e2 2 (by omega)) H03
          have r3 := later (e2 3 (by omega)) H03
          have r4 := later (e2 4 (by omega)) H03
          have r5 := later (e2 5 (by omega)) H03
          have r6 := later (e2 6 (by omega)) H03
          have r7 := later (e2 7 (by omega)) H03
          have r8 := later (e2 8 (by omega)) H03
          rw [Nat.add_zero] at r0
          have lr0 := World.block_lt_of_cell? _ _ r0
          have HSb := Lib.hid (HSl.out blk (List.mem_of_getElem? hblk))
          have hil : blk.ins.length ≤ 1000000 := HIL.out blk (List.mem_of_getElem? hblk)
          have HTR := Lib.hid (And.intro t3 t5)
          have HDb := Lib.hid (show ∀ x ∈ blk.ins, x.dst < 64 * ((I j).length : Int) ∧ x.secret = false from fun x hx => by rw [HIV.out.len]; exact HDD.out j hlt x (by rw [HBk.out]; exact hx))
          have HZj := Lib.hid (HZZ.out j hlt)
          obtain ⟨u, hu, hsu⟩ := HO1.out.sets.si j hlt
          obtain ⟨cu, _, hgu⟩ := HO1.out.sets.cell hlt hu
          have HSU := Lib.hid hsu
          have hlu := HIV.out.len j
          obtain ⟨Au, ku, hue, _⟩ := hsu.slice_
          rw [hlu] at hue
          subst hue
          clear e1 e2 y1 y2 t1 t2 t3 t4 t5 t6 t7 t8 hblk H03 h9 hu hsu hlu
          go_wp2_with fail
          obtain ⟨w4, hw4⟩ : ∃ z, z = wb.alloc (.cells #[.slice A9 blk.ins.length cap9, .int .i64 blk.term.kind, .int .i64 blk.term.op, .int .i64 blk.term.a.reg, .int .i64 blk.term.a.num, .int .i64 blk.term.b.reg, .int .i64 blk.term.b.num, .int .i64 blk.term.to_, .int .i64 blk.term.els] 34) := ⟨_, rfl⟩
          have HBO := Lib.hid (show w4.heap[wb.heap.size]? = some (.cells #[.slice A9 blk.ins.length cap9, .int .i64 blk.term.kind, .int .i64 blk.term.op, .int .i64 blk.term.a.reg, .int .i64 blk.term.a.num, .int .i64 blk.term.b.reg, .int .i64 blk.term.b.num, .int .i64 blk.term.to_, .int .i64 blk.term.els] 34 (0, 0)) by rw [hw4]; exact blk_new wb _)
          have HB4 := Lib.hid (show Below wb.heap.size wb w4 by rw [hw4]; exact below_alloc _ (Below.refl _ _))
          have HO4 := Lib.hid (HO1.out.later hz HB4.out)
          have HR5 := Lib.hid (blk_below HR4.out HB4.out)
          have H04 := Lib.hid (H0.out.trans (HO4.out.below.mono H0.out.size))
          have hz4 : Bs ≤ w4.heap.size := Nat.le_trans hz HB4.out.size
          rw [← hw4]
          clear hw4
          obtain ⟨gb, hgb⟩ : ∃ z, wb.heap.size = z := ⟨_, rfl⟩
          rw [hgb] at HBO ⊢
          clear hgb
          refine (copy_any w4 Bs _ (I j) (set_below HSU.out HB4.out) (by rw [HIV.out.len]; exact HKB.out)).mono ?_
          rintro e w5 ⟨sv, rfl, hs5, hb5⟩
          have HB5 := Lib.hid hb5
          have HS5 := Lib.hid hs5
          have k0 : w5.cell? ⟨gb, 0, none⟩ = some (.slice A9 blk.ins.length cap9) := blk_cell (blk_below HBO.out hb5) rfl
          have lk0 := World.block_lt_of_cell? _ _ k0
          clear r0 r1 r2 r3 r4 r5 r6 r7 r8 lr0 hs5 hb5 cu hgu
          go_wp2_with fail
          clear k0 lk0
          go_loopw [10, 57] (fun l i wq => ∃ (q : Nat) (lv : Value) (zs : List Value), q ≤ blk.ins.length ∧ i = .int .i64 q ∧ lv = l ∧ wq.ownsRow w4.heap.size 4 1 lv q zs ∧ SetR wq w4.heap.size sv (stepsL (I j) (blk.ins.take q)) ∧ Below w4.heap.size w4 wq) (fun _ i _ => blk.ins.length - (intOf i).toNat)
          case atStart => exact ⟨0, .slice none 0 0, [], by omega, rfl, rfl, World.ownsRow_nil _ _ _ _, HS5.out, HB5.out⟩
          case round =>
            rename World => wq
            obtain ⟨q, lv, zs, hq, rfl, rfl, hl, hs, hb⟩ := hrel
            have HLQ := Lib.hid hl
            have HSQ := Lib.hid hs
            have HBQ := Lib.hid hb
            clear hl hs hb
            by_cases hltq : q < blk.ins.length
            · obtain ⟨x, hx⟩ : ∃ x, blk.ins[q]? = some x := ⟨_, List.getElem?_eq_getElem hltq⟩
              obtain ⟨ib, io, cs, rfl, e1, e2, va, e3, p1, p2, p3, p4, p5, p6, p7, p8, p9, p10, p11⟩ := H9.out q x hx
              subst e3
              have HST := Lib.hid (stepsL_take (l := I j) hx)
              have HSx := Lib.hid (HSb.out x (List.mem_of_getElem? hx))
              have HZT := Lib.hid (fun (r : Nat) => bits_none HZj.out (blk.ins.take (q + 1)) (fun x hx => (HDb.out x (List.mem_of_mem_take hx)).2) (fun x hx => (HDb.out x (List.mem_of_mem_take hx)).1) r)
              have HZQ := Lib.hid (fun (r : Nat) => bits_none HZj.out (blk.ins.take q) (fun x hx => (HDb.out x (List.mem_of_mem_take hx)).2) (fun x hx => (HDb.out x (List.mem_of_mem_take hx)).1) r)
              have HBq := Lib.hid (H04.out.trans (HBQ.out.mono H04.out.size))
              have r0 := later (e2 0 (by omega)) HBq.out
              have r1 := later (e2 1 (by omega)) HBq.out
              have r2 := later (e2 2 (by omega)) HBq.out
              have r3 := later (e2 3 (by omega)) HBq.out
              have r4 := later (e2 4 (by omega)) HBq.out
              have r5 := later (e2 5 (by omega)) HBq.out
              have r6 := later (e2 6 (by omega)) HBq.out
              have r7 := later (e2 7 (by omega)) HBq.out
              have r8 := later (e2 8 (by omega)) HBq.out
              have r9 := later (e2 9 (by omega)) HBq.out
              have r10 := later (e2 10 (by omega)) HBq.out
              have r11 := later (e2 11 (by omega)) HBq.out
              rw [Nat.add_zero] at r0
              have lr0 := World.block_lt_of_cell? _ _ r0
              obtain ⟨Ax, capx, rfl, _, _, _⟩ := id p10
              obtain ⟨i0, hti, hz0, hz1, hz2⟩ := info_parts Try.infoB
              have HAL := Lib.hid (below_alloc (.cells #[.int .i64 x.op, .int .i64 x.dst, .int .i64 x.a.reg, .int .i64 x.a.num, .int .i64 x.b.reg, .int .i64 x.b.num, .int .i64 x.size, .bool x.signed, .bool x.secret, .int .i64 x.ref, .int .i64 x.off, .slice Ax x.args.length capx] 29) (Below.refl wq.heap.size wq))
              have HIB := Lib.hid (blk_new wq (.cells #[.int .i64 x.op, .int .i64 x.dst, .int .i64 x.a.reg, .int .i64 x.a.num, .int .i64 x.b.reg, .int .i64 x.b.num, .int .i64 x.size, .bool x.signed, .bool x.secret, .int .i64 x.ref, .int .i64 x.off, .slice Ax x.args.length capx] 29))
              have PX := Lib.hid (And.intro p1 (And.intro p2 (And.intro (And.intro p3 p4) (And.intro (And.intro p5 p6) p10))))
              have hkc : x.op = 26 ∨ x.op = 27 ∨ x.op = 29 ∨ ((x.op == 26) = false ∧ (x.op == 27) = false ∧ (x.op == 29) = false) := by simp only [beq_eq_false_iff_ne, ne_eq]; omega
              clear e1 e2 hx p1 p2 p3 p4 p5 p6 p7 p8 p9 p10 p11
              rcases hkc with k | k | k | ⟨k1, k2, k3⟩
              · have b1 : (x.op == 26) = true := by simp [k]
                clear k
                go_wp2_with fail
                refine (arg_any _ w4.heap.size sv _ x.a (set_below HSQ.out HAL.out) PX.out.2.2.1.1).mono ?_
                rintro e w7 ⟨rfl, hb7⟩
                rw [has_none (fun r => HZQ.out r)]
                have HB7 := Lib.hid (HAL.out.bt hb7)
                have HL7 := Lib.hid (own_below HLQ.out HB7.out)
                have HS7 := Lib.hid (set_below HSQ.out HB7.out)
                have HI7 := Lib.hid (blk_below HIB.out hb7)
                have HW7 := Lib.hid (HBQ.out.bt HB7.out)
                clear hb7
                obtain ⟨v', w8, hr8, ho8, hg8, hmv⟩ := append_one (P := Try.prog) (w := w7) w4.heap.size 23 4 i0 _ 1 Try.underlying23 hti hz0 hz1 hz2 rfl lv q zs HL7.out (.bool false) w7.heap.size rfl rfl (by unfold maxLen; omega) (by omega) HW7.out.size
                obtain ⟨Al8, cl8, hv8, _⟩ := own_slice ho8
                subst hv8
                have HO8 := Lib.hid ho8
                have HS8 := Lib.hid (own_kept HS7.out hg8 (apart_symm (own_ne HL7.out (HS7.out).1 (by decide))))
                have HIB8 := Lib.hid (blk_kept HI7.out hg8 (own_blk HL7.out HI7.out (by decide)))
                have HB8 := Lib.hid (below_of_grown HW7.out (Nat.le_refl _) hg8 (fun k hk => ((HL7.out).lt k hk).1))
                have s0 := blk_cell (i := 0) HIB8.out rfl
                have s1 := blk_cell (i := 1) HIB8.out rfl
                have s2 := blk_cell (i := 2) HIB8.out rfl
                have s3 := blk_cell (i := 3) HIB8.out rfl
                have s4 := blk_cell (i := 4) HIB8.out rfl
                have s5 := blk_cell (i := 5) HIB8.out rfl
                have s6 := blk_cell (i := 6) HIB8.out rfl
                have s7 := blk_cell (i := 7) HIB8.out rfl
                have s8 := blk_cell (i := 8) HIB8.out rfl
                have s9 := blk_cell (i := 9) HIB8.out rfl
                have s10 := blk_cell (i := 10) HIB8.out rfl
                have s11 := blk_cell (i := 11) HIB8.out rfl
                have sl := blk_lt HIB8.out
                have HCA := Lib.hid (step_any w8 w4.heap.size sv (.slice Ax x.args.length capx) _ x HS8.out PX.out.1 PX.out.2.1 PX.out.2.2.1 PX.out.2.2.2.1 ((PX.out.2.2.2.2.later (by decide) (H04.out)).later (by decide) HB8.out) HSx.out)
                clear ho8 hg8 hmv r0 r1 r2 r3 r4 r5 r6 r7 r8 r9 r10 r11 lr0
                go_wp2_with (at_builtin; refine wpList_append_run' _ rfl _ _ _ rfl _ _ _ _ rfl rfl hr8 ?_)
                clear s0 s1 s2 s3 s4 s5 s6 s7 s8 s9 s10 s11 sl hr8
                refine HCA.out.mono ?_
                rintro e w9 ⟨rfl, hs9, hg9⟩
                have HS9 := Lib.hid (show SetR w9 w4.heap.size sv (stepsL (I j) (blk.ins.take (q + 1))) by rw [HST.out]; exact hs9)
                have HO9 := Lib.hid (World.ownsRow.kept HO8.out hg9 (own_ne HO8.out HS8.out.1 (by decide)))
                have HB9 := Lib.hid (below_of_grown HB8.out (Nat.le_refl _) hg9 (fun k hk => (HS8.out.1.lt k hk).1))
                have HIB9 := Lib.hid (blk_kept HIB8.out hg9 (own_blk HS8.out.1 HIB8.out (by decide)))
                have HM9 := Lib.hid (blk_below HO4.out.m HB9.out)
                have c1 := blk_cell (i := 1) HIB9.out rfl
                have cl := blk_lt HIB9.out
                have m2 := blk_cell (i := 2) HM9.out rfl
                have m3 := blk_free (i := 2) HM9.out
                have m4 := blk_lt HM9.out
                have HHB := Lib.hid (has_any w9 w4.heap.size sv _ x.dst HS9.out PX.out.2.1.2)
                clear hs9 hg9 HCA
                go_wp2_with fail
                refine HHB.out.mono ?_
                rintro e w10 ⟨rfl, rfl⟩
                rw [has_none (fun r => HZT.out r)]
                have N1 := Lib.hid (own_same (u := .bool false) HO9.out HM9.out (i := 2) rfl)
                have N2 := Lib.hid (show SetR (w9.setCell ⟨w.heap.size + 1, 2, none⟩ (.bool false)) w4.heap.size sv (stepsL (I j) (blk.ins.take (q + 1))) from ⟨own_same (u := .bool false) HS9.out.1 HM9.out (i := 2) rfl, HS9.out.2⟩)
                have N3 := Lib.hid (below_same (v := .bool false) HB9.out HM9.out (i := 2) rfl)
                go_wp2_with fail
                go_roundw
                case rel => exact ⟨q + 1, _, _, by omega, by go_num, rfl, N1.out, N2.out, N3.out⟩
                case measure => simp [intOf]; omega
              · have b1 : (x.op == 26) = false := by simp [k]
                have b2 : (x.op == 27) = true := by simp [k]
                clear k
                go_wp2_with fail
                refine (arg_any _ w4.heap.size sv _ x.a (set_below HSQ.out HAL.out) PX.out.2.2.1.1).mono ?_
                rintro e w7 ⟨rfl, hb7⟩
                rw [has_none (fun r => HZQ.out r)]
                have HB7 := Lib.hid (HAL.out.bt hb7)
                have HL7 := Lib.hid (own_below HLQ.out HB7.out)
                have HS7 := Lib.hid (set_below HSQ.out HB7.out)
                have HI7 := Lib.hid (blk_below HIB.out hb7)
                have HW7 := Lib.hid (HBQ.out.bt HB7.out)
                clear hb7
                obtain ⟨v', w8, hr8, ho8, hg8, hmv⟩ := append_one (P := Try.prog) (w := w7) w4.heap.size 23 4 i0 _ 1 Try.underlying23 hti hz0 hz1 hz2 rfl lv q zs HL7.out (.bool false) w7.heap.size rfl rfl (by unfold maxLen; omega) (by omega) HW7.out.size
                obtain ⟨Al8, cl8, hv8, _⟩ := own_slice ho8
                subst hv8
                have HO8 := Lib.hid ho8
                have HS8 := Lib.hid (own_kept HS7.out hg8 (apart_symm (own_ne HL7.out (HS7.out).1 (by decide))))
                have HIB8 := Lib.hid (blk_kept HI7.out hg8 (own_blk HL7.out HI7.out (by decide)))
                have HB8 := Lib.hid (below_of_grown HW7.out (Nat.le_refl _) hg8 (fun k hk => ((HL7.out).lt k hk).1))
                have s0 := blk_cell (i := 0) HIB8.out rfl
                have s1 := blk_cell (i := 1) HIB8.out rfl
                have s2 := blk_cell (i := 2) HIB8.out rfl
                have s3 := blk_cell (i := 3) HIB8.out rfl
                have s4 := blk_cell (i := 4) HIB8.out rfl
                have s5 := blk_cell (i := 5) HIB8.out rfl
                have s6 := blk_cell (i := 6) HIB8.out rfl
                have s7 := blk_cell (i := 7) HIB8.out rfl
                have s8 := blk_cell (i := 8) HIB8.out rfl
                have s9 := blk_cell (i := 9) HIB8.out rfl
                have s10 := blk_cell (i := 10) HIB8.out rfl
                have s11 := blk_cell (i := 11) HIB8.out rfl
                have sl := blk_lt HIB8.out
                have HCA := Lib.hid (step_any w8 w4.heap.size sv (.slice Ax x.args.length capx) _ x HS8.out PX.out.1 PX.out.2.1 PX.out.2.2.1 PX.out.2.2.2.1 ((PX.out.2.2.2.2.later (by decide) (H04.out)).later (by decide) HB8.out) HSx.out)
                clear ho8 hg8 hmv r0 r1 r2 r3 r4 r5 r6 r7 r8 r9 r10 r11 lr0
                go_wp2_with (at_builtin; refine wpList_append_run' _ rfl _ _ _ rfl _ _ _ _ rfl rfl hr8 ?_)
                clear s0 s1 s2 s3 s4 s5 s6 s7 s8 s9 s10 s11 sl hr8
                refine HCA.out.mono ?_
                rintro e w9 ⟨rfl, hs9, hg9⟩
                have HS9 := Lib.hid (show SetR w9 w4.heap.size sv (stepsL (I j) (blk.ins.take (q + 1))) by rw [HST.out]; exact hs9)
                have HO9 := Lib.hid (World.ownsRow.kept HO8.out hg9 (own_ne HO8.out HS8.out.1 (by decide)))
                have HB9 := Lib.hid (below_of_grown HB8.out (Nat.le_refl _) hg9 (fun k hk => (HS8.out.1.lt k hk).1))
                have HIB9 := Lib.hid (blk_kept HIB8.out hg9 (own_blk HS8.out.1 HIB8.out (by decide)))
                have HM9 := Lib.hid (blk_below HO4.out.m HB9.out)
                have c1 := blk_cell (i := 1) HIB9.out rfl
                have cl := blk_lt HIB9.out
                have m2 := blk_cell (i := 2) HM9.out rfl
                have m3 := blk_free (i := 2) HM9.out
                have m4 := blk_lt HM9.out
                have HHB := Lib.hid (has_any w9 w4.heap.size sv _ x.dst HS9.out PX.out.2.1.2)
                clear hs9 hg9 HCA
                go_wp2_with fail
                refine HHB.out.mono ?_
                rintro e w10 ⟨rfl, rfl⟩
                rw [has_none (fun r => HZT.out r)]
                have N1 := Lib.hid (own_same (u := .bool false) HO9.out HM9.out (i := 2) rfl)
                have N2 := Lib.hid (show SetR (w9.setCell ⟨w.heap.size + 1, 2, none⟩ (.bool false)) w4.heap.size sv (stepsL (I j) (blk.ins.take (q + 1))) from ⟨own_same (u := .bool false) HS9.out.1 HM9.out (i := 2) rfl, HS9.out.2⟩)
                have N3 := Lib.hid (below_same (v := .bool false) HB9.out HM9.out (i := 2) rfl)
                go_wp2_with fail
                go_roundw
                case rel => exact ⟨q + 1, _, _, by omega, by go_num, rfl, N1.out, N2.out, N3.out⟩
                case measure => simp [intOf]; omega
              · have b1 : (x.op == 26) = false := by simp [k]
                have b2 : (x.op == 27) = false := by simp [k]
                have b3 : (x.op == 29) = true := by simp [k]
                clear k
                go_wp2_with fail
                refine (arg_any _ w4.heap.size sv _ x.a (set_below HSQ.out HAL.out) PX.out.2.2.1.1).mono ?_
                rintro e w7 ⟨rfl, hb7⟩
                rw [has_none (fun r => HZQ.out r)]
                have HB7 := Lib.hid (HAL.out.bt hb7)
                have HL7 := Lib.hid (own_below HLQ.out HB7.out)
                have HS7 := Lib.hid (set_below HSQ.out HB7.out)
                have HI7 := Lib.hid (blk_below HIB.out hb7)
                have HW7 := Lib.hid (HBQ.out.bt HB7.out)
                clear hb7
                obtain ⟨v', w8, hr8, ho8, hg8, hmv⟩ := append_one (P := Try.prog) (w := w7) w4.heap.size 23 4 i0 _ 1 Try.underlying23 hti hz0 hz1 hz2 rfl lv q zs HL7.out (.bool false) w7.heap.size rfl rfl (by unfold maxLen; omega) (by omega) HW7.out.size
                obtain ⟨Al8, cl8, hv8, _⟩ := own_slice ho8
                subst hv8
                have HO8 := Lib.hid ho8
                have HS8 := Lib.hid (own_kept HS7.out hg8 (apart_symm (own_ne HL7.out (HS7.out).1 (by decide))))
                have HIB8 := Lib.hid (blk_kept HI7.out hg8 (own_blk HL7.out HI7.out (by decide)))
                have HB8 := Lib.hid (below_of_grown HW7.out (Nat.le_refl _) hg8 (fun k hk => ((HL7.out).lt k hk).1))
                have s0 := blk_cell (i := 0) HIB8.out rfl
                have s1 := blk_cell (i := 1) HIB8.out rfl
                have s2 := blk_cell (i := 2) HIB8.out rfl
                have s3 := blk_cell (i := 3) HIB8.out rfl
                have s4 := blk_cell (i := 4) HIB8.out rfl
                have s5 := blk_cell (i := 5) HIB8.out rfl
                have s6 := blk_cell (i := 6) HIB8.out rfl
                have s7 := blk_cell (i := 7) HIB8.out rfl
                have s8 := blk_cell (i := 8) HIB8.out rfl
                have s9 := blk_cell (i := 9) HIB8.out rfl
                have s10 := blk_cell (i := 10) HIB8.out rfl
                have s11 := blk_cell (i := 11) HIB8.out rfl
                have sl := blk_lt HIB8.out
                have HCA := Lib.hid (step_any w8 w4.heap.size sv (.slice Ax x.args.length capx) _ x HS8.out PX.out.1 PX.out.2.1 PX.out.2.2.1 PX.out.2.2.2.1 ((PX.out.2.2.2.2.later (by decide) (H04.out)).later (by decide) HB8.out) HSx.out)
                clear ho8 hg8 hmv r0 r1 r2 r3 r4 r5 r6 r7 r8 r9 r10 r11 lr0
                go_wp2_with (at_builtin; refine wpList_append_run' _ rfl _ _ _ rfl _ _ _ _ rfl rfl hr8 ?_)
                clear s0 s1 s2 s3 s4 s5 s6 s7 s8 s9 s10 s11 sl hr8
                refine HCA.out.mono ?_
                rintro e w9 ⟨rfl, hs9, hg9⟩
                have HS9 := Lib.hid (show SetR w9 w4.heap.size sv (stepsL (I j) (blk.ins.take (q + 1))) by rw [HST.out]; exact hs9)
                have HO9 := Lib.hid (World.ownsRow.kept HO8.out hg9 (own_ne HO8.out HS8.out.1 (by decide)))
                have HB9 := Lib.hid (below_of_grown HB8.out (Nat.le_refl _) hg9 (fun k hk => (HS8.out.1.lt k hk).1))
                have HIB9 := Lib.hid (blk_kept HIB8.out hg9 (own_blk HS8.out.1 HIB8.out (by decide)))
                have HM9 := Lib.hid (blk_below HO4.out.m HB9.out)
                have c1 := blk_cell (i := 1) HIB9.out rfl
                have cl := blk_lt HIB9.out
                have m2 := blk_cell (i := 2) HM9.out rfl
                have m3 := blk_free (i := 2) HM9.out
                have m4 := blk_lt HM9.out
                have HHB := Lib.hid (has_any w9 w4.heap.size sv _ x.dst HS9.out PX.out.2.1.2)
                clear hs9 hg9 HCA
                go_wp2_with fail
                refine HHB.out.mono ?_
                rintro e w10 ⟨rfl, rfl⟩
                rw [has_none (fun r => HZT.out r)]
                have N1 := Lib.hid (own_same (u := .bool false) HO9.out HM9.out (i := 2) rfl)
                have N2 := Lib.hid (show SetR (w9.setCell ⟨w.heap.size + 1, 2, none⟩ (.bool false)) w4.heap.size sv (stepsL (I j) (blk.ins.take (q + 1))) from ⟨own_same (u := .bool false) HS9.out.1 HM9.out (i := 2) rfl, HS9.out.2⟩)
                have N3 := Lib.hid (below_same (v := .bool false) HB9.out HM9.out (i := 2) rfl)
                go_wp2_with fail
                go_roundw
                case rel => exact ⟨q + 1, _, _, by omega, by go_num, rfl, N1.out, N2.out, N3.out⟩
                case measure => simp [intOf]; omega
              · obtain ⟨w7, hw7⟩ : ∃ z, z = wq.alloc (.cells #[.int .i64 x.op, .int .i64 x.dst, .int .i64 x.a.reg, .int .i64 x.a.num, .int .i64 x.b.reg, .int .i64 x.b.num, .int .i64 x.size, .bool x.signed, .bool x.secret, .int .i64 x.ref, .int .i64 x.off, .slice Ax x.args.length capx] 29) := ⟨_, rfl⟩
                have HW70 := Lib.hid hw7
                rw [← hw7] at HAL HIB
                clear hw7
                have HL7 := Lib.hid (own_below HLQ.out HAL.out)
                have HS7 := Lib.hid (set_below HSQ.out HAL.out)
                have HW7 := Lib.hid (HBQ.out.bt HAL.out)
                obtain ⟨v', w8, hr8, ho8, hg8, hmv⟩ := append_one (P := Try.prog) (w := w7) w4.heap.size 23 4 i0 _ 1 Try.underlying23 hti hz0 hz1 hz2 rfl lv q zs HL7.out (.bool false) w7.heap.size rfl rfl (by unfold maxLen; omega) (by omega) HW7.out.size
                obtain ⟨Al8, cl8, hv8, _⟩ := own_slice ho8
                subst hv8
                have HO8 := Lib.hid ho8
                have HS8 := Lib.hid (own_kept HS7.out hg8 (apart_symm (own_ne HL7.out (HS7.out).1 (by decide))))
                have HIB8 := Lib.hid (blk_kept HIB.out hg8 (own_blk HL7.out HIB.out (by decide)))
                have HB8 := Lib.hid (below_of_grown HW7.out (Nat.le_refl _) hg8 (fun k hk => ((HL7.out).lt k hk).1))
                have s0 := blk_cell (i := 0) HIB8.out rfl
                have s1 := blk_cell (i := 1) HIB8.out rfl
                have s2 := blk_cell (i := 2) HIB8.out rfl
                have s3 := blk_cell (i := 3) HIB8.out rfl
                have s4 := blk_cell (i := 4) HIB8.out rfl
                have s5 := blk_cell (i := 5) HIB8.out rfl
                have s6 := blk_cell (i := 6) HIB8.out rfl
                have s7 := blk_cell (i := 7) HIB8.out rfl
                have s8 := blk_cell (i := 8) HIB8.out rfl
                have s9 := blk_cell (i := 9) HIB8.out rfl
                have s10 := blk_cell (i := 10) HIB8.out rfl
                have s11 := blk_cell (i := 11) HIB8.out rfl
                have sl := blk_lt HIB8.out
                have HCA := Lib.hid (step_any w8 w4.heap.size sv (.slice Ax x.args.length capx) _ x HS8.out PX.out.1 PX.out.2.1 PX.out.2.2.1 PX.out.2.2.2.1 ((PX.out.2.2.2.2.later (by decide) (H04.out)).later (by decide) HB8.out) HSx.out)
                clear ho8 hg8 hmv
                rw [HW70.out] at hr8
                rw [show (wq.alloc (.cells #[.int .i64 x.op, .int .i64 x.dst, .int .i64 x.a.reg, .int .i64 x.a.num, .int .i64 x.b.reg, .int .i64 x.b.num, .int .i64 x.size, .bool x.signed, .bool x.secret, .int .i64 x.ref, .int .i64 x.off, .slice Ax x.args.length capx] 29)).heap.size = wq.heap.size + 1 by simp] at hr8
                go_wp2_with (at_builtin; refine wpList_append_run' _ rfl _ _ _ rfl _ _ _ _ rfl rfl hr8 ?_)
                clear s0 s1 s2 s3 s4 s5 s6 s7 s8 s9 s10 s11 sl hr8 r0 r1 r2 r3 r4 r5 r6 r7 r8 r9 r10 r11 lr0
                refine HCA.out.mono ?_
                rintro e w9 ⟨rfl, hs9, hg9⟩
                have HS9 := Lib.hid (show SetR w9 w4.heap.size sv (stepsL (I j) (blk.ins.take (q + 1))) by rw [HST.out]; exact hs9)
                have HO9 := Lib.hid (World.ownsRow.kept HO8.out hg9 (own_ne HO8.out HS8.out.1 (by decide)))
                have HB9 := Lib.hid (below_of_grown HB8.out (Nat.le_refl _) hg9 (fun k hk => (HS8.out.1.lt k hk).1))
                have HIB9 := Lib.hid (blk_kept HIB8.out hg9 (own_blk HS8.out.1 HIB8.out (by decide)))
                have HM9 := Lib.hid (blk_below HO4.out.m HB9.out)
                have c1 := blk_cell (i := 1) HIB9.out rfl
                have cl := blk_lt HIB9.out
                have m2 := blk_cell (i := 2) HM9.out rfl
                have m3 := blk_free (i := 2) HM9.out
                have m4 := blk_lt HM9.out
                have HHB := Lib.hid (has_any w9 w4.heap.size sv _ x.dst HS9.out PX.out.2.1.2)
                clear hs9 hg9 HCA
                go_wp2_with fail
                refine HHB.out.mono ?_
                rintro e w10 ⟨rfl, rfl⟩
                rw [has_none (fun r => HZT.out r)]
                have N1 := Lib.hid (own_same (u := .bool false) HO9.out HM9.out (i := 2) rfl)
                have N2 := Lib.hid (show SetR (w9.setCell ⟨w.heap.size + 1, 2, none⟩ (.bool false)) w4.heap.size sv (stepsL (I j) (blk.ins.take (q + 1))) from ⟨own_same (u := .bool false) HS9.out.1 HM9.out (i := 2) rfl, HS9.out.2⟩)
                have N3 := Lib.hid (below_same (v := .bool false) HB9.out HM9.out (i := 2) rfl)
                go_wp2_with fail
                go_roundw
                case rel => exact ⟨q + 1, _, _, by omega, by go_num, rfl, N1.out, N2.out, N3.out⟩
                case measure => simp [intOf]; omega
            · have e : q = blk.ins.length := by omega
              subst e
              rw [List.take_length] at HSQ
              obtain ⟨Al, cl, hlv, _⟩ := own_slice HLQ.out
              subst hlv
              have hzq : Bs ≤ wq.heap.size := Nat.le_trans hz4 HBQ.out.size
              have HOQ := Lib.hid (HO4.out.later hz4 HBQ.out)
              have HGQ := Lib.hid (blk_below HBO.out HBQ.out)
              have HRQ := Lib.hid (blk_below HR5.out HBQ.out)
              have m0 : wq.cell? ⟨w.heap.size + 1, 0, none⟩ = some v1 := blk_cell HOQ.out.m rfl
              have ml := blk_lt HOQ.out.m
              obtain ⟨v1', w6, hr6, c6, f6, l6, ⟨A6, m6, k6, rfl⟩, hkeep, hg6, W, hW, hTS, hM, hr1, hr2, hbel⟩ := HOQ.out.addIns (by omega) (by omega) (by omega) (by omega) (.slice Al blk.ins.length cl) rfl
              have hgbm : wb.heap.size = wb.heap.size := rfl
              have HG6 := Lib.hid (hkeep _ _ _ (by decide) HGQ.out)
              have HM6 := Lib.hid (hkeep _ _ _ (by decide) HOQ.out.m)
              have HR6 := Lib.hid (hkeep _ _ _ (by decide) HRQ.out)
              have hne : gb ≠ w.heap.size + 1 := by
                intro e
                have h1 := HG6.out
                have h2 := HM6.out
                rw [e, h2] at h1
                simp at h1
              have HGW := Lib.hid (show W.heap[gb]? = some (.cells #[.slice A9 blk.ins.length cap9, .int .i64 blk.term.kind, .int .i64 blk.term.op, .int .i64 blk.term.a.reg, .int .i64 blk.term.a.num, .int .i64 blk.term.b.reg, .int .i64 blk.term.b.num, .int .i64 blk.term.to_, .int .i64 blk.term.els] 34 (0, 0)) by rw [hW]; exact blk_set HG6.out (p := ⟨w.heap.size + 1, 0, none⟩) hne _)
              have HRW := Lib.hid (show W.heap[w.heap.size]? = some (.cells #[.slice none 0 0, .slice none 0 0, .bool false] 43 (0, 0)) by rw [hW]; exact blk_set HR6.out (p := ⟨w.heap.size + 1, 0, none⟩) (by simp) _)
              have HSW := Lib.hid (show SetR W w4.heap.size sv (stepsL (I j) blk.ins) by
                have k1 := own_kept HSQ.out hg6 (own_ne HSQ.out.1 HOQ.out.r1 (by decide))
                rw [hW]
                exact own_kept k1 (grownBy_setCell w6 (w.heap.size + 1) 0 _) (own_blk k1.1 HM6.out (by decide)))
              have hzW : wq.heap.size ≤ W.heap.size := by rw [hW]; simp; exact hg6.size
              have HADD := Lib.hid (fun (Wx : World) (hb : Below W.heap.size W Wx) => OfS.addEnd (w0 := w) (W := W) (Bs := Bs) ((hTS.more (by omega) hb).rebase) (blk_below hM hb) (own_below hr1 hb) (own_below hr2 hb) (hbel.bt hb) (by omega) (by omega) (by omega) (by have := hb.size; omega) (.bool false) rfl)
              have HMW := Lib.hid hM
              have HWW := Lib.hid hW
              have HZA := Lib.hid (fun (r : Nat) => bits_none HZj.out blk.ins (fun x hx => (HDb.out x hx).2) (fun x hx => (HDb.out x hx).1) r)
              clear hkeep hg6 hW hTS hM hr1 hr2 hbel hne hgbm
              go_wp2_with (at_builtin; refine wpList_append_run' _ rfl _ _ _ rfl _ _ _ _ rfl rfl hr6 ?_)
              rw [← HWW.out]
              clear m0 ml c6 f6 l6 hr6
              have t1 := blk_cell (i := 1) HGW.out rfl
              have t2 := blk_cell (i := 2) HGW.out rfl
              have t3 := blk_cell (i := 3) HGW.out rfl
              have t4 := blk_cell (i := 4) HGW.out rfl
              have t5 := blk_cell (i := 5) HGW.out rfl
              have t6 := blk_cell (i := 6) HGW.out rfl
              have t7 := blk_cell (i := 7) HGW.out rfl
              have t8 := blk_cell (i := 8) HGW.out rfl
              have tl := blk_lt HGW.out
              have n1 : W.cell? ⟨w.heap.size + 1, 1, none⟩ = some v2 := blk_cell HMW.out rfl
              have nl := blk_lt HMW.out
              have hk2 : blk.term.kind = 2 ∨ blk.term.kind ≠ 2 := by omega
              rcases hk2 with hk2 | hk2
              · have b1 : (blk.term.kind == 2) = true := by simpa using hk2
                clear hk2
                have HAa := Lib.hid (fun (Wx : World) (hb : Below W.heap.size W Wx) => arg_any Wx w4.heap.size sv _ blk.term.a (set_below HSW.out hb) HTR.out.1)
                have HAb := Lib.hid (fun (Wx : World) (hb : Below W.heap.size W Wx) => arg_any Wx w4.heap.size sv _ blk.term.b (set_below HSW.out hb) HTR.out.2)
                refine upto_begin 23 (fun w' => w'.cell? ⟨w.heap.size + 1, 1, none⟩ = some (v2) ∧ w'.cell? ⟨gb, 1, none⟩ = some (.int .i64 blk.term.kind) ∧ w'.cell? ⟨gb, 3, none⟩ = some (.int .i64 blk.term.a.reg) ∧ w'.cell? ⟨gb, 4, none⟩ = some (.int .i64 blk.term.a.num) ∧ w'.cell? ⟨gb, 5, none⟩ = some (.int .i64 blk.term.b.reg) ∧ w'.cell? ⟨gb, 6, none⟩ = some (.int .i64 blk.term.b.num)) (by kernel_rfl) ?_ (fun hU0 => ?_)
                · exact ⟨n1, t1, t3, t4, t5, t6⟩
                first | refine upto_run 0 (v := ?_) hU0 (by kernel_rfl) rfl (by kernel_rfl) (by kernel_rfl) (by kernel_rfl) (by kernel_rfl) (fun _ _ _ h => h) (Or.inl ⟨by rfl, ?_⟩) ?_ | fail
                rotate_left
                · first | (intro w _; go_simp; with_reducible rfl) | (intro w _; go_simp; done) | fail
                try simp only [Act.put, List.setIfInBounds_toArray, List.set_cons_zero, List.set_cons_succ]
                first | refine upto_read 1 (v := ?_) hU0 (by kernel_rfl) rfl (by kernel_rfl) (by kernel_rfl) (by kernel_rfl) (by kernel_rfl) (by kernel_rfl) (fun _ _ _ h => h) (Or.inl ⟨by rfl, ?_⟩) ?_ | fail
                rotate_left
                · first | (intro w hSw; (try dsimp only at hSw); go_simp; with_reducible rfl) | (intro w hSw; (try dsimp only at hSw); go_simp; done) | fail
                try simp only [Act.put, List.setIfInBounds_toArray, List.set_cons_zero, List.set_cons_succ]
                first | refine upto_run 2 (v := ?_) hU0 (by kernel_rfl) rfl (by kernel_rfl) (by kernel_rfl) (by kernel_rfl) (by kernel_rfl) (fun _ _ _ h => h) (Or.inl ⟨by rfl, ?_⟩) ?_ | fail
                rotate_left
                · first | (intro w _; go_simp; with_reducible rfl) | (intro w _; go_simp; done) | fail
                try simp only [Act.put, List.setIfInBounds_toArray, List.set_cons_zero, List.set_cons_succ]
                first | refine upto_run 3 (v := ?_) hU0 (by kernel_rfl) rfl (by kernel_rfl) (by kernel_rfl) (by kernel_rfl) (by kernel_rfl) (fun _ _ _ h => h) (Or.inl ⟨by rfl, ?_⟩) ?_ | fail
                rotate_left
                · first | (intro w _; go_simp; with_reducible rfl) | (intro w _; go_simp; done) | fail
                try simp only [Act.put, List.setIfInBounds_toArray, List.set_cons_zero, List.set_cons_succ]
                first | refine upto_read 4 (v := ?_) hU0 (by kernel_rfl) rfl (by kernel_rfl) (by kernel_rfl) (by kernel_rfl) (by kernel_rfl) (by kernel_rfl) (fun _ _ _ h => h) (Or.inl ⟨by rfl, ?_⟩) ?_ | fail
                rotate_left
                · first | (intro w hSw; (try dsimp only at hSw); go_simp; with_reducible rfl) | (intro w hSw; (try dsimp only at hSw); go_simp; done) | fail
                try simp only [Act.put, List.setIfInBounds_toArray, List.set_cons_zero, List.set_cons_succ]
                first | refine upto_run 5 (v := ?_) hU0 (by kernel_rfl) rfl (by kernel_rfl) (by kernel_rfl) (by kernel_rfl) (by kernel_rfl) (fun _ _ _ h => h) (Or.inl ⟨by rfl, ?_⟩) ?_ | fail
                rotate_left
                · first | (intro w _; go_simp; with_reducible rfl) | (intro w _; go_simp; done) | fail
                try simp only [Act.put, List.setIfInBounds_toArray, List.set_cons_zero, List.set_cons_succ]
                first | refine upto_run 6 (v := ?_) hU0 (by kernel_rfl) rfl (by kernel_rfl) (by kernel_rfl) (by kernel_rfl) (by kernel_rfl) (fun _ _ _ h => h) (Or.inl ⟨by rfl, ?_⟩) ?_ | fail
                rotate_left
                · first | (intro w _; go_simp; with_reducible rfl) | (intro w _; go_simp; done) | fail
                try simp only [Act.put, List.setIfInBounds_toArray, List.set_cons_zero, List.set_cons_succ]
                first | refine upto_run 7 (v := ?_) hU0 (by kernel_rfl) rfl (by kernel_rfl) (by kernel_rfl) (by kernel_rfl) (by kernel_rfl) (fun _ _ _ h => h) (Or.inl ⟨by rfl, ?_⟩) ?_ | fail
                rotate_left
                · first | (intro w _; go_simp; with_reducible rfl) | (intro w _; go_simp; done) | fail
                try simp only [Act.put, List.setIfInBounds_toArray, List.set_cons_zero, List.set_cons_succ]
                first | refine upto_run 8 (v := ?_) hU0 (by kernel_rfl) rfl (by kernel_rfl) (by kernel_rfl) (by kernel_rfl) (by kernel_rfl) (fun _ _ _ h => h) (Or.inl ⟨by rfl, ?_⟩) ?_ | fail
                rotate_left
                · first | (intro w _; go_simp; with_reducible rfl) | (intro w _; go_simp; done) | fail
                try simp only [Act.put, List.setIfInBounds_toArray, List.set_cons_zero, List.set_cons_succ]
                first | refine upto_run 9 (v := ?_) hU0 (by kernel_rfl) rfl (by kernel_rfl) (by kernel_rfl) (by kernel_rfl) (by kernel_rfl) (fun _ _ _ h => h) (Or.inl ⟨by rfl, ?_⟩) ?_ | fail
                rotate_left
                · first | (intro w _; go_simp; with_reducible rfl) | (intro w _; go_simp; done) | fail
                try simp only [Act.put, List.setIfInBounds_toArray, List.set_cons_zero, List.set_cons_succ]
                first | refine upto_read 10 (v := ?_) hU0 (by kernel_rfl) rfl (by kernel_rfl) (by kernel_rfl) (by kernel_rfl) (by kernel_rfl) (by kernel_rfl) (fun _ _ _ h => h) (Or.inl ⟨by rfl, ?_⟩) ?_ | fail
                rotate_left
                · first | (intro w hSw; (try dsimp only at hSw); go_simp; with_reducible rfl) | (intro w hSw; (try dsimp only at hSw); go_simp; done) | fail
                try simp only [Act.put, List.setIfInBounds_toArray, List.set_cons_zero, List.set_cons_succ]
                first | refine upto_next 11 rfl (by kernel_rfl) (fun K hK => ?_) | fail
                go_simp
                go_at_call_of 14 (Value.agg #[.int .i64 blk.term.a.reg, .int .i64 blk.term.a.num])
                refine (HAa.out W.drew (Below.drew (Below.refl _ _))).mono ?_
                rintro e w8 ⟨rfl, hb8⟩
                rw [has_none (fun r => HZA.out r)]
                have hbW : Below W.heap.size W w8 := ⟨hb8.os, hb8.tape, hb8.output, hb8.size, hb8.block⟩
                try go_simp
                first | refine hK.out _ _ ?_ (fun hU1 => ?_) | (go_wp2_with fail; refine hK.out _ _ ?_ (fun hU1 => ?_)) | fail
                · exact Or.inr ⟨later n1 hbW, later t1 hbW, later t3 hbW, later t4 hbW, later t5 hbW, later t6 hbW⟩
                clear hK K
                clear hU0
                try simp only [Act.put, List.setIfInBounds_toArray, List.set_cons_zero, List.set_cons_succ]
                first | refine upto_run 12 (v := ?_) hU1 (by kernel_rfl) rfl (by kernel_rfl) (by kernel_rfl) (by kernel_rfl) (by kernel_rfl) (fun _ _ _ h => h) (Or.inl ⟨by rfl, ?_⟩) ?_ | fail
                rotate_left
                · first | (intro w _; go_simp; with_reducible rfl) | (intro w _; go_simp; done) | fail
                try simp only [Act.put, List.setIfInBounds_toArray, List.set_cons_zero, List.set_cons_succ]
                first | refine upto_run 13 (v := ?_) hU1 (by kernel_rfl) rfl (by kernel_rfl) (by kernel_rfl) (by kernel_rfl) (by kernel_rfl) (fun _ _ _ h => h) (Or.inl ⟨by rfl, ?_⟩) ?_ | fail
                rotate_left
                · first | (intro w _; go_simp; with_reducible rfl) | (intro w _; go_simp; done) | fail
                try simp only [Act.put, List.setIfInBounds_toArray, List.set_cons_zero, List.set_cons_succ]
                first | refine upto_run 14 (v := ?_) hU1 (by kernel_rfl) rfl (by kernel_rfl) (by kernel_rfl) (by kernel_rfl) (by kernel_rfl) (fun _ _ _ h => h) (Or.inl ⟨by rfl, ?_⟩) ?_ | fail
                rotate_left
                · first | (intro w _; go_simp; with_reducible rfl) | (intro w _; go_simp; done) | fail
                try simp only [Act.put, List.setIfInBounds_toArray, List.set_cons_zero, List.set_cons_succ]
                first | refine upto_run 15 (v := ?_) hU1 (by kernel_rfl) rfl (by kernel_rfl) (by kernel_rfl) (by kernel_rfl) (by kernel_rfl) (fun _ _ _ h => h) (Or.inl ⟨by rfl, ?_⟩) ?_ | fail
                rotate_left
                · first | (intro w _; go_simp; with_reducible rfl) | (intro w _; go_simp; done) | fail
                try simp only [Act.put, List.setIfInBounds_toArray, List.set_cons_zero, List.set_cons_succ]
                first | refine upto_read 16 (v := ?_) hU1 (by kernel_rfl) rfl (by kernel_rfl) (by kernel_rfl) (by kernel_rfl) (by kernel_rfl) (by kernel_rfl) (fun _ _ _ h => h) (Or.inl ⟨by rfl, ?_⟩) ?_ | fail
                rotate_left
                · first | (intro w hSw; (try dsimp only at hSw); go_simp; with_reducible rfl) | (intro w hSw; (try dsimp only at hSw); go_simp; done) | fail
                try simp only [Act.put, List.setIfInBounds_toArray, List.set_cons_zero, List.set_cons_succ]
                first | refine upto_next 17 rfl (by kernel_rfl) (fun K hK => ?_) | fail
                go_simp
                go_at_call_of 14 (Value.agg #[.int .i64 blk.term.b.reg, .int .i64 blk.term.b.num])
                refine (HAb.out w8 hbW).mono ?_
                rintro e w9 ⟨rfl, hb9⟩
                rw [has_none (fun r => HZA.out r)]
                have hbX9 : Below W.heap.size W w9 := hbW.bt hb9
                try go_simp
                first | refine hK.out _ _ ?_ (fun hU2 => ?_) | (go_wp2_with fail; refine hK.out _ _ ?_ (fun hU2 => ?_)) | fail
                · exact Or.inr ⟨later n1 hbX9, later t1 hbX9, later t3 hbX9, later t4 hbX9, later t5 hbX9, later t6 hbX9⟩
                clear hK K
                clear hU1
                try simp only [Act.put, List.setIfInBounds_toArray, List.set_cons_zero, List.set_cons_succ]
                first | refine upto_run 18 (v := ?_) hU2 (by kernel_rfl) rfl (by kernel_rfl) (by kernel_rfl) (by kernel_rfl) (by kernel_rfl) (fun _ _ _ h => h) (Or.inl ⟨by rfl, ?_⟩) ?_ | fail
                rotate_left
                · first | (intro w _; go_simp; with_reducible rfl) | (intro w _; go_simp; done) | fail
                try simp only [Act.put, List.setIfInBounds_toArray, List.set_cons_zero, List.set_cons_succ]
                first | refine upto_run 19 (v := ?_) hU2 (by kernel_rfl) rfl (by kernel_rfl) (by kernel_rfl) (by kernel_rfl) (by kernel_rfl) (fun _ _ _ h => h) (Or.inl ⟨by rfl, ?_⟩) ?_ | fail
                rotate_left
                · first | (intro w _; go_simp; with_reducible rfl) | (intro w _; go_simp; done) | fail
                try simp only [Act.put, List.setIfInBounds_toArray, List.set_cons_zero, List.set_cons_succ]
                obtain ⟨v3, w7, hr, f1, f2, f3, ⟨A3, m3, c3, rfl⟩, HN0, hz7, hk7⟩ := HADD.out w9 hbX9
                have hbX : Below W.heap.size W (w9) := hbX9
                have HN := Lib.hid HN0
                have HZ7 := Lib.hid (show Bs ≤ (w7.setCell ⟨w.heap.size + 1, 1, none⟩ (.slice A3 m3 c3)).heap.size by simp; have h1 := hbX.size; have h2 : (w9).heap.size ≤ w7.heap.size := hz7; omega)
                have HR7 := Lib.hid (show (w7.setCell ⟨w.heap.size + 1, 1, none⟩ (.slice A3 m3 c3)).heap[w.heap.size]? = some (.cells #[.slice none 0 0, .slice none 0 0, .bool false] 43 (0, 0)) from blk_set (hk7 _ _ _ (by decide) (blk_below HRW.out hbX)) (p := ⟨w.heap.size + 1, 1, none⟩) (by simp) _)
                have HG7 := Lib.hid (hk7 _ _ _ (by decide) (blk_below HGW.out hbX))
                have HRr : (Builtin.append_ #[23, 23] 23 #[v2, .slice (some ⟨w9.heap.size, 0, none⟩) 1 1]).run Try.prog (w9.alloc (.cells #[.bool false] 4)) = .ok (.slice A3 m3 c3) w7 := hr
                have hbA : Below W.heap.size W (w9.alloc (.cells #[.bool false] 4)) := below_alloc _ hbX9
                clear hr HN0 hz7 hk7
                first | refine upto_next 20 rfl (by kernel_rfl) (fun K hK => ?_) | fail
                go_simp
                first | refine hK.out _ _ ?_ (fun hU3 => ?_) | (go_wp2_with fail; refine hK.out _ _ ?_ (fun hU3 => ?_)) | fail
                · exact Or.inr ⟨later n1 hbA, later t1 hbA, later t3 hbA, later t4 hbA, later t5 hbA, later t6 hbA⟩
                clear hK K
                clear hU2
                try simp only [Act.put, List.setIfInBounds_toArray, List.set_cons_zero, List.set_cons_succ]
                first | refine upto_next 21 rfl (by kernel_rfl) (fun K hK => ?_) | fail
                refine step_append_run rfl (.tmp 95) (.tmp 114) 23 rfl _ _ _ _ rfl rfl HRr ?_
                try go_simp
                first | refine hK.out _ _ ?_ (fun hU4 => ?_) | (go_wp2_with fail; refine hK.out _ _ ?_ (fun hU4 => ?_)) | fail
                · exact Or.inr ⟨f1, blk_cell HG7.out rfl, blk_cell HG7.out rfl, blk_cell HG7.out rfl, blk_cell HG7.out rfl, blk_cell HG7.out rfl⟩
                clear hK K
                clear hU3
                try simp only [Act.put, List.setIfInBounds_toArray, List.set_cons_zero, List.set_cons_succ]
                first | refine upto_run 22 (v := ?_) hU4 (by kernel_rfl) rfl (by kernel_rfl) (by kernel_rfl) (by kernel_rfl) (by kernel_rfl) (fun _ _ _ h => h) (Or.inl ⟨by rfl, ?_⟩) ?_ | fail
                rotate_left
                · first | (intro w _; go_simp; with_reducible rfl) | (intro w _; go_simp; done) | fail
                try simp only [Act.put, List.setIfInBounds_toArray, List.set_cons_zero, List.set_cons_succ]
                first | refine upto_next 23 rfl (by kernel_rfl) (fun K hK => ?_) | fail
                go_simp
                first | refine hK.out _ _ ?_ (fun hU5 => ?_) | (go_wp2_with fail; refine hK.out _ _ ?_ (fun hU5 => ?_)) | fail
                · exact Or.inl (by kernel_rfl)
                clear hK K
                clear hU4
                try simp only [Act.put, List.setIfInBounds_toArray, List.set_cons_zero, List.set_cons_succ]
                refine upto_done (by kernel_rfl) ?_ _
                go_wp2_with fail
                go_roundw
                case rel => exact ⟨j + 1, _, _, _, _, by omega, by go_num, HN.out, HR7.out, HZ7.out⟩
                case measure => simp [intOf]; omega
              · have b1 : (blk.term.kind == 2) = false := by simpa using hk2
                clear hk2
                obtain ⟨v3, w7, hr, f1, f2, f3, ⟨A3, m3, c3, rfl⟩, HN0, hz7, hk7⟩ := HADD.out W.drew (Below.drew (Below.refl _ _))
                have hbX : Below W.heap.size W (W.drew) := (Below.drew (Below.refl _ _))
                have HN := Lib.hid HN0
                have HZ7 := Lib.hid (show Bs ≤ (w7.setCell ⟨w.heap.size + 1, 1, none⟩ (.slice A3 m3 c3)).heap.size by simp; have h1 := hbX.size; have h2 : (W.drew).heap.size ≤ w7.heap.size := hz7; omega)
                have HR7 := Lib.hid (show (w7.setCell ⟨w.heap.size + 1, 1, none⟩ (.slice A3 m3 c3)).heap[w.heap.size]? = some (.cells #[.slice none 0 0, .slice none 0 0, .bool false] 43 (0, 0)) from blk_set (hk7 _ _ _ (by decide) (blk_below HRW.out hbX)) (p := ⟨w.heap.size + 1, 1, none⟩) (by simp) _)
                have HG7 := Lib.hid (hk7 _ _ _ (by decide) (blk_below HGW.out hbX))
                have HRr : (Builtin.append_ #[23, 23] 23 #[v2, .slice (some ⟨W.heap.size, 0, none⟩) 1 1]).run Try.prog ((W.alloc (.cells #[.bool false] 4)).drew) = .ok (.slice A3 m3 c3) w7 := hr
                have hbA : Below W.heap.size W ((W.alloc (.cells #[.bool false] 4)).drew) := Below.drew (below_alloc _ (Below.refl _ _))
                clear hr HN0 hz7 hk7
                refine upto_begin 23 (fun w' => w'.cell? ⟨w.heap.size + 1, 1, none⟩ = some (v2) ∧ w'.cell? ⟨gb, 1, none⟩ = some (.int .i64 blk.term.kind) ∧ w'.cell? ⟨gb, 3, none⟩ = some (.int .i64 blk.term.a.reg) ∧ w'.cell? ⟨gb, 4, none⟩ = some (.int .i64 blk.term.a.num) ∧ w'.cell? ⟨gb, 5, none⟩ = some (.int .i64 blk.term.b.reg) ∧ w'.cell? ⟨gb, 6, none⟩ = some (.int .i64 blk.term.b.num)) (by kernel_rfl) ?_ (fun hU0 => ?_)
                · exact ⟨n1, t1, t3, t4, t5, t6⟩
                first | refine upto_run 0 (v := ?_) hU0 (by kernel_rfl) rfl (by kernel_rfl) (by kernel_rfl) (by kernel_rfl) (by kernel_rfl) (fun _ _ _ h => h) (Or.inl ⟨by rfl, ?_⟩) ?_ | fail
                rotate_left
                · first | (intro w _; go_simp; with_reducible rfl) | (intro w _; go_simp; done) | fail
                try simp only [Act.put, List.setIfInBounds_toArray, List.set_cons_zero, List.set_cons_succ]
                first | refine upto_read 1 (v := ?_) hU0 (by kernel_rfl) rfl (by kernel_rfl) (by kernel_rfl) (by kernel_rfl) (by kernel_rfl) (by kernel_rfl) (fun _ _ _ h => h) (Or.inl ⟨by rfl, ?_⟩) ?_ | fail
                rotate_left
                · first | (intro w hSw; (try dsimp only at hSw); go_simp; with_reducible rfl) | (intro w hSw; (try dsimp only at hSw); go_simp; done) | fail
                try simp only [Act.put, List.setIfInBounds_toArray, List.set_cons_zero, List.set_cons_succ]
                first | refine upto_run 2 (v := ?_) hU0 (by kernel_rfl) rfl (by kernel_rfl) (by kernel_rfl) (by kernel_rfl) (by kernel_rfl) (fun _ _ _ h => h) (Or.inl ⟨by rfl, ?_⟩) ?_ | fail
                rotate_left
                · first | (intro w _; go_simp; with_reducible rfl) | (intro w _; go_simp; done) | fail
                try simp only [Act.put, List.setIfInBounds_toArray, List.set_cons_zero, List.set_cons_succ]
                first | refine upto_run 3 (v := ?_) hU0 (by kernel_rfl) rfl (by kernel_rfl) (by kernel_rfl) (by kernel_rfl) (by kernel_rfl) (fun _ _ _ h => h) (Or.inl ⟨by rfl, ?_⟩) ?_ | fail
                rotate_left
                · first | (intro w _; go_simp; with_reducible rfl) | (intro w _; go_simp; done) | fail
                try simp only [Act.put, List.setIfInBounds_toArray, List.set_cons_zero, List.set_cons_succ]
                first | refine upto_read 4 (v := ?_) hU0 (by kernel_rfl) rfl (by kernel_rfl) (by kernel_rfl) (by kernel_rfl) (by kernel_rfl) (by kernel_rfl) (fun _ _ _ h => h) (Or.inl ⟨by rfl, ?_⟩) ?_ | fail
                rotate_left
                · first | (intro w hSw; (try dsimp only at hSw); go_simp; with_reducible rfl) | (intro w hSw; (try dsimp only at hSw); go_simp; done) | fail
                try simp only [Act.put, List.setIfInBounds_toArray, List.set_cons_zero, List.set_cons_succ]
                first | refine upto_run 5 (v := ?_) hU0 (by kernel_rfl) rfl (by kernel_rfl) (by kernel_rfl) (by kernel_rfl) (by kernel_rfl) (fun _ _ _ h => h) (Or.inl ⟨by rfl, ?_⟩) ?_ | fail
                rotate_left
                · first | (intro w _; go_simp; with_reducible rfl) | (intro w _; go_simp; done) | fail
                try simp only [Act.put, List.setIfInBounds_toArray, List.set_cons_zero, List.set_cons_succ]
                first | refine upto_run 6 (v := ?_) hU0 (by kernel_rfl) rfl (by kernel_rfl) (by kernel_rfl) (by kernel_rfl) (by kernel_rfl) (fun _ _ _ h => h) (Or.inl ⟨by rfl, ?_⟩) ?_ | fail
                rotate_left
                · first | (intro w _; go_simp; with_reducible rfl) | (intro w _; go_simp; done) | fail
                try simp only [Act.put, List.setIfInBounds_toArray, List.set_cons_zero, List.set_cons_succ]
                refine upto_run 7 (v := undef) hU0 (by kernel_rfl) rfl (by kernel_rfl) (by kernel_rfl) (by kernel_rfl) (by kernel_rfl) (fun _ _ _ h => h) (Or.inr ⟨by rfl, rfl⟩) ?_
                try simp only [Act.put, List.setIfInBounds_toArray, List.set_cons_zero, List.set_cons_succ]
                refine upto_run 8 (v := undef) hU0 (by kernel_rfl) rfl (by kernel_rfl) (by kernel_rfl) (by kernel_rfl) (by kernel_rfl) (fun _ _ _ h => h) (Or.inr ⟨by rfl, rfl⟩) ?_
                try simp only [Act.put, List.setIfInBounds_toArray, List.set_cons_zero, List.set_cons_succ]
                refine upto_run 9 (v := undef) hU0 (by kernel_rfl) rfl (by kernel_rfl) (by kernel_rfl) (by kernel_rfl) (by kernel_rfl) (fun _ _ _ h => h) (Or.inr ⟨by rfl, rfl⟩) ?_
                try simp only [Act.put, List.setIfInBounds_toArray, List.set_cons_zero, List.set_cons_succ]
                refine upto_run 10 (v := undef) hU0 (by kernel_rfl) rfl (by kernel_rfl) (by kernel_rfl) (by kernel_rfl) (by kernel_rfl) (fun _ _ _ h => h) (Or.inr ⟨by rfl, rfl⟩) ?_
                try simp only [Act.put, List.setIfInBounds_toArray, List.set_cons_zero, List.set_cons_succ]
                refine upto_run 11 (v := undef) hU0 (by kernel_rfl) rfl (by kernel_rfl) (by kernel_rfl) (by kernel_rfl) (by kernel_rfl) (fun _ _ _ h => h) (Or.inr ⟨by rfl, rfl⟩) ?_
                try simp only [Act.put, List.setIfInBounds_toArray, List.set_cons_zero, List.set_cons_succ]
                refine upto_run 12 (v := undef) hU0 (by kernel_rfl) rfl (by kernel_rfl) (by kernel_rfl) (by kernel_rfl) (by kernel_rfl) (fun _ _ _ h => h) (Or.inr ⟨by rfl, rfl⟩) ?_
                try simp only [Act.put, List.setIfInBounds_toArray, List.set_cons_zero, List.set_cons_succ]
                refine upto_run 13 (v := undef) hU0 (by kernel_rfl) rfl (by kernel_rfl) (by kernel_rfl) (by kernel_rfl) (by kernel_rfl) (fun _ _ _ h => h) (Or.inr ⟨by rfl, rfl⟩) ?_
                try simp only [Act.put, List.setIfInBounds_toArray, List.set_cons_zero, List.set_cons_succ]
                refine upto_run 14 (v := undef) hU0 (by kernel_rfl) rfl (by kernel_rfl) (by kernel_rfl) (by kernel_rfl) (by kernel_rfl) (fun _ _ _ h => h) (Or.inr ⟨by rfl, rfl⟩) ?_
                try simp only [Act.put, List.setIfInBounds_toArray, List.set_cons_zero, List.set_cons_succ]
                refine upto_run 15 (v := undef) hU0 (by kernel_rfl) rfl (by kernel_rfl) (by kernel_rfl) (by kernel_rfl) (by kernel_rfl) (fun _ _ _ h => h) (Or.inr ⟨by rfl, rfl⟩) ?_
                try simp only [Act.put, List.setIfInBounds_toArray, List.set_cons_zero, List.set_cons_succ]
                refine upto_run 16 (v := undef) hU0 (by kernel_rfl) rfl (by kernel_rfl) (by kernel_rfl) (by kernel_rfl) (by kernel_rfl) (fun _ _ _ h => h) (Or.inr ⟨by rfl, rfl⟩) ?_
                try simp only [Act.put, List.setIfInBounds_toArray, List.set_cons_zero, List.set_cons_succ]
                refine upto_run 17 (v := undef) hU0 (by kernel_rfl) rfl (by kernel_rfl) (by kernel_rfl) (by kernel_rfl) (by kernel_rfl) (fun _ _ _ h => h) (Or.inr ⟨by rfl, rfl⟩) ?_
                try simp only [Act.put, List.setIfInBounds_toArray, List.set_cons_zero, List.set_cons_succ]
                refine upto_run 18 (v := undef) hU0 (by kernel_rfl) rfl (by kernel_rfl) (by kernel_rfl) (by kernel_rfl) (by kernel_rfl) (fun _ _ _ h => h) (Or.inr ⟨by rfl, rfl⟩) ?_
                try simp only [Act.put, List.setIfInBounds_toArray, List.set_cons_zero, List.set_cons_succ]
                first | refine upto_run 19 (v := ?_) hU0 (by kernel_rfl) rfl (by kernel_rfl) (by kernel_rfl) (by kernel_rfl) (by kernel_rfl) (fun _ _ _ h => h) (Or.inl ⟨by rfl, ?_⟩) ?_ | fail
                rotate_left
                · first | (intro w _; go_simp; with_reducible rfl) | (intro w _; go_simp; done) | fail
                try simp only [Act.put, List.setIfInBounds_toArray, List.set_cons_zero, List.set_cons_succ]
                first | refine upto_next 20 rfl (by kernel_rfl) (fun K hK => ?_) | fail
                go_simp
                first | refine hK.out _ _ ?_ (fun hU1 => ?_) | (go_wp2_with fail; refine hK.out _ _ ?_ (fun hU1 => ?_)) | fail
                · exact Or.inr ⟨later n1 hbA, later t1 hbA, later t3 hbA, later t4 hbA, later t5 hbA, later t6 hbA⟩
                clear hK K
                clear hU0
                try simp only [Act.put, List.setIfInBounds_toArray, List.set_cons_zero, List.set_cons_succ]
                first | refine upto_next 21 rfl (by kernel_rfl) (fun K hK => ?_) | fail
                refine step_append_run rfl (.tmp 95) (.tmp 114) 23 rfl _ _ _ _ rfl rfl HRr ?_
                try go_simp
                first | refine hK.out _ _ ?_ (fun hU2 => ?_) | (go_wp2_with fail; refine hK.out _ _ ?_ (fun hU2 => ?_)) | fail
                · exact Or.inr ⟨f1, blk_cell HG7.out rfl, blk_cell HG7.out rfl, blk_cell HG7.out rfl, blk_cell HG7.out rfl, blk_cell HG7.out rfl⟩
                clear hK K
                clear hU1
                try simp only [Act.put, List.setIfInBounds_toArray, List.set_cons_zero, List.set_cons_succ]
                first | refine upto_run 22 (v := ?_) hU2 (by kernel_rfl) rfl (by kernel_rfl) (by kernel_rfl) (by kernel_rfl) (by kernel_rfl) (fun _ _ _ h => h) (Or.inl ⟨by rfl, ?_⟩) ?_ | fail
                rotate_left
                · first | (intro w _; go_simp; with_reducible rfl) | (intro w _; go_simp; done) | fail
                try simp only [Act.put, List.setIfInBounds_toArray, List.set_cons_zero, List.set_cons_succ]
                first | refine upto_next 23 rfl (by kernel_rfl) (fun K hK => ?_) | fail
                go_simp
                first | refine hK.out _ _ ?_ (fun hU3 => ?_) | (go_wp2_with fail; refine hK.out _ _ ?_ (fun hU3 => ?_)) | fail
                · exact Or.inl (by kernel_rfl)
                clear hK K
                clear hU2
                try simp only [Act.put, List.setIfInBounds_toArray, List.set_cons_zero, List.set_cons_succ]
                refine upto_done (by kernel_rfl) ?_ _
                go_wp2_with fail
                go_roundw
                case rel => exact ⟨j + 1, _, _, _, _, by omega, by go_num, HN.out, HR7.out, HZ7.out⟩
                case measure => simp [intOf]; omega
        · have e : j = n := by omega
          subst e
          have K2 := Lib.hid HR4.out
          obtain ⟨A1', c1', hv1, _⟩ := own_slice HO1.out.r1
          obtain ⟨A2', c2', hv2, _⟩ := own_slice HO1.out.r2
          subst hv1 hv2
          have m0 : wb.cell? ⟨w.heap.size + 1, 0, none⟩ = _ := blk_cell HO1.out.m rfl
          have m1 : wb.cell? ⟨w.heap.size + 1, 1, none⟩ = _ := blk_cell HO1.out.m rfl
          have m2 : wb.cell? ⟨w.heap.size + 1, 2, none⟩ = _ := blk_cell HO1.out.m rfl
          have ml := blk_lt HO1.out.m
          have HBF := Lib.hid HO1.out.below
          go_wp2_with (refine wpList_store_blk (by rfl) 43 _ _ (by rfl) w.heap.size (by rfl) (by rfl) K2.out (by rfl) (by kernel_rfl) (by kernel_rfl) ?_; intro x2 k3 hb3 hz3 ho3)
          have q0 := blk_cell (i := 0) k3 rfl
          have q1 := blk_cell (i := 1) k3 rfl
          have q2 := blk_cell (i := 2) k3 rfl
          refine bodyPost_ret (v := .agg #[.slice A1' j c1', .slice A2' j c2', .bool false]) (by simp [results, Try.results8, go_sem, q0, q1, q2]) rfl ⟨_, _, rfl, hb3 _ _ (Nat.le_refl _) HBF.out⟩
end Go.Proofs.Ytemllghghpphmaa
