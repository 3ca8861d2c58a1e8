/- taint.Of for any function: the shape of what it answers (printed by gen_plb.py). No condition. -/
import Derived.Test.YtbogcompeefoaaaDoorPlA
import Derived.Test.YtbogcompeefoaaaDoorQa
import Derived.Test.YtbogcompeefoaaaDoorPlH
namespace Go.Proofs.YtbogcompeefoaaaDoor
open Go.RowKit
set_option linter.unusedVariables false
set_option maxHeartbeats 8000000
/-- only the marks' block is turned below, the flag is b -/
structure FrM (w4 w : World) (gm : Nat) (v1 v2 : Value) (b : Bool) : Prop where
  gr : w4.grownBy w (some gm)
  m : w.heap[gm]? = some (.cells #[v1, v2, .bool b] 81 (0, 0))
theorem FrM.refl {w : World} {gm : Nat} {v1 v2 : Value} {b : Bool} (h : w.heap[gm]? = some (.cells #[v1, v2, .bool b] 81 (0, 0))) : FrM w w gm v1 v2 b := ⟨⟨rfl, rfl, rfl, Nat.le_refl _, fun _ _ _ => rfl⟩, h⟩
theorem FrM.step {w4 w w' : World} {gm : Nat} {v1 v2 : Value} {b : Bool} {r : Option Nat} (h : FrM w4 w gm v1 v2 b) (hg : w.grownBy w' r) (hr : ∀ k, r = some k → w4.heap.size ≤ k) (hm : r ≠ some gm) : FrM w4 w' gm v1 v2 b :=
  ⟨⟨hg.os.trans h.gr.os, hg.tape.trans h.gr.tape, hg.output.trans h.gr.output, Nat.le_trans h.gr.size hg.size, fun k hk hne => (hg.block k (Nat.lt_of_lt_of_le hk h.gr.size) (fun e => by have := hr k e.symm; omega)).trans (h.gr.block k hk hne)⟩, (hg.block gm (blk_lt h.m) (fun e => hm e.symm)).trans h.m⟩
theorem FrM.below {w4 w w' : World} {gm : Nat} {v1 v2 : Value} {b : Bool} (h : FrM w4 w gm v1 v2 b) (hb : Below w.heap.size w w') : FrM w4 w' gm v1 v2 b :=
  h.step (r := none) ⟨hb.os, hb.tape, hb.output, hb.size, fun k hk _ => hb.block k hk⟩ (fun k e => by cases e) (by simp)
theorem FrM.set {w4 w : World} {gm : Nat} {v1 v2 : Value} {b : Bool} (h : FrM w4 w gm v1 v2 b) (hlt : gm < w4.heap.size) (c : Bool) : FrM w4 (w.setCell ⟨gm, 2, none⟩ (.bool c)) gm v1 v2 c := by
  have hs := grown_set w gm 2 (.bool c)
  exact ⟨⟨hs.os.trans h.gr.os, hs.tape.trans h.gr.tape, hs.output.trans h.gr.output, Nat.le_trans h.gr.size hs.size, fun k hk hne => (hs.block k (Nat.lt_of_lt_of_le hk h.gr.size) hne).trans (h.gr.block k hk hne)⟩, blk_setCell (i := 2) h.m (Value.bool c)⟩
theorem FrM.bel {w0 w4 w : World} {gm : Nat} {v1 v2 : Value} {b : Bool} (h : FrM w4 w gm v1 v2 b) (h0 : Below w0.heap.size w0 w4) (hgm : w0.heap.size ≤ gm) : Below w0.heap.size w0 w := below_of_grown h0 (Nat.le_refl _) h.gr (fun k hk => by cases hk; exact hgm)
/-- what taint.Of answers -/
def OfOut (w : World) (f : FuncD) (n : Nat) (e : Ending) (w' : World) : Prop :=
  ∃ (v1 v2 : Value) (an : Bool) (xs : List Value) (es : List Bool) (bs : List (List Bool)), e = .returned (.agg #[v1, v2, .bool an]) ∧ w'.ownsRow (w.heap.size + 2) 36 1 v1 n xs ∧ w'.ownsRow (w.heap.size + 2) 4 1 v2 n (es.map Value.bool) ∧ RowsB w' (w.heap.size + 2) v2 xs bs ∧ (∀ q, q < n → ∃ l, bs[q]? = some l ∧ l.length = (blkF f q).ins.length) ∧ Below w.heap.size w w'
set_option maxRecDepth 100000 in
theorem tof_any (W0 w : World) (h0 : Below W0.heap.size W0 w) (fb fo : Nat) (f : FuncD) (vc vb : Value) (c2 : w.cell? ⟨fb, fo + 2, none⟩ = some vc) (c5 : w.cell? ⟨fb, fo + 5, none⟩ = some vb) (R : Nat) (c3 : w.cell? ⟨fb, fo + 3, none⟩ = some (.int .i64 (R : Nat)))
    (hc : SlR W0 1 BoolR vc f.secret) (hb : SlR W0 9 (BlockR W0) vb f.blocks) (n : Nat) (hn : n = f.blocks.length) (h0n : 0 < n) (hn6 : n ≤ 1000000) (hR6 : R ≤ 1000000) (hnx : ∀ i k, i < n → k ∈ nxF f i → 0 ≤ k ∧ k < n)
    (hslim : ∀ b ∈ f.blocks, ∀ x ∈ b.ins, x.args.length ≤ 1000000) (hdst : ∀ b ∈ f.blocks, ∀ x ∈ b.ins, x.dst < R) (hsl : f.secret.length ≤ R) (hil6 : ∀ b ∈ f.blocks, b.ins.length ≤ 1000000) :
    Calls Tryd.prog 20 #[.pointer (some ⟨fb, fo, none⟩)] w (OfOut w f n) := by
  have HSO := Lib.hid (fun (w' : World) (h : Below w.heap.size w w') => solve_any W0 w' (h0.trans (h.mono h0.size)) fb fo f vc vb (later c2 h) (later c5 h) R (later c3 h) hc hb n hn h0n hn6 hR6 hnx hslim hdst hsl)
  obtain ⟨A1, cap1, rfl, _, m4, hi1⟩ := hc
  obtain ⟨A, cap, rfl, _, m3, hi⟩ := hb
  have HI := Lib.hid hi
  have HI1 := Lib.hid hi1
  have H0 := Lib.hid h0
  have HN := Lib.hid hn
  have HSl := Lib.hid hslim
  have HDs := Lib.hid hdst
  have HIL := Lib.hid hil6
  have C5 := Lib.hid c5
  have C2 := Lib.hid c2
  have hfl : fb < w.heap.size := World.block_lt_of_cell? _ _ c3
  have HFL := Lib.hid hfl
  rw [← hn] at c5 C5
  have d1 : ((n : Int) == 0) = false := by simp; omega
  have hsl9 : f.secret.length ≤ 1000000 := by omega
  clear hi hi1 hnx h0 hn m3 m4 hslim hdst hsl hil6 c3
  go_enter Tryd.func20, Tryd.ntmps20
  go_wp2_with fail
  obtain ⟨w1, hw1⟩ : ∃ z, z = (w.alloc (.cells #[.slice none 0 0, .slice none 0 0, .bool false] 81)).alloc (.cells #[.slice none 0 0, .slice none 0 0, .bool false] 81) := ⟨_, rfl⟩
  have HRS := Lib.hid (show w1.heap[w.heap.size]? = some (.cells #[.slice none 0 0, .slice none 0 0, .bool false] 81 (0, 0)) by rw [hw1]; exact blk_alloc (blk_new w _) _)
  have HMS := Lib.hid (show w1.heap[w.heap.size + 1]? = some (.cells #[.slice none 0 0, .slice none 0 0, .bool false] 81 (0, 0)) by rw [hw1]; exact blk_new' (by simp))
  have HB1 := Lib.hid (show Below w.heap.size w w1 by rw [hw1]; exact below_alloc _ (below_alloc _ (Below.refl _ _)))
  rw [← hw1]
  clear hw1 c2 c5 d1 hfl
  go_loopw [26] (fun i wr => ∃ j : Nat, j ≤ f.secret.length ∧ i = .int .i64 j ∧ wr.heap[w.heap.size]? = some (.cells #[.slice none 0 0, .slice none 0 0, .bool false] 81 (0, 0)) ∧ ∃ an : Bool, wr.heap[w.heap.size + 1]? = some (.cells #[.slice none 0 0, .slice none 0 0, .bool an] 81 (0, 0)) ∧ Below w.heap.size w wr) (fun i _ => f.secret.length - (intOf i).toNat)
  case atStart => exact ⟨0, by omega, rfl, HRS.out, false, HMS.out, HB1.out⟩
  case round =>
    obtain ⟨j, hj, rfl, hr, an, hm, hb⟩ := hrel
    have HR2 := Lib.hid hr
    have HM2 := Lib.hid hm
    have HB2 := Lib.hid hb
    have c2 := later C2.out hb
    have c5 := later C5.out hb
    have lfb := World.block_lt_of_cell? _ _ c2
    have m2 : wr.cell? ⟨w.heap.size + 1, 2, none⟩ = some (.bool an) := blk_cell hm rfl
    have m3 := blk_free (i := 2) hm
    have m4 := blk_lt hm
    clear hr hm hb
    by_cases hltj : j < f.secret.length
    · obtain ⟨b, hbj⟩ : ∃ b, f.secret[j]? = some b := ⟨_, List.getElem?_eq_getElem hltj⟩
      obtain ⟨lb, lo, cs, rfl, e1, e2, e3⟩ := HI1.out j b hbj
      have e3' : cs = [.bool b] := e3
      subst e3'
      have r0 := later (e2 0 (by omega)) (H0.out.trans (HB2.out.mono H0.out.size))
      rw [Nat.add_zero, Nat.mul_one] at r0
      have lr0 := World.block_lt_of_cell? _ _ r0
      clear e1 e2 hbj e3
      have N1 := Lib.hid (show (wr.setCell ⟨w.heap.size + 1, 2, none⟩ (.bool (an || b))).heap[w.heap.size]? = _ from blk_set HR2.out (by simp) _)
      have N2 := Lib.hid (show (wr.setCell ⟨w.heap.size + 1, 2, none⟩ (.bool (an || b))).heap[w.heap.size + 1]? = some (.cells #[.slice none 0 0, .slice none 0 0, .bool (an || b)] 81 (0, 0)) from blk_setCell (i := 2) HM2.out _)
      have N3 := Lib.hid (Below.setCell HB2.out (p := ⟨w.heap.size + 1, 2, none⟩) (by simp) (.bool (an || b)))
      cases an
      · cases b
        · go_wp2_with fail
          go_roundw
          case rel => exact ⟨j + 1, by omega, by go_num, N1.out, _, N2.out, N3.out⟩
          case measure => simp [intOf]; omega
        · go_wp2_with fail
          go_roundw
          case rel => exact ⟨j + 1, by omega, by go_num, N1.out, _, N2.out, N3.out⟩
          case measure => simp [intOf]; omega
      · cases b
        · go_wp2_with fail
          go_roundw
          case rel => exact ⟨j + 1, by omega, by go_num, N1.out, _, N2.out, N3.out⟩
          case measure => simp [intOf]; omega
        · go_wp2_with fail
          go_roundw
          case rel => exact ⟨j + 1, by omega, by go_num, N1.out, _, N2.out, N3.out⟩
          case measure => simp [intOf]; omega
    · have e : j = f.secret.length := by omega
      subst e
      go_wp2_with fail
      clear c2 c5 lfb m2 m3 m4
      refine (HSO.out wr HB2.out).mono ?_
      rintro e w2 ⟨iv, vs, I, rfl, hT, hI, hD, hS⟩
      have HIV := Lib.hid hI
      have HKB := Lib.hid (show (R + 63) / 64 ≤ 1000000 by omega)
      have HRK := Lib.hid (show R ≤ 64 * ((R + 63) / 64) by omega)
      obtain ⟨gi, ci, hiv, _, _, hgi, _⟩ := own_form hT.ri h0n
      subst hiv
      have hbw := hT.below
      have HO0 := Lib.hid (show OfT w w2 wr.heap.size (w.heap.size + 2) n gi ci vs I (w.heap.size + 1) 0 (.slice none 0 0) (.slice none 0 0) [] (([] : List Bool).map Value.bool) an [] from ⟨hT.rebase, blk_below HM2.out hbw, World.ownsRow_nil _ _ _ _, World.ownsRow_nil _ _ _ _, HB2.out.bt hbw, RowsB.nil _ _ _⟩)
      have HR3 := Lib.hid (blk_below HR2.out hbw)
      have hgm : w.heap.size + 2 ≤ wr.heap.size := by have := blk_lt HM2.out; omega
      have hBs0 := hbw.size
      have c5 := later C5.out (HB2.out.bt hbw)
      have lfb := World.block_lt_of_cell? _ _ c5
      clear hT hI hD hS hgi HRK HSO hbw
      generalize (R + 63) / 64 = K at *
      go_wp2_with fail
      clear c5 lfb
      obtain ⟨Bs, hBs⟩ : ∃ z, z = wr.heap.size := ⟨_, rfl⟩
      rw [← hBs] at HO0 hgm hBs0
      clear hBs
      go_loopw [44] (fun i wr => ∃ (j : Nat) (v1 v2 : Value) (xs : List Value) (es : List Bool) (an : Bool) (bs : List (List Bool)), j ≤ n ∧ i = .int .i64 j ∧ OfT w wr Bs (w.heap.size + 2) n gi ci vs I (w.heap.size + 1) j v1 v2 xs (es.map Value.bool) an bs ∧ (bs.length = j ∧ ∀ q, q < j → ∃ l, bs[q]? = some l ∧ l.length = (blkF f q).ins.length) ∧ wr.heap[w.heap.size]? = some (.cells #[.slice none 0 0, .slice none 0 0, .bool false] 81 (0, 0)) ∧ Bs ≤ wr.heap.size) (fun i _ => n - (intOf i).toNat)
      case atStart => exact ⟨0, _, _, [], [], an, [], by omega, rfl, HO0.out, ⟨rfl, fun q hq => by omega⟩, HR3.out, hBs0⟩
      case round =>
        rename World => wb
        obtain ⟨j, v1, v2, xs, es, an, bs, hj, rfl, hO, hLL, hR, hz⟩ := hrel
        have HLL := Lib.hid hLL
        clear hLL
        have HO1 := Lib.hid hO
        have HR4 := Lib.hid hR
        clear hO hR HO0 HR3 hBs0
        by_cases hlt : j < n
        · obtain ⟨blk, hblk⟩ : ∃ b', f.blocks[j]? = some b' := ⟨_, List.getElem?_eq_getElem (by rw [← HN.out]; exact hlt)⟩
          have HBk := Lib.hid (blkF_of hblk)
          obtain ⟨bb, bo, cs, rfl, e1, e2, vi, e3, y1, y2, t1, t2, t3, t4, t5, t6, t7, t8⟩ := HI.out j blk hblk
          subst e3
          have H03 := H0.out.trans (HO1.out.below.mono H0.out.size)
          obtain ⟨A9, cap9, rfl, _, _, h9⟩ := id y1
          have H9 := Lib.hid h9
          have r0 := later (e2 0 (by omega)) H03
          have r1 := later (e2 1 (by omega)) H03
          have r2 := later (e2 2 (by omega)) H03
          have r3 := later (e2 3 (by omega)) H03
          have r4 := later (e2 4 (by omega)) H03
          have r5 := later (e2 5 (by omega)) H03
          have r6 := later (e2 6 (by omega)) H03
          have r7 := later (e2 7 (by omega)) H03
          have r8 := later (e2 8 (by omega)) H03
          rw [Nat.add_zero] at r0
          have lr0 := World.block_lt_of_cell? _ _ r0
          have HSb := Lib.hid (HSl.out blk (List.mem_of_getElem? hblk))
          have hil : blk.ins.length ≤ 1000000 := HIL.out blk (List.mem_of_getElem? hblk)
          have HTR := Lib.hid (And.intro t3 t5)
          obtain ⟨u, hu, hsu⟩ := HO1.out.sets.si j hlt
          obtain ⟨cu, _, hgu⟩ := HO1.out.sets.cell hlt hu
          have HSU := Lib.hid hsu
          have hlu := HIV.out.len j
          obtain ⟨Au, ku, hue, _⟩ := hsu.slice_
          rw [hlu] at hue
          subst hue
          clear e1 e2 y1 y2 t1 t2 t3 t4 t5 t6 t7 t8 hblk H03 h9 hu hsu hlu
          go_wp2_with fail
          obtain ⟨w4, hw4⟩ : ∃ z, z = wb.alloc (.cells #[.slice A9 blk.ins.length cap9, .int .i64 blk.term.kind, .int .i64 blk.term.op, .int .i64 blk.term.a.reg, .int .i64 blk.term.a.num, .int .i64 blk.term.b.reg, .int .i64 blk.term.b.num, .int .i64 blk.term.to_, .int .i64 blk.term.els] 58) := ⟨_, rfl⟩
          have HBO := Lib.hid (show w4.heap[wb.heap.size]? = some (.cells #[.slice A9 blk.ins.length cap9, .int .i64 blk.term.kind, .int .i64 blk.term.op, .int .i64 blk.term.a.reg, .int .i64 blk.term.a.num, .int .i64 blk.term.b.reg, .int .i64 blk.term.b.num, .int .i64 blk.term.to_, .int .i64 blk.term.els] 58 (0, 0)) by rw [hw4]; exact blk_new wb _)
          have HB4 := Lib.hid (show Below wb.heap.size wb w4 by rw [hw4]; exact below_alloc _ (Below.refl _ _))
          have HO4 := Lib.hid (HO1.out.later hz HB4.out)
          have HR5 := Lib.hid (blk_below HR4.out HB4.out)
          have H04 := Lib.hid (H0.out.trans (HO4.out.below.mono H0.out.size))
          have hz4 : Bs ≤ w4.heap.size := Nat.le_trans hz HB4.out.size
          rw [← hw4]
          clear hw4
          obtain ⟨gb, hgb⟩ : ∃ z, wb.heap.size = z := ⟨_, rfl⟩
          rw [hgb] at HBO ⊢
          clear hgb
          refine (copy_any w4 Bs _ (I j) (set_below HSU.out HB4.out) (by rw [HIV.out.len]; exact HKB.out)).mono ?_
          rintro e w5 ⟨sv, rfl, hs5, hb5⟩
          have HB5 := Lib.hid hb5
          have HS5 := Lib.hid hs5
          have k0 : w5.cell? ⟨gb, 0, none⟩ = some (.slice A9 blk.ins.length cap9) := blk_cell (blk_below HBO.out hb5) rfl
          have lk0 := World.block_lt_of_cell? _ _ k0
          clear r0 r1 r2 r3 r4 r5 r6 r7 r8 lr0 hs5 hb5 cu hgu
          go_wp2_with fail
          clear k0 lk0
          go_loopw [10, 57] (fun l i wq => ∃ (q : Nat) (lv : Value) (zs : List Bool) (an : Bool), q ≤ blk.ins.length ∧ i = .int .i64 q ∧ lv = l ∧ wq.ownsRow w4.heap.size 4 1 lv q (zs.map Value.bool) ∧ zs.length = q ∧ SetR wq w4.heap.size sv (stepsL (I j) (blk.ins.take q)) ∧ FrM w4 wq (w.heap.size + 1) v1 v2 an) (fun _ i _ => blk.ins.length - (intOf i).toNat)
          case atStart => exact ⟨0, .slice none 0 0, [], an, by omega, rfl, rfl, World.ownsRow_nil _ _ _ _, rfl, HS5.out, (FrM.refl HO4.out.m).below HB5.out⟩
          case round =>
            rename World => wq
            obtain ⟨q, lv, zs, an, hq, rfl, rfl, hl, hzl, hs, hb⟩ := hrel
            have HZL := Lib.hid hzl
            clear hzl
            have HLQ := Lib.hid hl
            have HSQ := Lib.hid hs
            have HBQ := Lib.hid hb
            clear hl hs hb
            by_cases hltq : q < blk.ins.length
            · obtain ⟨x, hx⟩ : ∃ x, blk.ins[q]? = some x := ⟨_, List.getElem?_eq_getElem hltq⟩
              obtain ⟨ib, io, cs, rfl, e1, e2, va, e3, p1, p2, p3, p4, p5, p6, p7, p8, p9, p10, p11⟩ := H9.out q x hx
              subst e3
              have HST := Lib.hid (stepsL_take (l := I j) hx)
              have HSx := Lib.hid (HSb.out x (List.mem_of_getElem? hx))
              have HBq := Lib.hid (HBQ.out.bel H04.out (by have := HO4.out.below.size; have := H0.out.size; omega))
              have r0 := later (e2 0 (by omega)) HBq.out
              have r1 := later (e2 1 (by omega)) HBq.out
              have r2 := later (e2 2 (by omega)) HBq.out
              have r3 := later (e2 3 (by omega)) HBq.out
              have r4 := later (e2 4 (by omega)) HBq.out
              have r5 := later (e2 5 (by omega)) HBq.out
              have r6 := later (e2 6 (by omega)) HBq.out
              have r7 := later (e2 7 (by omega)) HBq.out
              have r8 := later (e2 8 (by omega)) HBq.out
              have r9 := later (e2 9 (by omega)) HBq.out
              have r10 := later (e2 10 (by omega)) HBq.out
              have r11 := later (e2 11 (by omega)) HBq.out
              rw [Nat.add_zero] at r0
              have lr0 := World.block_lt_of_cell? _ _ r0
              obtain ⟨Ax, capx, rfl, _, _, _⟩ := id p10
              obtain ⟨i0, hti, hz0, hz1, hz2⟩ := info_parts Tryd.infoB
              have HAL := Lib.hid (below_alloc (.cells #[.int .i64 x.op, .int .i64 x.dst, .int .i64 x.a.reg, .int .i64 x.a.num, .int .i64 x.b.reg, .int .i64 x.b.num, .int .i64 x.size, .bool x.signed, .bool x.secret, .int .i64 x.ref, .int .i64 x.off, .slice Ax x.args.length capx] 74) (Below.refl wq.heap.size wq))
              have HIB := Lib.hid (blk_new wq (.cells #[.int .i64 x.op, .int .i64 x.dst, .int .i64 x.a.reg, .int .i64 x.a.num, .int .i64 x.b.reg, .int .i64 x.b.num, .int .i64 x.size, .bool x.signed, .bool x.secret, .int .i64 x.ref, .int .i64 x.off, .slice Ax x.args.length capx] 74))
              have PX := Lib.hid (And.intro p1 (And.intro p2 (And.intro (And.intro p3 p4) (And.intro (And.intro p5 p6) p10))))
              have hkc : x.op = 26 ∨ x.op = 27 ∨ x.op = 29 ∨ ((x.op == 26) = false ∧ (x.op == 27) = false ∧ (x.op == 29) = false) := by simp only [beq_eq_false_iff_ne, ne_eq]; omega
              clear e1 e2 hx p1 p2 p3 p4 p5 p6 p7 p8 p9 p10 p11
              rcases hkc with k | k | k | ⟨k1, k2, k3⟩
              · have b1 : (x.op == 26) = true := by simp [k]
                clear k
                go_wp2_with fail
                refine (arg_any _ w4.heap.size sv _ x.a (set_below HSQ.out HAL.out) PX.out.2.2.1.1).mono ?_
                rintro e w7 ⟨rfl, hb7⟩
                obtain ⟨h0, hh0⟩ : ∃ b, b = hasL (stepsL (I j) (blk.ins.take q)) x.a.reg := ⟨_, rfl⟩
                rw [← hh0]
                clear hh0
                have HB7 := Lib.hid (HAL.out.bt hb7)
                have HI7 := Lib.hid (blk_below HIB.out hb7)
                clear hb7
                have HL7 := Lib.hid (own_below HLQ.out HB7.out)
                have HS7 := Lib.hid (set_below HSQ.out HB7.out)
                have HW7 := Lib.hid (HBQ.out.below HB7.out)
                obtain ⟨v', w8, hr8, ho8, hg8, hmv⟩ := append_one (P := Tryd.prog) (w := w7) w4.heap.size 36 4 i0 _ 1 Tryd.underlying36 hti hz0 hz1 hz2 rfl lv q (zs.map Value.bool) HL7.out (.bool h0) w7.heap.size rfl rfl (by unfold maxLen; omega) (by omega) HW7.out.gr.size
                obtain ⟨Al8, cl8, hv8, _⟩ := own_slice ho8
                subst hv8
                have HO8 := Lib.hid ho8
                have HS8 := Lib.hid (own_kept HS7.out hg8 (apart_symm (own_ne HL7.out (HS7.out).1 (by decide))))
                have HIB8 := Lib.hid (blk_kept HI7.out hg8 (own_blk HL7.out HI7.out (by decide)))
                have HB8 := Lib.hid (HW7.out.step hg8 (fun k hk => ((HL7.out).lt k hk).1) (by
                  rcases own_blk HL7.out HW7.out.m (by decide) with h | h
                  · rw [h]; simp
                  · exact h))
                have s0 := blk_cell (i := 0) HIB8.out rfl
                have s1 := blk_cell (i := 1) HIB8.out rfl
                have s2 := blk_cell (i := 2) HIB8.out rfl
                have s3 := blk_cell (i := 3) HIB8.out rfl
                have s4 := blk_cell (i := 4) HIB8.out rfl
                have s5 := blk_cell (i := 5) HIB8.out rfl
                have s6 := blk_cell (i := 6) HIB8.out rfl
                have s7 := blk_cell (i := 7) HIB8.out rfl
                have s8 := blk_cell (i := 8) HIB8.out rfl
                have s9 := blk_cell (i := 9) HIB8.out rfl
                have s10 := blk_cell (i := 10) HIB8.out rfl
                have s11 := blk_cell (i := 11) HIB8.out rfl
                have sl := blk_lt HIB8.out
                have hgm0 : W0.heap.size ≤ w.heap.size + 1 := by have := H0.out.size; omega
                have HCA := Lib.hid (step_any w8 w4.heap.size sv (.slice Ax x.args.length capx) _ x HS8.out PX.out.1 PX.out.2.1 PX.out.2.2.1 PX.out.2.2.2.1 (PX.out.2.2.2.2.later (by decide) (HB8.out.bel H04.out hgm0)) HSx.out)
                clear ho8 hg8 hmv
                clear r0 r1 r2 r3 r4 r5 r6 r7 r8 r9 r10 r11 lr0
                go_wp2_with (at_builtin; refine wpList_append_run' _ rfl _ _ _ rfl _ _ _ _ rfl rfl hr8 ?_)
                clear s0 s1 s2 s3 s4 s5 s6 s7 s8 s9 s10 s11 sl hr8
                refine HCA.out.mono ?_
                rintro e w9 ⟨rfl, hs9, hg9⟩
                have HS9 := Lib.hid (show SetR w9 w4.heap.size sv (stepsL (I j) (blk.ins.take (q + 1))) by rw [HST.out]; exact hs9)
                have HO9 := Lib.hid (World.ownsRow.kept HO8.out hg9 (own_ne HO8.out HS8.out.1 (by decide)))
                have HB9 := Lib.hid (HB8.out.step hg9 (fun k hk => (HS8.out.1.lt k hk).1) (by
                  rcases own_blk HS8.out.1 HB8.out.m (by decide) with h | h
                  · rw [h]; simp
                  · exact h))
                have HIB9 := Lib.hid (blk_kept HIB8.out hg9 (own_blk HS8.out.1 HIB8.out (by decide)))
                have c1 := blk_cell (i := 1) HIB9.out rfl
                have cl := blk_lt HIB9.out
                have m2 := blk_cell (i := 2) HB9.out.m rfl
                have m3 := blk_free (i := 2) HB9.out.m
                have m4 := blk_lt HB9.out.m
                have hgl := blk_lt HO4.out.m
                have HHB := Lib.hid (has_any w9 w4.heap.size sv _ x.dst HS9.out PX.out.2.1.2)
                have HEND := Lib.hid (fun (c : Bool) => show (w9.setCell ⟨w.heap.size + 1, 2, none⟩ (.bool c)).ownsRow w4.heap.size 4 1 (.slice Al8 (q + 1) cl8) (q + 1) ((zs ++ [h0]).map Value.bool) ∧ SetR (w9.setCell ⟨w.heap.size + 1, 2, none⟩ (.bool c)) w4.heap.size sv (stepsL (I j) (blk.ins.take (q + 1))) ∧ FrM w4 (w9.setCell ⟨w.heap.size + 1, 2, none⟩ (.bool c)) (w.heap.size + 1) v1 v2 c by
                  have hs := grown_set w9 (w.heap.size + 1) 2 (.bool c)
                  refine ⟨?_, own_kept HS9.out hs (own_blk HS9.out.1 HB9.out.m (by decide)), HB9.out.set hgl c⟩
                  rw [List.map_append]
                  exact World.ownsRow.kept HO9.out hs (own_blk HO9.out HB9.out.m (by decide)))
                clear hs9 hg9 HCA hgl
                cases an
                · go_wp2_with fail
                  refine HHB.out.mono ?_
                  rintro e w10 ⟨rfl, rfl⟩
                  obtain ⟨h1, hh1⟩ : ∃ b, b = hasL (stepsL (I j) (blk.ins.take (q + 1))) x.dst := ⟨_, rfl⟩
                  rw [← hh1]
                  clear hh1
                  have HE := Lib.hid (HEND.out h1)
                  go_wp2_with fail
                  go_roundw
                  case rel => exact ⟨q + 1, _, _, h1, by omega, by go_num, rfl, HE.out.1, by rw [List.length_append, HZL.out]; rfl, HE.out.2.1, HE.out.2.2⟩
                  case measure => simp [intOf]; omega
                · have HE := Lib.hid (HEND.out true)
                  go_wp2_with fail
                  go_roundw
                  case rel => exact ⟨q + 1, _, _, true, by omega, by go_num, rfl, HE.out.1, by rw [List.length_append, HZL.out]; rfl, HE.out.2.1, HE.out.2.2⟩
                  case measure => simp [intOf]; omega
              · have b1 : (x.op == 26) = false := by simp [k]
                have b2 : (x.op == 27) = true := by simp [k]
                clear k
                go_wp2_with fail
                refine (arg_any _ w4.heap.size sv _ x.a (set_below HSQ.out HAL.out) PX.out.2.2.1.1).mono ?_
                rintro e w7 ⟨rfl, hb7⟩
                obtain ⟨h0, hh0⟩ : ∃ b, b = hasL (stepsL (I j) (blk.ins.take q)) x.a.reg := ⟨_, rfl⟩
                rw [← hh0]
                clear hh0
                have HB7 := Lib.hid (HAL.out.bt hb7)
                have HI7 := Lib.hid (blk_below HIB.out hb7)
                clear hb7
                have HL7 := Lib.hid (own_below HLQ.out HB7.out)
                have HS7 := Lib.hid (set_below HSQ.out HB7.out)
                have HW7 := Lib.hid (HBQ.out.below HB7.out)
                obtain ⟨v', w8, hr8, ho8, hg8, hmv⟩ := append_one (P := Tryd.prog) (w := w7) w4.heap.size 36 4 i0 _ 1 Tryd.underlying36 hti hz0 hz1 hz2 rfl lv q (zs.map Value.bool) HL7.out (.bool h0) w7.heap.size rfl rfl (by unfold maxLen; omega) (by omega) HW7.out.gr.size
                obtain ⟨Al8, cl8, hv8, _⟩ := own_slice ho8
                subst hv8
                have HO8 := Lib.hid ho8
                have HS8 := Lib.hid (own_kept HS7.out hg8 (apart_symm (own_ne HL7.out (HS7.out).1 (by decide))))
                have HIB8 := Lib.hid (blk_kept HI7.out hg8 (own_blk HL7.out HI7.out (by decide)))
                have HB8 := Lib.hid (HW7.out.step hg8 (fun k hk => ((HL7.out).lt k hk).1) (by
                  rcases own_blk HL7.out HW7.out.m (by decide) with h | h
                  · rw [h]; simp
                  · exact h))
                have s0 := blk_cell (i := 0) HIB8.out rfl
                have s1 := blk_cell (i := 1) HIB8.out rfl
                have s2 := blk_cell (i := 2) HIB8.out rfl
                have s3 := blk_cell (i := 3) HIB8.out rfl
                have s4 := blk_cell (i := 4) HIB8.out rfl
                have s5 := blk_cell (i := 5) HIB8.out rfl
                have s6 := blk_cell (i := 6) HIB8.out rfl
                have s7 := blk_cell (i := 7) HIB8.out rfl
                have s8 := blk_cell (i := 8) HIB8.out rfl
                have s9 := blk_cell (i := 9) HIB8.out rfl
                have s10 := blk_cell (i := 10) HIB8.out rfl
                have s11 := blk_cell (i := 11) HIB8.out rfl
                have sl := blk_lt HIB8.out
                have hgm0 : W0.heap.size ≤ w.heap.size + 1 := by have := H0.out.size; omega
                have HCA := Lib.hid (step_any w8 w4.heap.size sv (.slice Ax x.args.length capx) _ x HS8.out PX.out.1 PX.out.2.1 PX.out.2.2.1 PX.out.2.2.2.1 (PX.out.2.2.2.2.later (by decide) (HB8.out.bel H04.out hgm0)) HSx.out)
                clear ho8 hg8 hmv
                clear r0 r1 r2 r3 r4 r5 r6 r7 r8 r9 r10 r11 lr0
                go_wp2_with (at_builtin; refine wpList_append_run' _ rfl _ _ _ rfl _ _ _ _ rfl rfl hr8 ?_)
                clear s0 s1 s2 s3 s4 s5 s6 s7 s8 s9 s10 s11 sl hr8
                refine HCA.out.mono ?_
                rintro e w9 ⟨rfl, hs9, hg9⟩
                have HS9 := Lib.hid (show SetR w9 w4.heap.size sv (stepsL (I j) (blk.ins.take (q + 1))) by rw [HST.out]; exact hs9)
                have HO9 := Lib.hid (World.ownsRow.kept HO8.out hg9 (own_ne HO8.out HS8.out.1 (by decide)))
                have HB9 := Lib.hid (HB8.out.step hg9 (fun k hk => (HS8.out.1.lt k hk).1) (by
                  rcases own_blk HS8.out.1 HB8.out.m (by decide) with h | h
                  · rw [h]; simp
                  · exact h))
                have HIB9 := Lib.hid (blk_kept HIB8.out hg9 (own_blk HS8.out.1 HIB8.out (by decide)))
                have c1 := blk_cell (i := 1) HIB9.out rfl
                have cl := blk_lt HIB9.out
                have m2 := blk_cell (i := 2) HB9.out.m rfl
                have m3 := blk_free (i := 2) HB9.out.m
                have m4 := blk_lt HB9.out.m
                have hgl := blk_lt HO4.out.m
                have HHB := Lib.hid (has_any w9 w4.heap.size sv _ x.dst HS9.out PX.out.2.1.2)
                have HEND := Lib.hid (fun (c : Bool) => show (w9.setCell ⟨w.heap.size + 1, 2, none⟩ (.bool c)).ownsRow w4.heap.size 4 1 (.slice Al8 (q + 1) cl8) (q + 1) ((zs ++ [h0]).map Value.bool) ∧ SetR (w9.setCell ⟨w.heap.size + 1, 2, none⟩ (.bool c)) w4.heap.size sv (stepsL (I j) (blk.ins.take (q + 1))) ∧ FrM w4 (w9.setCell ⟨w.heap.size + 1, 2, none⟩ (.bool c)) (w.heap.size + 1) v1 v2 c by
                  have hs := grown_set w9 (w.heap.size + 1) 2 (.bool c)
                  refine ⟨?_, own_kept HS9.out hs (own_blk HS9.out.1 HB9.out.m (by decide)), HB9.out.set hgl c⟩
                  rw [List.map_append]
                  exact World.ownsRow.kept HO9.out hs (own_blk HO9.out HB9.out.m (by decide)))
                clear hs9 hg9 HCA hgl
                cases an
                · go_wp2_with fail
                  refine HHB.out.mono ?_
                  rintro e w10 ⟨rfl, rfl⟩
                  obtain ⟨h1, hh1⟩ : ∃ b, b = hasL (stepsL (I j) (blk.ins.take (q + 1))) x.dst := ⟨_, rfl⟩
                  rw [← hh1]
                  clear hh1
                  have HE := Lib.hid (HEND.out h1)
                  go_wp2_with fail
                  go_roundw
                  case rel => exact ⟨q + 1, _, _, h1, by omega, by go_num, rfl, HE.out.1, by rw [List.length_append, HZL.out]; rfl, HE.out.2.1, HE.out.2.2⟩
                  case measure => simp [intOf]; omega
                · have HE := Lib.hid (HEND.out true)
                  go_wp2_with fail
                  go_roundw
                  case rel => exact ⟨q + 1, _, _, true, by omega, by go_num, rfl, HE.out.1, by rw [List.length_append, HZL.out]; rfl, HE.out.2.1, HE.out.2.2⟩
                  case measure => simp [intOf]; omega
              · have b1 : (x.op == 26) = false := by simp [k]
                have b2 : (x.op == 27) = false := by simp [k]
                have b3 : (x.op == 29) = true := by simp [k]
                clear k
                go_wp2_with fail
                refine (arg_any _ w4.heap.size sv _ x.a (set_below HSQ.out HAL.out) PX.out.2.2.1.1).mono ?_
                rintro e w7 ⟨rfl, hb7⟩
                obtain ⟨h0, hh0⟩ : ∃ b, b = hasL (stepsL (I j) (blk.ins.take q)) x.a.reg := ⟨_, rfl⟩
                rw [← hh0]
                clear hh0
                have HB7 := Lib.hid (HAL.out.bt hb7)
                have HI7 := Lib.hid (blk_below HIB.out hb7)
                clear hb7
                have HL7 := Lib.hid (own_below HLQ.out HB7.out)
                have HS7 := Lib.hid (set_below HSQ.out HB7.out)
                have HW7 := Lib.hid (HBQ.out.below HB7.out)
                obtain ⟨v', w8, hr8, ho8, hg8, hmv⟩ := append_one (P := Tryd.prog) (w := w7) w4.heap.size 36 4 i0 _ 1 Tryd.underlying36 hti hz0 hz1 hz2 rfl lv q (zs.map Value.bool) HL7.out (.bool h0) w7.heap.size rfl rfl (by unfold maxLen; omega) (by omega) HW7.out.gr.size
                obtain ⟨Al8, cl8, hv8, _⟩ := own_slice ho8
                subst hv8
                have HO8 := Lib.hid ho8
                have HS8 := Lib.hid (own_kept HS7.out hg8 (apart_symm (own_ne HL7.out (HS7.out).1 (by decide))))
                have HIB8 := Lib.hid (blk_kept HI7.out hg8 (own_blk HL7.out HI7.out (by decide)))
                have HB8 := Lib.hid (HW7.out.step hg8 (fun k hk => ((HL7.out).lt k hk).1) (by
                  rcases own_blk HL7.out HW7.out.m (by decide) with h | h
                  · rw [h]; simp
                  · exact h))
                have s0 := blk_cell (i := 0) HIB8.out rfl
                have s1 := blk_cell (i := 1) HIB8.out rfl
                have s2 := blk_cell (i := 2) HIB8.out rfl
                have s3 := blk_cell (i := 3) HIB8.out rfl
                have s4 := blk_cell (i := 4) HIB8.out rfl
                have s5 := blk_cell (i := 5) HIB8.out rfl
                have s6 := blk_cell (i := 6) HIB8.out rfl
                have s7 := blk_cell (i := 7) HIB8.out rfl
                have s8 := blk_cell (i := 8) HIB8.out rfl
                have s9 := blk_cell (i := 9) HIB8.out rfl
                have s10 := blk_cell (i := 10) HIB8.out rfl
                have s11 := blk_cell (i := 11) HIB8.out rfl
                have sl := blk_lt HIB8.out
                have hgm0 : W0.heap.size ≤ w.heap.size + 1 := by have := H0.out.size; omega
                have HCA := Lib.hid (step_any w8 w4.heap.size sv (.slice Ax x.args.length capx) _ x HS8.out PX.out.1 PX.out.2.1 PX.out.2.2.1 PX.out.2.2.2.1 (PX.out.2.2.2.2.later (by decide) (HB8.out.bel H04.out hgm0)) HSx.out)
                clear ho8 hg8 hmv
                clear r0 r1 r2 r3 r4 r5 r6 r7 r8 r9 r10 r11 lr0
                go_wp2_with (at_builtin; refine wpList_append_run' _ rfl _ _ _ rfl _ _ _ _ rfl rfl hr8 ?_)
                clear s0 s1 s2 s3 s4 s5 s6 s7 s8 s9 s10 s11 sl hr8
                refine HCA.out.mono ?_
                rintro e w9 ⟨rfl, hs9, hg9⟩
                have HS9 := Lib.hid (show SetR w9 w4.heap.size sv (stepsL (I j) (blk.ins.take (q + 1))) by rw [HST.out]; exact hs9)
                have HO9 := Lib.hid (World.ownsRow.kept HO8.out hg9 (own_ne HO8.out HS8.out.1 (by decide)))
                have HB9 := Lib.hid (HB8.out.step hg9 (fun k hk => (HS8.out.1.lt k hk).1) (by
                  rcases own_blk HS8.out.1 HB8.out.m (by decide) with h | h
                  · rw [h]; simp
                  · exact h))
                have HIB9 := Lib.hid (blk_kept HIB8.out hg9 (own_blk HS8.out.1 HIB8.out (by decide)))
                have c1 := blk_cell (i := 1) HIB9.out rfl
                have cl := blk_lt HIB9.out
                have m2 := blk_cell (i := 2) HB9.out.m rfl
                have m3 := blk_free (i := 2) HB9.out.m
                have m4 := blk_lt HB9.out.m
                have hgl := blk_lt HO4.out.m
                have HHB := Lib.hid (has_any w9 w4.heap.size sv _ x.dst HS9.out PX.out.2.1.2)
                have HEND := Lib.hid (fun (c : Bool) => show (w9.setCell ⟨w.heap.size + 1, 2, none⟩ (.bool c)).ownsRow w4.heap.size 4 1 (.slice Al8 (q + 1) cl8) (q + 1) ((zs ++ [h0]).map Value.bool) ∧ SetR (w9.setCell ⟨w.heap.size + 1, 2, none⟩ (.bool c)) w4.heap.size sv (stepsL (I j) (blk.ins.take (q + 1))) ∧ FrM w4 (w9.setCell ⟨w.heap.size + 1, 2, none⟩ (.bool c)) (w.heap.size + 1) v1 v2 c by
                  have hs := grown_set w9 (w.heap.size + 1) 2 (.bool c)
                  refine ⟨?_, own_kept HS9.out hs (own_blk HS9.out.1 HB9.out.m (by decide)), HB9.out.set hgl c⟩
                  rw [List.map_append]
                  exact World.ownsRow.kept HO9.out hs (own_blk HO9.out HB9.out.m (by decide)))
                clear hs9 hg9 HCA hgl
                cases an
                · go_wp2_with fail
                  refine HHB.out.mono ?_
                  rintro e w10 ⟨rfl, rfl⟩
                  obtain ⟨h1, hh1⟩ : ∃ b, b = hasL (stepsL (I j) (blk.ins.take (q + 1))) x.dst := ⟨_, rfl⟩
                  rw [← hh1]
                  clear hh1
                  have HE := Lib.hid (HEND.out h1)
                  go_wp2_with fail
                  go_roundw
                  case rel => exact ⟨q + 1, _, _, h1, by omega, by go_num, rfl, HE.out.1, by rw [List.length_append, HZL.out]; rfl, HE.out.2.1, HE.out.2.2⟩
                  case measure => simp [intOf]; omega
                · have HE := Lib.hid (HEND.out true)
                  go_wp2_with fail
                  go_roundw
                  case rel => exact ⟨q + 1, _, _, true, by omega, by go_num, rfl, HE.out.1, by rw [List.length_append, HZL.out]; rfl, HE.out.2.1, HE.out.2.2⟩
                  case measure => simp [intOf]; omega
              · skip
                obtain ⟨w7, hw7⟩ : ∃ z, z = wq.alloc (.cells #[.int .i64 x.op, .int .i64 x.dst, .int .i64 x.a.reg, .int .i64 x.a.num, .int .i64 x.b.reg, .int .i64 x.b.num, .int .i64 x.size, .bool x.signed, .bool x.secret, .int .i64 x.ref, .int .i64 x.off, .slice Ax x.args.length capx] 74) := ⟨_, rfl⟩
                have h0 := false
                have HB7 := Lib.hid (show Below wq.heap.size wq w7 by rw [hw7]; exact HAL.out)
                have HI7 := Lib.hid (show w7.heap[wq.heap.size]? = some (.cells #[.int .i64 x.op, .int .i64 x.dst, .int .i64 x.a.reg, .int .i64 x.a.num, .int .i64 x.b.reg, .int .i64 x.b.num, .int .i64 x.size, .bool x.signed, .bool x.secret, .int .i64 x.ref, .int .i64 x.off, .slice Ax x.args.length capx] 74 (0, 0)) by rw [hw7]; exact HIB.out)
                have HW70 := Lib.hid hw7
                clear hw7
                have HL7 := Lib.hid (own_below HLQ.out HB7.out)
                have HS7 := Lib.hid (set_below HSQ.out HB7.out)
                have HW7 := Lib.hid (HBQ.out.below HB7.out)
                obtain ⟨v', w8, hr8, ho8, hg8, hmv⟩ := append_one (P := Tryd.prog) (w := w7) w4.heap.size 36 4 i0 _ 1 Tryd.underlying36 hti hz0 hz1 hz2 rfl lv q (zs.map Value.bool) HL7.out (.bool false) w7.heap.size rfl rfl (by unfold maxLen; omega) (by omega) HW7.out.gr.size
                obtain ⟨Al8, cl8, hv8, _⟩ := own_slice ho8
                subst hv8
                have HO8 := Lib.hid ho8
                have HS8 := Lib.hid (own_kept HS7.out hg8 (apart_symm (own_ne HL7.out (HS7.out).1 (by decide))))
                have HIB8 := Lib.hid (blk_kept HI7.out hg8 (own_blk HL7.out HI7.out (by decide)))
                have HB8 := Lib.hid (HW7.out.step hg8 (fun k hk => ((HL7.out).lt k hk).1) (by
                  rcases own_blk HL7.out HW7.out.m (by decide) with h | h
                  · rw [h]; simp
                  · exact h))
                have s0 := blk_cell (i := 0) HIB8.out rfl
                have s1 := blk_cell (i := 1) HIB8.out rfl
                have s2 := blk_cell (i := 2) HIB8.out rfl
                have s3 := blk_cell (i := 3) HIB8.out rfl
                have s4 := blk_cell (i := 4) HIB8.out rfl
                have s5 := blk_cell (i := 5) HIB8.out rfl
                have s6 := blk_cell (i := 6) HIB8.out rfl
                have s7 := blk_cell (i := 7) HIB8.out rfl
                have s8 := blk_cell (i := 8) HIB8.out rfl
                have s9 := blk_cell (i := 9) HIB8.out rfl
                have s10 := blk_cell (i := 10) HIB8.out rfl
                have s11 := blk_cell (i := 11) HIB8.out rfl
                have sl := blk_lt HIB8.out
                have hgm0 : W0.heap.size ≤ w.heap.size + 1 := by have := H0.out.size; omega
                have HCA := Lib.hid (step_any w8 w4.heap.size sv (.slice Ax x.args.length capx) _ x HS8.out PX.out.1 PX.out.2.1 PX.out.2.2.1 PX.out.2.2.2.1 (PX.out.2.2.2.2.later (by decide) (HB8.out.bel H04.out hgm0)) HSx.out)
                clear ho8 hg8 hmv
                rw [HW70.out] at hr8
                rw [show (wq.alloc (.cells #[.int .i64 x.op, .int .i64 x.dst, .int .i64 x.a.reg, .int .i64 x.a.num, .int .i64 x.b.reg, .int .i64 x.b.num, .int .i64 x.size, .bool x.signed, .bool x.secret, .int .i64 x.ref, .int .i64 x.off, .slice Ax x.args.length capx] 74)).heap.size = wq.heap.size + 1 from World.size_alloc _ _] at hr8
                go_wp2_with (at_builtin; refine wpList_append_run' _ rfl _ _ _ rfl _ _ _ _ rfl rfl hr8 ?_)
                clear s0 s1 s2 s3 s4 s5 s6 s7 s8 s9 s10 s11 sl hr8 r0 r1 r2 r3 r4 r5 r6 r7 r8 r9 r10 r11 lr0
                refine HCA.out.mono ?_
                rintro e w9 ⟨rfl, hs9, hg9⟩
                have HS9 := Lib.hid (show SetR w9 w4.heap.size sv (stepsL (I j) (blk.ins.take (q + 1))) by rw [HST.out]; exact hs9)
                have HO9 := Lib.hid (World.ownsRow.kept HO8.out hg9 (own_ne HO8.out HS8.out.1 (by decide)))
                have HB9 := Lib.hid (HB8.out.step hg9 (fun k hk => (HS8.out.1.lt k hk).1) (by
                  rcases own_blk HS8.out.1 HB8.out.m (by decide) with h | h
                  · rw [h]; simp
                  · exact h))
                have HIB9 := Lib.hid (blk_kept HIB8.out hg9 (own_blk HS8.out.1 HIB8.out (by decide)))
                have c1 := blk_cell (i := 1) HIB9.out rfl
                have cl := blk_lt HIB9.out
                have m2 := blk_cell (i := 2) HB9.out.m rfl
                have m3 := blk_free (i := 2) HB9.out.m
                have m4 := blk_lt HB9.out.m
                have hgl := blk_lt HO4.out.m
                have HHB := Lib.hid (has_any w9 w4.heap.size sv _ x.dst HS9.out PX.out.2.1.2)
                have HEND := Lib.hid (fun (c : Bool) => show (w9.setCell ⟨w.heap.size + 1, 2, none⟩ (.bool c)).ownsRow w4.heap.size 4 1 (.slice Al8 (q + 1) cl8) (q + 1) ((zs ++ [false]).map Value.bool) ∧ SetR (w9.setCell ⟨w.heap.size + 1, 2, none⟩ (.bool c)) w4.heap.size sv (stepsL (I j) (blk.ins.take (q + 1))) ∧ FrM w4 (w9.setCell ⟨w.heap.size + 1, 2, none⟩ (.bool c)) (w.heap.size + 1) v1 v2 c by
                  have hs := grown_set w9 (w.heap.size + 1) 2 (.bool c)
                  refine ⟨?_, own_kept HS9.out hs (own_blk HS9.out.1 HB9.out.m (by decide)), HB9.out.set hgl c⟩
                  rw [List.map_append]
                  exact World.ownsRow.kept HO9.out hs (own_blk HO9.out HB9.out.m (by decide)))
                clear hs9 hg9 HCA hgl
                cases an
                · go_wp2_with fail
                  refine HHB.out.mono ?_
                  rintro e w10 ⟨rfl, rfl⟩
                  obtain ⟨h1, hh1⟩ : ∃ b, b = hasL (stepsL (I j) (blk.ins.take (q + 1))) x.dst := ⟨_, rfl⟩
                  rw [← hh1]
                  clear hh1
                  have HE := Lib.hid (HEND.out h1)
                  go_wp2_with fail
                  go_roundw
                  case rel => exact ⟨q + 1, _, _, h1, by omega, by go_num, rfl, HE.out.1, by rw [List.length_append, HZL.out]; rfl, HE.out.2.1, HE.out.2.2⟩
                  case measure => simp [intOf]; omega
                · have HE := Lib.hid (HEND.out true)
                  go_wp2_with fail
                  go_roundw
                  case rel => exact ⟨q + 1, _, _, true, by omega, by go_num, rfl, HE.out.1, by rw [List.length_append, HZL.out]; rfl, HE.out.2.1, HE.out.2.2⟩
                  case measure => simp [intOf]; omega
            · have e : q = blk.ins.length := by omega
              subst e
              rw [List.take_length] at HSQ
              obtain ⟨Al, cl, hlv, _⟩ := own_slice HLQ.out
              subst hlv
              have hzq : Bs ≤ wq.heap.size := Nat.le_trans hz4 HBQ.out.gr.size
              have HOQ := Lib.hid (HO4.out.turn (by omega) HBQ.out.gr HBQ.out.m)
              have HGQ := Lib.hid (blk_kept HBO.out HBQ.out.gr (Or.inr (fun e => by
                have e2 := Option.some.inj e
                have h1 := HO4.out.m
                rw [e2, HBO.out] at h1
                simp at h1)))
              have HRQ := Lib.hid (blk_kept HR5.out HBQ.out.gr (Or.inr (by simp)))
              have m0 : wq.cell? ⟨w.heap.size + 1, 0, none⟩ = some v1 := blk_cell HOQ.out.m rfl
              have ml := blk_lt HOQ.out.m
              obtain ⟨v1', w6, hr6, c6, f6, l6, ⟨A6, m6, k6, rfl⟩, hkeep, hg6, W, hW, hTS, hM, hr1, hr2, hbel, hrows⟩ := HOQ.out.addIns (by omega) (by omega) (by omega) (by omega) (.slice Al blk.ins.length cl) zs rfl (by rw [HZL.out]; exact own_base HLQ.out (by omega)) (by
                cases hx : (Value.slice Al blk.ins.length cl).ownBlock with
                | none => exact Or.inl rfl
                | some k => exact Or.inr (fun e => by have h1 := (HLQ.out.lt k hx).1; have h2 := (HO4.out.r2.lt k e.symm).2; omega))
              have hgbm : wb.heap.size = wb.heap.size := rfl
              have HG6 := Lib.hid (hkeep _ _ _ (by decide) HGQ.out)
              have HM6 := Lib.hid (hkeep _ _ _ (by decide) HOQ.out.m)
              have HR6 := Lib.hid (hkeep _ _ _ (by decide) HRQ.out)
              have hne : gb ≠ w.heap.size + 1 := by
                intro e
                have h1 := HG6.out
                have h2 := HM6.out
                rw [e, h2] at h1
                simp at h1
              have HGW := Lib.hid (show W.heap[gb]? = some (.cells #[.slice A9 blk.ins.length cap9, .int .i64 blk.term.kind, .int .i64 blk.term.op, .int .i64 blk.term.a.reg, .int .i64 blk.term.a.num, .int .i64 blk.term.b.reg, .int .i64 blk.term.b.num, .int .i64 blk.term.to_, .int .i64 blk.term.els] 58 (0, 0)) by rw [hW]; exact blk_set HG6.out (p := ⟨w.heap.size + 1, 0, none⟩) hne _)
              have HRW := Lib.hid (show W.heap[w.heap.size]? = some (.cells #[.slice none 0 0, .slice none 0 0, .bool false] 81 (0, 0)) by rw [hW]; exact blk_set HR6.out (p := ⟨w.heap.size + 1, 0, none⟩) (by simp) _)
              have HSW := Lib.hid (show SetR W w4.heap.size sv (stepsL (I j) blk.ins) by
                have k1 := own_kept HSQ.out hg6 (own_ne HSQ.out.1 HOQ.out.r1 (by decide))
                rw [hW]
                exact own_kept k1 (grown_set w6 (w.heap.size + 1) 0 _) (own_blk k1.1 HM6.out (by decide)))
              have hzW : wq.heap.size ≤ W.heap.size := by rw [hW]; simp; exact hg6.size
              have HADD := Lib.hid (fun (c : Bool) (Wx : World) (hb : Below W.heap.size W Wx) => OfT.addEnd (w0 := w) (W := W) (Bs := Bs) ((hTS.more (by omega) hb).rebase) (blk_below hM hb) (own_below hr1 hb) (own_below hr2 hb) (hbel.bt hb) (hrows.later hb) (by omega) (by omega) (by omega) (by have := hb.size; omega) (.bool c) rfl)
              have HMW := Lib.hid hM
              have HWW := Lib.hid hW
              have HLL2 := Lib.hid (show (bs ++ [zs]).length = j + 1 ∧ ∀ p, p < j + 1 → ∃ l, (bs ++ [zs])[p]? = some l ∧ l.length = (blkF f p).ins.length from ⟨by rw [List.length_append, HLL.out.1]; rfl, fun p hp => by
                by_cases e : p < j
                · obtain ⟨l, h1, h2⟩ := HLL.out.2 p e
                  exact ⟨l, by rw [List.getElem?_append_left (by rw [HLL.out.1]; exact e)]; exact h1, h2⟩
                · obtain rfl : p = j := by omega
                  exact ⟨zs, by rw [List.getElem?_append_right (by rw [HLL.out.1]; exact Nat.le_refl _), HLL.out.1, Nat.sub_self]; rfl, by rw [HZL.out, HBk.out]⟩⟩)
              clear hkeep hg6 hW hTS hM hr1 hr2 hbel hne hgbm hrows
              go_wp2_with (at_builtin; refine wpList_append_run' _ rfl _ _ _ rfl _ _ _ _ rfl rfl hr6 ?_)
              rw [← HWW.out]
              clear m0 ml c6 f6 l6 hr6
              have t1 := blk_cell (i := 1) HGW.out rfl
              have t2 := blk_cell (i := 2) HGW.out rfl
              have t3 := blk_cell (i := 3) HGW.out rfl
              have t4 := blk_cell (i := 4) HGW.out rfl
              have t5 := blk_cell (i := 5) HGW.out rfl
              have t6 := blk_cell (i := 6) HGW.out rfl
              have t7 := blk_cell (i := 7) HGW.out rfl
              have t8 := blk_cell (i := 8) HGW.out rfl
              have tl := blk_lt HGW.out
              have n1 : W.cell? ⟨w.heap.size + 1, 1, none⟩ = some v2 := blk_cell HMW.out rfl
              have nl := blk_lt HMW.out
              have hk2 : blk.term.kind = 2 ∨ blk.term.kind ≠ 2 := by omega
              rcases hk2 with hk2 | hk2
              · have b1 : (blk.term.kind == 2) = true := by simpa using hk2
                clear hk2
                have HAa := Lib.hid (fun (Wx : World) (hb : Below W.heap.size W Wx) => arg_any Wx w4.heap.size sv _ blk.term.a (set_below HSW.out hb) HTR.out.1)
                have HAb := Lib.hid (fun (Wx : World) (hb : Below W.heap.size W Wx) => arg_any Wx w4.heap.size sv _ blk.term.b (set_below HSW.out hb) HTR.out.2)
                obtain ⟨hA, hhA⟩ : ∃ b, b = hasL (stepsL (I j) blk.ins) blk.term.a.reg := ⟨_, rfl⟩
                rw [← hhA] at HAa
                obtain ⟨hB, hhB⟩ : ∃ b, b = hasL (stepsL (I j) blk.ins) blk.term.b.reg := ⟨_, rfl⟩
                rw [← hhB] at HAb
                clear hhA hhB
                cases hA
                · refine upto_begin 23 (fun w' => w'.cell? ⟨w.heap.size + 1, 1, none⟩ = some (v2) ∧ w'.cell? ⟨gb, 1, none⟩ = some (.int .i64 blk.term.kind) ∧ w'.cell? ⟨gb, 3, none⟩ = some (.int .i64 blk.term.a.reg) ∧ w'.cell? ⟨gb, 4, none⟩ = some (.int .i64 blk.term.a.num) ∧ w'.cell? ⟨gb, 5, none⟩ = some (.int .i64 blk.term.b.reg) ∧ w'.cell? ⟨gb, 6, none⟩ = some (.int .i64 blk.term.b.num)) (by kernel_rfl) ?_ (fun hU0 => ?_)
                  · exact ⟨n1, t1, t3, t4, t5, t6⟩
                  first | refine upto_run 0 (v := ?_) hU0 (by kernel_rfl) rfl (by kernel_rfl) (by kernel_rfl) (by kernel_rfl) (by kernel_rfl) (fun _ _ _ h => h) (Or.inl ⟨by rfl, ?_⟩) ?_ | fail
                  rotate_left
                  · first | (intro w _; go_simp; with_reducible rfl) | (intro w _; go_simp; done) | (intro w _; go_simp; rw [if_neg (by omega)]) | fail
                  try simp only [Act.put, List.setIfInBounds_toArray, List.set_cons_zero, List.set_cons_succ]
                  first | refine upto_read 1 (v := ?_) hU0 (by kernel_rfl) rfl (by kernel_rfl) (by kernel_rfl) (by kernel_rfl) (by kernel_rfl) (by kernel_rfl) (fun _ _ _ h => h) (Or.inl ⟨by rfl, ?_⟩) ?_ | fail
                  rotate_left
                  · first | (intro w hSw; (try dsimp only at hSw); go_simp; with_reducible rfl) | (intro w hSw; (try dsimp only at hSw); go_simp; done) | fail
                  try simp only [Act.put, List.setIfInBounds_toArray, List.set_cons_zero, List.set_cons_succ]
                  first | refine upto_run 2 (v := ?_) hU0 (by kernel_rfl) rfl (by kernel_rfl) (by kernel_rfl) (by kernel_rfl) (by kernel_rfl) (fun _ _ _ h => h) (Or.inl ⟨by rfl, ?_⟩) ?_ | fail
                  rotate_left
                  · first | (intro w _; go_simp; with_reducible rfl) | (intro w _; go_simp; done) | (intro w _; go_simp; rw [if_neg (by omega)]) | fail
                  try simp only [Act.put, List.setIfInBounds_toArray, List.set_cons_zero, List.set_cons_succ]
                  first | refine upto_run 3 (v := ?_) hU0 (by kernel_rfl) rfl (by kernel_rfl) (by kernel_rfl) (by kernel_rfl) (by kernel_rfl) (fun _ _ _ h => h) (Or.inl ⟨by rfl, ?_⟩) ?_ | fail
                  rotate_left
                  · first | (intro w _; go_simp; with_reducible rfl) | (intro w _; go_simp; done) | (intro w _; go_simp; rw [if_neg (by omega)]) | fail
                  try simp only [Act.put, List.setIfInBounds_toArray, List.set_cons_zero, List.set_cons_succ]
                  first | refine upto_read 4 (v := ?_) hU0 (by kernel_rfl) rfl (by kernel_rfl) (by kernel_rfl) (by kernel_rfl) (by kernel_rfl) (by kernel_rfl) (fun _ _ _ h => h) (Or.inl ⟨by rfl, ?_⟩) ?_ | fail
                  rotate_left
                  · first | (intro w hSw; (try dsimp only at hSw); go_simp; with_reducible rfl) | (intro w hSw; (try dsimp only at hSw); go_simp; done) | fail
                  try simp only [Act.put, List.setIfInBounds_toArray, List.set_cons_zero, List.set_cons_succ]
                  first | refine upto_run 5 (v := ?_) hU0 (by kernel_rfl) rfl (by kernel_rfl) (by kernel_rfl) (by kernel_rfl) (by kernel_rfl) (fun _ _ _ h => h) (Or.inl ⟨by rfl, ?_⟩) ?_ | fail
                  rotate_left
                  · first | (intro w _; go_simp; with_reducible rfl) | (intro w _; go_simp; done) | (intro w _; go_simp; rw [if_neg (by omega)]) | fail
                  try simp only [Act.put, List.setIfInBounds_toArray, List.set_cons_zero, List.set_cons_succ]
                  first | refine upto_run 6 (v := ?_) hU0 (by kernel_rfl) rfl (by kernel_rfl) (by kernel_rfl) (by kernel_rfl) (by kernel_rfl) (fun _ _ _ h => h) (Or.inl ⟨by rfl, ?_⟩) ?_ | fail
                  rotate_left
                  · first | (intro w _; go_simp; with_reducible rfl) | (intro w _; go_simp; done) | (intro w _; go_simp; rw [if_neg (by omega)]) | fail
                  try simp only [Act.put, List.setIfInBounds_toArray, List.set_cons_zero, List.set_cons_succ]
                  first | refine upto_run 7 (v := ?_) hU0 (by kernel_rfl) rfl (by kernel_rfl) (by kernel_rfl) (by kernel_rfl) (by kernel_rfl) (fun _ _ _ h => h) (Or.inl ⟨by rfl, ?_⟩) ?_ | fail
                  rotate_left
                  · first | (intro w _; go_simp; with_reducible rfl) | (intro w _; go_simp; done) | (intro w _; go_simp; rw [if_neg (by omega)]) | fail
                  try simp only [Act.put, List.setIfInBounds_toArray, List.set_cons_zero, List.set_cons_succ]
                  first | refine upto_run 8 (v := ?_) hU0 (by kernel_rfl) rfl (by kernel_rfl) (by kernel_rfl) (by kernel_rfl) (by kernel_rfl) (fun _ _ _ h => h) (Or.inl ⟨by rfl, ?_⟩) ?_ | fail
                  rotate_left
                  · first | (intro w _; go_simp; with_reducible rfl) | (intro w _; go_simp; done) | (intro w _; go_simp; rw [if_neg (by omega)]) | fail
                  try simp only [Act.put, List.setIfInBounds_toArray, List.set_cons_zero, List.set_cons_succ]
                  first | refine upto_run 9 (v := ?_) hU0 (by kernel_rfl) rfl (by kernel_rfl) (by kernel_rfl) (by kernel_rfl) (by kernel_rfl) (fun _ _ _ h => h) (Or.inl ⟨by rfl, ?_⟩) ?_ | fail
                  rotate_left
                  · first | (intro w _; go_simp; with_reducible rfl) | (intro w _; go_simp; done) | (intro w _; go_simp; rw [if_neg (by omega)]) | fail
                  try simp only [Act.put, List.setIfInBounds_toArray, List.set_cons_zero, List.set_cons_succ]
                  first | refine upto_read 10 (v := ?_) hU0 (by kernel_rfl) rfl (by kernel_rfl) (by kernel_rfl) (by kernel_rfl) (by kernel_rfl) (by kernel_rfl) (fun _ _ _ h => h) (Or.inl ⟨by rfl, ?_⟩) ?_ | fail
                  rotate_left
                  · first | (intro w hSw; (try dsimp only at hSw); go_simp; with_reducible rfl) | (intro w hSw; (try dsimp only at hSw); go_simp; done) | fail
                  try simp only [Act.put, List.setIfInBounds_toArray, List.set_cons_zero, List.set_cons_succ]
                  first | refine upto_next 11 rfl (by kernel_rfl) (fun K hK => ?_) | fail
                  go_simp
                  go_at_call_of 36 (Value.agg #[.int .i64 blk.term.a.reg, .int .i64 blk.term.a.num])
                  refine (HAa.out W.drew (Below.drew (Below.refl _ _))).mono ?_
                  rintro e w8 ⟨rfl, hb8⟩
                  have hbW : Below W.heap.size W w8 := ⟨hb8.os, hb8.tape, hb8.output, hb8.size, hb8.block⟩
                  try go_simp
                  first | refine hK.out _ _ ?_ (fun hU1 => ?_) | (go_wp2_with fail; refine hK.out _ _ ?_ (fun hU1 => ?_)) | fail
                  · exact Or.inr ⟨later n1 hbW, later t1 hbW, later t3 hbW, later t4 hbW, later t5 hbW, later t6 hbW⟩
                  clear hK K
                  clear hU0
                  try simp only [Act.put, List.setIfInBounds_toArray, List.set_cons_zero, List.set_cons_succ]
                  first | refine upto_run 12 (v := ?_) hU1 (by kernel_rfl) rfl (by kernel_rfl) (by kernel_rfl) (by kernel_rfl) (by kernel_rfl) (fun _ _ _ h => h) (Or.inl ⟨by rfl, ?_⟩) ?_ | fail
                  rotate_left
                  · first | (intro w _; go_simp; with_reducible rfl) | (intro w _; go_simp; done) | (intro w _; go_simp; rw [if_neg (by omega)]) | fail
                  try simp only [Act.put, List.setIfInBounds_toArray, List.set_cons_zero, List.set_cons_succ]
                  first | refine upto_run 13 (v := ?_) hU1 (by kernel_rfl) rfl (by kernel_rfl) (by kernel_rfl) (by kernel_rfl) (by kernel_rfl) (fun _ _ _ h => h) (Or.inl ⟨by rfl, ?_⟩) ?_ | fail
                  rotate_left
                  · first | (intro w _; go_simp; with_reducible rfl) | (intro w _; go_simp; done) | (intro w _; go_simp; rw [if_neg (by omega)]) | fail
                  try simp only [Act.put, List.setIfInBounds_toArray, List.set_cons_zero, List.set_cons_succ]
                  first | refine upto_run 14 (v := ?_) hU1 (by kernel_rfl) rfl (by kernel_rfl) (by kernel_rfl) (by kernel_rfl) (by kernel_rfl) (fun _ _ _ h => h) (Or.inl ⟨by rfl, ?_⟩) ?_ | fail
                  rotate_left
                  · first | (intro w _; go_simp; with_reducible rfl) | (intro w _; go_simp; done) | (intro w _; go_simp; rw [if_neg (by omega)]) | fail
                  try simp only [Act.put, List.setIfInBounds_toArray, List.set_cons_zero, List.set_cons_succ]
                  first | refine upto_run 15 (v := ?_) hU1 (by kernel_rfl) rfl (by kernel_rfl) (by kernel_rfl) (by kernel_rfl) (by kernel_rfl) (fun _ _ _ h => h) (Or.inl ⟨by rfl, ?_⟩) ?_ | fail
                  rotate_left
                  · first | (intro w _; go_simp; with_reducible rfl) | (intro w _; go_simp; done) | (intro w _; go_simp; rw [if_neg (by omega)]) | fail
                  try simp only [Act.put, List.setIfInBounds_toArray, List.set_cons_zero, List.set_cons_succ]
                  first | refine upto_read 16 (v := ?_) hU1 (by kernel_rfl) rfl (by kernel_rfl) (by kernel_rfl) (by kernel_rfl) (by kernel_rfl) (by kernel_rfl) (fun _ _ _ h => h) (Or.inl ⟨by rfl, ?_⟩) ?_ | fail
                  rotate_left
                  · first | (intro w hSw; (try dsimp only at hSw); go_simp; with_reducible rfl) | (intro w hSw; (try dsimp only at hSw); go_simp; done) | fail
                  try simp only [Act.put, List.setIfInBounds_toArray, List.set_cons_zero, List.set_cons_succ]
                  first | refine upto_next 17 rfl (by kernel_rfl) (fun K hK => ?_) | fail
                  go_simp
                  go_at_call_of 36 (Value.agg #[.int .i64 blk.term.b.reg, .int .i64 blk.term.b.num])
                  refine (HAb.out w8 hbW).mono ?_
                  rintro e w9 ⟨rfl, hb9⟩
                  have hbX9 : Below W.heap.size W w9 := hbW.bt hb9
                  try go_simp
                  first | refine hK.out _ _ ?_ (fun hU2 => ?_) | (go_wp2_with fail; refine hK.out _ _ ?_ (fun hU2 => ?_)) | fail
                  · exact Or.inr ⟨later n1 hbX9, later t1 hbX9, later t3 hbX9, later t4 hbX9, later t5 hbX9, later t6 hbX9⟩
                  clear hK K
                  clear hU1
                  try simp only [Act.put, List.setIfInBounds_toArray, List.set_cons_zero, List.set_cons_succ]
                  first | refine upto_run 18 (v := ?_) hU2 (by kernel_rfl) rfl (by kernel_rfl) (by kernel_rfl) (by kernel_rfl) (by kernel_rfl) (fun _ _ _ h => h) (Or.inl ⟨by rfl, ?_⟩) ?_ | fail
                  rotate_left
                  · first | (intro w _; go_simp; with_reducible rfl) | (intro w _; go_simp; done) | (intro w _; go_simp; rw [if_neg (by omega)]) | fail
                  try simp only [Act.put, List.setIfInBounds_toArray, List.set_cons_zero, List.set_cons_succ]
                  first | refine upto_run 19 (v := ?_) hU2 (by kernel_rfl) rfl (by kernel_rfl) (by kernel_rfl) (by kernel_rfl) (by kernel_rfl) (fun _ _ _ h => h) (Or.inl ⟨by rfl, ?_⟩) ?_ | fail
                  rotate_left
                  · first | (intro w _; go_simp; with_reducible rfl) | (intro w _; go_simp; done) | (intro w _; go_simp; rw [if_neg (by omega)]) | fail
                  try simp only [Act.put, List.setIfInBounds_toArray, List.set_cons_zero, List.set_cons_succ]
                  obtain ⟨v3, w7, hr, f1, f2, f3, ⟨A3, m3, c3, rfl⟩, HN0, hz7, hk7⟩ := HADD.out hB w9 hbX9
                  have hbX : Below W.heap.size W (w9) := hbX9
                  have HN := Lib.hid HN0
                  have HZ7 := Lib.hid (show Bs ≤ (w7.setCell ⟨w.heap.size + 1, 1, none⟩ (.slice A3 m3 c3)).heap.size by simp; have h1 := hbX.size; have h2 : (w9).heap.size ≤ w7.heap.size := hz7; omega)
                  have HR7 := Lib.hid (show (w7.setCell ⟨w.heap.size + 1, 1, none⟩ (.slice A3 m3 c3)).heap[w.heap.size]? = some (.cells #[.slice none 0 0, .slice none 0 0, .bool false] 81 (0, 0)) from blk_set (hk7 _ _ _ (by decide) (blk_below HRW.out hbX)) (p := ⟨w.heap.size + 1, 1, none⟩) (by simp) _)
                  have HG7 := Lib.hid (hk7 _ _ _ (by decide) (blk_below HGW.out hbX))
                  have HRr : (Builtin.append_ #[36, 36] 36 #[v2, .slice (some ⟨w9.heap.size, 0, none⟩) 1 1]).run Tryd.prog (w9.alloc (.cells #[.bool hB] 4)) = .ok (.slice A3 m3 c3) w7 := hr
                  have hbA : Below W.heap.size W (w9.alloc (.cells #[.bool hB] 4)) := below_alloc _ hbX9
                  clear hr HN0 hz7 hk7
                  first | refine upto_next 20 rfl (by kernel_rfl) (fun K hK => ?_) | fail
                  go_simp
                  first | refine hK.out _ _ ?_ (fun hU3 => ?_) | (go_wp2_with fail; refine hK.out _ _ ?_ (fun hU3 => ?_)) | fail
                  · exact Or.inr ⟨later n1 hbA, later t1 hbA, later t3 hbA, later t4 hbA, later t5 hbA, later t6 hbA⟩
                  clear hK K
                  clear hU2
                  try simp only [Act.put, List.setIfInBounds_toArray, List.set_cons_zero, List.set_cons_succ]
                  first | refine upto_next 21 rfl (by kernel_rfl) (fun K hK => ?_) | fail
                  refine step_append_run rfl (.tmp 95) (.tmp 114) 36 rfl _ _ _ _ rfl rfl HRr ?_
                  try go_simp
                  first | refine hK.out _ _ ?_ (fun hU4 => ?_) | (go_wp2_with fail; refine hK.out _ _ ?_ (fun hU4 => ?_)) | fail
                  · exact Or.inr ⟨f1, blk_cell HG7.out rfl, blk_cell HG7.out rfl, blk_cell HG7.out rfl, blk_cell HG7.out rfl, blk_cell HG7.out rfl⟩
                  clear hK K
                  clear hU3
                  try simp only [Act.put, List.setIfInBounds_toArray, List.set_cons_zero, List.set_cons_succ]
                  first | refine upto_run 22 (v := ?_) hU4 (by kernel_rfl) rfl (by kernel_rfl) (by kernel_rfl) (by kernel_rfl) (by kernel_rfl) (fun _ _ _ h => h) (Or.inl ⟨by rfl, ?_⟩) ?_ | fail
                  rotate_left
                  · first | (intro w _; go_simp; with_reducible rfl) | (intro w _; go_simp; done) | (intro w _; go_simp; rw [if_neg (by omega)]) | fail
                  try simp only [Act.put, List.setIfInBounds_toArray, List.set_cons_zero, List.set_cons_succ]
                  first | refine upto_next 23 rfl (by kernel_rfl) (fun K hK => ?_) | fail
                  go_simp
                  first | refine hK.out _ _ ?_ (fun hU5 => ?_) | (go_wp2_with fail; refine hK.out _ _ ?_ (fun hU5 => ?_)) | fail
                  · exact Or.inl (by kernel_rfl)
                  clear hK K
                  clear hU4
                  try simp only [Act.put, List.setIfInBounds_toArray, List.set_cons_zero, List.set_cons_succ]
                  refine upto_done (by kernel_rfl) ?_ _
                  go_wp2_with fail
                  go_roundw
                  case rel => exact ⟨j + 1, _, _, _, es ++ [hB], _, bs ++ [zs], by omega, by go_num, by rw [List.map_append]; exact HN.out, HLL2.out, HR7.out, HZ7.out⟩
                  case measure => simp [intOf]; omega
                · refine upto_begin 23 (fun w' => w'.cell? ⟨w.heap.size + 1, 1, none⟩ = some (v2) ∧ w'.cell? ⟨gb, 1, none⟩ = some (.int .i64 blk.term.kind) ∧ w'.cell? ⟨gb, 3, none⟩ = some (.int .i64 blk.term.a.reg) ∧ w'.cell? ⟨gb, 4, none⟩ = some (.int .i64 blk.term.a.num) ∧ w'.cell? ⟨gb, 5, none⟩ = some (.int .i64 blk.term.b.reg) ∧ w'.cell? ⟨gb, 6, none⟩ = some (.int .i64 blk.term.b.num)) (by kernel_rfl) ?_ (fun hU0 => ?_)
                  · exact ⟨n1, t1, t3, t4, t5, t6⟩
                  first | refine upto_run 0 (v := ?_) hU0 (by kernel_rfl) rfl (by kernel_rfl) (by kernel_rfl) (by kernel_rfl) (by kernel_rfl) (fun _ _ _ h => h) (Or.inl ⟨by rfl, ?_⟩) ?_ | fail
                  rotate_left
                  · first | (intro w _; go_simp; with_reducible rfl) | (intro w _; go_simp; done) | (intro w _; go_simp; rw [if_neg (by omega)]) | fail
                  try simp only [Act.put, List.setIfInBounds_toArray, List.set_cons_zero, List.set_cons_succ]
                  first | refine upto_read 1 (v := ?_) hU0 (by kernel_rfl) rfl (by kernel_rfl) (by kernel_rfl) (by kernel_rfl) (by kernel_rfl) (by kernel_rfl) (fun _ _ _ h => h) (Or.inl ⟨by rfl, ?_⟩) ?_ | fail
                  rotate_left
                  · first | (intro w hSw; (try dsimp only at hSw); go_simp; with_reducible rfl) | (intro w hSw; (try dsimp only at hSw); go_simp; done) | fail
                  try simp only [Act.put, List.setIfInBounds_toArray, List.set_cons_zero, List.set_cons_succ]
                  first | refine upto_run 2 (v := ?_) hU0 (by kernel_rfl) rfl (by kernel_rfl) (by kernel_rfl) (by kernel_rfl) (by kernel_rfl) (fun _ _ _ h => h) (Or.inl ⟨by rfl, ?_⟩) ?_ | fail
                  rotate_left
                  · first | (intro w _; go_simp; with_reducible rfl) | (intro w _; go_simp; done) | (intro w _; go_simp; rw [if_neg (by omega)]) | fail
                  try simp only [Act.put, List.setIfInBounds_toArray, List.set_cons_zero, List.set_cons_succ]
                  first | refine upto_run 3 (v := ?_) hU0 (by kernel_rfl) rfl (by kernel_rfl) (by kernel_rfl) (by kernel_rfl) (by kernel_rfl) (fun _ _ _ h => h) (Or.inl ⟨by rfl, ?_⟩) ?_ | fail
                  rotate_left
                  · first | (intro w _; go_simp; with_reducible rfl) | (intro w _; go_simp; done) | (intro w _; go_simp; rw [if_neg (by omega)]) | fail
                  try simp only [Act.put, List.setIfInBounds_toArray, List.set_cons_zero, List.set_cons_succ]
                  first | refine upto_read 4 (v := ?_) hU0 (by kernel_rfl) rfl (by kernel_rfl) (by kernel_rfl) (by kernel_rfl) (by kernel_rfl) (by kernel_rfl) (fun _ _ _ h => h) (Or.inl ⟨by rfl, ?_⟩) ?_ | fail
                  rotate_left
                  · first | (intro w hSw; (try dsimp only at hSw); go_simp; with_reducible rfl) | (intro w hSw; (try dsimp only at hSw); go_simp; done) | fail
                  try simp only [Act.put, List.setIfInBounds_toArray, List.set_cons_zero, List.set_cons_succ]
                  first | refine upto_run 5 (v := ?_) hU0 (by kernel_rfl) rfl (by kernel_rfl) (by kernel_rfl) (by kernel_rfl) (by kernel_rfl) (fun _ _ _ h => h) (Or.inl ⟨by rfl, ?_⟩) ?_ | fail
                  rotate_left
                  · first | (intro w _; go_simp; with_reducible rfl) | (intro w _; go_simp; done) | (intro w _; go_simp; rw [if_neg (by omega)]) | fail
                  try simp only [Act.put, List.setIfInBounds_toArray, List.set_cons_zero, List.set_cons_succ]
                  first | refine upto_run 6 (v := ?_) hU0 (by kernel_rfl) rfl (by kernel_rfl) (by kernel_rfl) (by kernel_rfl) (by kernel_rfl) (fun _ _ _ h => h) (Or.inl ⟨by rfl, ?_⟩) ?_ | fail
                  rotate_left
                  · first | (intro w _; go_simp; with_reducible rfl) | (intro w _; go_simp; done) | (intro w _; go_simp; rw [if_neg (by omega)]) | fail
                  try simp only [Act.put, List.setIfInBounds_toArray, List.set_cons_zero, List.set_cons_succ]
                  first | refine upto_run 7 (v := ?_) hU0 (by kernel_rfl) rfl (by kernel_rfl) (by kernel_rfl) (by kernel_rfl) (by kernel_rfl) (fun _ _ _ h => h) (Or.inl ⟨by rfl, ?_⟩) ?_ | fail
                  rotate_left
                  · first | (intro w _; go_simp; with_reducible rfl) | (intro w _; go_simp; done) | (intro w _; go_simp; rw [if_neg (by omega)]) | fail
                  try simp only [Act.put, List.setIfInBounds_toArray, List.set_cons_zero, List.set_cons_succ]
                  first | refine upto_run 8 (v := ?_) hU0 (by kernel_rfl) rfl (by kernel_rfl) (by kernel_rfl) (by kernel_rfl) (by kernel_rfl) (fun _ _ _ h => h) (Or.inl ⟨by rfl, ?_⟩) ?_ | fail
                  rotate_left
                  · first | (intro w _; go_simp; with_reducible rfl) | (intro w _; go_simp; done) | (intro w _; go_simp; rw [if_neg (by omega)]) | fail
                  try simp only [Act.put, List.setIfInBounds_toArray, List.set_cons_zero, List.set_cons_succ]
                  first | refine upto_run 9 (v := ?_) hU0 (by kernel_rfl) rfl (by kernel_rfl) (by kernel_rfl) (by kernel_rfl) (by kernel_rfl) (fun _ _ _ h => h) (Or.inl ⟨by rfl, ?_⟩) ?_ | fail
                  rotate_left
                  · first | (intro w _; go_simp; with_reducible rfl) | (intro w _; go_simp; done) | (intro w _; go_simp; rw [if_neg (by omega)]) | fail
                  try simp only [Act.put, List.setIfInBounds_toArray, List.set_cons_zero, List.set_cons_succ]
                  first | refine upto_read 10 (v := ?_) hU0 (by kernel_rfl) rfl (by kernel_rfl) (by kernel_rfl) (by kernel_rfl) (by kernel_rfl) (by kernel_rfl) (fun _ _ _ h => h) (Or.inl ⟨by rfl, ?_⟩) ?_ | fail
                  rotate_left
                  · first | (intro w hSw; (try dsimp only at hSw); go_simp; with_reducible rfl) | (intro w hSw; (try dsimp only at hSw); go_simp; done) | fail
                  try simp only [Act.put, List.setIfInBounds_toArray, List.set_cons_zero, List.set_cons_succ]
                  first | refine upto_next 11 rfl (by kernel_rfl) (fun K hK => ?_) | fail
                  go_simp
                  go_at_call_of 36 (Value.agg #[.int .i64 blk.term.a.reg, .int .i64 blk.term.a.num])
                  refine (HAa.out W.drew (Below.drew (Below.refl _ _))).mono ?_
                  rintro e w8 ⟨rfl, hb8⟩
                  have hbW : Below W.heap.size W w8 := ⟨hb8.os, hb8.tape, hb8.output, hb8.size, hb8.block⟩
                  try go_simp
                  first | refine hK.out _ _ ?_ (fun hU1 => ?_) | (go_wp2_with fail; refine hK.out _ _ ?_ (fun hU1 => ?_)) | fail
                  · exact Or.inr ⟨later n1 hbW, later t1 hbW, later t3 hbW, later t4 hbW, later t5 hbW, later t6 hbW⟩
                  clear hK K
                  clear hU0
                  try simp only [Act.put, List.setIfInBounds_toArray, List.set_cons_zero, List.set_cons_succ]
                  first | refine upto_run 12 (v := ?_) hU1 (by kernel_rfl) rfl (by kernel_rfl) (by kernel_rfl) (by kernel_rfl) (by kernel_rfl) (fun _ _ _ h => h) (Or.inl ⟨by rfl, ?_⟩) ?_ | fail
                  rotate_left
                  · first | (intro w _; go_simp; with_reducible rfl) | (intro w _; go_simp; done) | (intro w _; go_simp; rw [if_neg (by omega)]) | fail
                  try simp only [Act.put, List.setIfInBounds_toArray, List.set_cons_zero, List.set_cons_succ]
                  refine upto_run 13 (v := undef) hU1 (by kernel_rfl) rfl (by kernel_rfl) (by kernel_rfl) (by kernel_rfl) (by kernel_rfl) (fun _ _ _ h => h) (Or.inr ⟨by rfl, rfl⟩) ?_
                  try simp only [Act.put, List.setIfInBounds_toArray, List.set_cons_zero, List.set_cons_succ]
                  refine upto_run 14 (v := undef) hU1 (by kernel_rfl) rfl (by kernel_rfl) (by kernel_rfl) (by kernel_rfl) (by kernel_rfl) (fun _ _ _ h => h) (Or.inr ⟨by rfl, rfl⟩) ?_
                  try simp only [Act.put, List.setIfInBounds_toArray, List.set_cons_zero, List.set_cons_succ]
                  refine upto_run 15 (v := undef) hU1 (by kernel_rfl) rfl (by kernel_rfl) (by kernel_rfl) (by kernel_rfl) (by kernel_rfl) (fun _ _ _ h => h) (Or.inr ⟨by rfl, rfl⟩) ?_
                  try simp only [Act.put, List.setIfInBounds_toArray, List.set_cons_zero, List.set_cons_succ]
                  refine upto_run 16 (v := undef) hU1 (by kernel_rfl) rfl (by kernel_rfl) (by kernel_rfl) (by kernel_rfl) (by kernel_rfl) (fun _ _ _ h => h) (Or.inr ⟨by rfl, rfl⟩) ?_
                  try simp only [Act.put, List.setIfInBounds_toArray, List.set_cons_zero, List.set_cons_succ]
                  refine upto_run 17 (v := undef) hU1 (by kernel_rfl) rfl (by kernel_rfl) (by kernel_rfl) (by kernel_rfl) (by kernel_rfl) (fun _ _ _ h => h) (Or.inr ⟨by rfl, rfl⟩) ?_
                  try simp only [Act.put, List.setIfInBounds_toArray, List.set_cons_zero, List.set_cons_succ]
                  first | refine upto_run 18 (v := ?_) hU1 (by kernel_rfl) rfl (by kernel_rfl) (by kernel_rfl) (by kernel_rfl) (by kernel_rfl) (fun _ _ _ h => h) (Or.inl ⟨by rfl, ?_⟩) ?_ | fail
                  rotate_left
                  · first | (intro w _; go_simp; with_reducible rfl) | (intro w _; go_simp; done) | (intro w _; go_simp; rw [if_neg (by omega)]) | fail
                  try simp only [Act.put, List.setIfInBounds_toArray, List.set_cons_zero, List.set_cons_succ]
                  first | refine upto_run 19 (v := ?_) hU1 (by kernel_rfl) rfl (by kernel_rfl) (by kernel_rfl) (by kernel_rfl) (by kernel_rfl) (fun _ _ _ h => h) (Or.inl ⟨by rfl, ?_⟩) ?_ | fail
                  rotate_left
                  · first | (intro w _; go_simp; with_reducible rfl) | (intro w _; go_simp; done) | (intro w _; go_simp; rw [if_neg (by omega)]) | fail
                  try simp only [Act.put, List.setIfInBounds_toArray, List.set_cons_zero, List.set_cons_succ]
                  obtain ⟨v3, w7, hr, f1, f2, f3, ⟨A3, m3, c3, rfl⟩, HN0, hz7, hk7⟩ := HADD.out true w8 hbW
                  have hbX : Below W.heap.size W (w8) := hbW
                  have HN := Lib.hid HN0
                  have HZ7 := Lib.hid (show Bs ≤ (w7.setCell ⟨w.heap.size + 1, 1, none⟩ (.slice A3 m3 c3)).heap.size by simp; have h1 := hbX.size; have h2 : (w8).heap.size ≤ w7.heap.size := hz7; omega)
                  have HR7 := Lib.hid (show (w7.setCell ⟨w.heap.size + 1, 1, none⟩ (.slice A3 m3 c3)).heap[w.heap.size]? = some (.cells #[.slice none 0 0, .slice none 0 0, .bool false] 81 (0, 0)) from blk_set (hk7 _ _ _ (by decide) (blk_below HRW.out hbX)) (p := ⟨w.heap.size + 1, 1, none⟩) (by simp) _)
                  have HG7 := Lib.hid (hk7 _ _ _ (by decide) (blk_below HGW.out hbX))
                  have HRr : (Builtin.append_ #[36, 36] 36 #[v2, .slice (some ⟨w8.heap.size, 0, none⟩) 1 1]).run Tryd.prog (w8.alloc (.cells #[.bool true] 4)) = .ok (.slice A3 m3 c3) w7 := hr
                  have hbA : Below W.heap.size W (w8.alloc (.cells #[.bool true] 4)) := below_alloc _ hbW
                  clear hr HN0 hz7 hk7
                  first | refine upto_next 20 rfl (by kernel_rfl) (fun K hK => ?_) | fail
                  go_simp
                  first | refine hK.out _ _ ?_ (fun hU2 => ?_) | (go_wp2_with fail; refine hK.out _ _ ?_ (fun hU2 => ?_)) | fail
                  · exact Or.inr ⟨later n1 hbA, later t1 hbA, later t3 hbA, later t4 hbA, later t5 hbA, later t6 hbA⟩
                  clear hK K
                  clear hU1
                  try simp only [Act.put, List.setIfInBounds_toArray, List.set_cons_zero, List.set_cons_succ]
                  first | refine upto_next 21 rfl (by kernel_rfl) (fun K hK => ?_) | fail
                  refine step_append_run rfl (.tmp 95) (.tmp 114) 36 rfl _ _ _ _ rfl rfl HRr ?_
                  try go_simp
                  first | refine hK.out _ _ ?_ (fun hU3 => ?_) | (go_wp2_with fail; refine hK.out _ _ ?_ (fun hU3 => ?_)) | fail
                  · exact Or.inr ⟨f1, blk_cell HG7.out rfl, blk_cell HG7.out rfl, blk_cell HG7.out rfl, blk_cell HG7.out rfl, blk_cell HG7.out rfl⟩
                  clear hK K
                  clear hU2
                  try simp only [Act.put, List.setIfInBounds_toArray, List.set_cons_zero, List.set_cons_succ]
                  first | refine upto_run 22 (v := ?_) hU3 (by kernel_rfl) rfl (by kernel_rfl) (by kernel_rfl) (by kernel_rfl) (by kernel_rfl) (fun _ _ _ h => h) (Or.inl ⟨by rfl, ?_⟩) ?_ | fail
                  rotate_left
                  · first | (intro w _; go_simp; with_reducible rfl) | (intro w _; go_simp; done) | (intro w _; go_simp; rw [if_neg (by omega)]) | fail
                  try simp only [Act.put, List.setIfInBounds_toArray, List.set_cons_zero, List.set_cons_succ]
                  first | refine upto_next 23 rfl (by kernel_rfl) (fun K hK => ?_) | fail
                  go_simp
                  first | refine hK.out _ _ ?_ (fun hU4 => ?_) | (go_wp2_with fail; refine hK.out _ _ ?_ (fun hU4 => ?_)) | fail
                  · exact Or.inl (by kernel_rfl)
                  clear hK K
                  clear hU3
                  try simp only [Act.put, List.setIfInBounds_toArray, List.set_cons_zero, List.set_cons_succ]
                  refine upto_done (by kernel_rfl) ?_ _
                  go_wp2_with fail
                  go_roundw
                  case rel => exact ⟨j + 1, _, _, _, es ++ [true], _, bs ++ [zs], by omega, by go_num, by rw [List.map_append]; exact HN.out, HLL2.out, HR7.out, HZ7.out⟩
                  case measure => simp [intOf]; omega
              · have b1 : (blk.term.kind == 2) = false := by simpa using hk2
                clear hk2
                obtain ⟨v3, w7, hr, f1, f2, f3, ⟨A3, m3, c3, rfl⟩, HN0, hz7, hk7⟩ := HADD.out false W.drew (Below.drew (Below.refl _ _))
                have hbX : Below W.heap.size W (W.drew) := (Below.drew (Below.refl _ _))
                have HN := Lib.hid HN0
                have HZ7 := Lib.hid (show Bs ≤ (w7.setCell ⟨w.heap.size + 1, 1, none⟩ (.slice A3 m3 c3)).heap.size by simp; have h1 := hbX.size; have h2 : (W.drew).heap.size ≤ w7.heap.size := hz7; omega)
                have HR7 := Lib.hid (show (w7.setCell ⟨w.heap.size + 1, 1, none⟩ (.slice A3 m3 c3)).heap[w.heap.size]? = some (.cells #[.slice none 0 0, .slice none 0 0, .bool false] 81 (0, 0)) from blk_set (hk7 _ _ _ (by decide) (blk_below HRW.out hbX)) (p := ⟨w.heap.size + 1, 1, none⟩) (by simp) _)
                have HG7 := Lib.hid (hk7 _ _ _ (by decide) (blk_below HGW.out hbX))
                have HRr : (Builtin.append_ #[36, 36] 36 #[v2, .slice (some ⟨W.heap.size, 0, none⟩) 1 1]).run Tryd.prog ((W.alloc (.cells #[.bool false] 4)).drew) = .ok (.slice A3 m3 c3) w7 := hr
                have hbA : Below W.heap.size W ((W.alloc (.cells #[.bool false] 4)).drew) := Below.drew (below_alloc _ (Below.refl _ _))
                clear hr HN0 hz7 hk7
                refine upto_begin 23 (fun w' => w'.cell? ⟨w.heap.size + 1, 1, none⟩ = some (v2) ∧ w'.cell? ⟨gb, 1, none⟩ = some (.int .i64 blk.term.kind) ∧ w'.cell? ⟨gb, 3, none⟩ = some (.int .i64 blk.term.a.reg) ∧ w'.cell? ⟨gb, 4, none⟩ = some (.int .i64 blk.term.a.num) ∧ w'.cell? ⟨gb, 5, none⟩ = some (.int .i64 blk.term.b.reg) ∧ w'.cell? ⟨gb, 6, none⟩ = some (.int .i64 blk.term.b.num)) (by kernel_rfl) ?_ (fun hU0 => ?_)
                · exact ⟨n1, t1, t3, t4, t5, t6⟩
                first | refine upto_run 0 (v := ?_) hU0 (by kernel_rfl) rfl (by kernel_rfl) (by kernel_rfl) (by kernel_rfl) (by kernel_rfl) (fun _ _ _ h => h) (Or.inl ⟨by rfl, ?_⟩) ?_ | fail
                rotate_left
                · first | (intro w _; go_simp; with_reducible rfl) | (intro w _; go_simp; done) | (intro w _; go_simp; rw [if_neg (by omega)]) | fail
                try simp only [Act.put, List.setIfInBounds_toArray, List.set_cons_zero, List.set_cons_succ]
                first | refine upto_read 1 (v := ?_) hU0 (by kernel_rfl) rfl (by kernel_rfl) (by kernel_rfl) (by kernel_rfl) (by kernel_rfl) (by kernel_rfl) (fun _ _ _ h => h) (Or.inl ⟨by rfl, ?_⟩) ?_ | fail
                rotate_left
                · first | (intro w hSw; (try dsimp only at hSw); go_simp; with_reducible rfl) | (intro w hSw; (try dsimp only at hSw); go_simp; done) | fail
                try simp only [Act.put, List.setIfInBounds_toArray, List.set_cons_zero, List.set_cons_succ]
                first | refine upto_run 2 (v := ?_) hU0 (by kernel_rfl) rfl (by kernel_rfl) (by kernel_rfl) (by kernel_rfl) (by kernel_rfl) (fun _ _ _ h => h) (Or.inl ⟨by rfl, ?_⟩) ?_ | fail
                rotate_left
                · first | (intro w _; go_simp; with_reducible rfl) | (intro w _; go_simp; done) | (intro w _; go_simp; rw [if_neg (by omega)]) | fail
                try simp only [Act.put, List.setIfInBounds_toArray, List.set_cons_zero, List.set_cons_succ]
                first | refine upto_run 3 (v := ?_) hU0 (by kernel_rfl) rfl (by kernel_rfl) (by kernel_rfl) (by kernel_rfl) (by kernel_rfl) (fun _ _ _ h => h) (Or.inl ⟨by rfl, ?_⟩) ?_ | fail
                rotate_left
                · first | (intro w _; go_simp; with_reducible rfl) | (intro w _; go_simp; done) | (intro w _; go_simp; rw [if_neg (by omega)]) | fail
                try simp only [Act.put, List.setIfInBounds_toArray, List.set_cons_zero, List.set_cons_succ]
                first | refine upto_read 4 (v := ?_) hU0 (by kernel_rfl) rfl (by kernel_rfl) (by kernel_rfl) (by kernel_rfl) (by kernel_rfl) (by kernel_rfl) (fun _ _ _ h => h) (Or.inl ⟨by rfl, ?_⟩) ?_ | fail
                rotate_left
                · first | (intro w hSw; (try dsimp only at hSw); go_simp; with_reducible rfl) | (intro w hSw; (try dsimp only at hSw); go_simp; done) | fail
                try simp only [Act.put, List.setIfInBounds_toArray, List.set_cons_zero, List.set_cons_succ]
                first | refine upto_run 5 (v := ?_) hU0 (by kernel_rfl) rfl (by kernel_rfl) (by kernel_rfl) (by kernel_rfl) (by kernel_rfl) (fun _ _ _ h => h) (Or.inl ⟨by rfl, ?_⟩) ?_ | fail
                rotate_left
                · first | (intro w _; go_simp; with_reducible rfl) | (intro w _; go_simp; done) | (intro w _; go_simp; rw [if_neg (by omega)]) | fail
                try simp only [Act.put, List.setIfInBounds_toArray, List.set_cons_zero, List.set_cons_succ]
                first | refine upto_run 6 (v := ?_) hU0 (by kernel_rfl) rfl (by kernel_rfl) (by kernel_rfl) (by kernel_rfl) (by kernel_rfl) (fun _ _ _ h => h) (Or.inl ⟨by rfl, ?_⟩) ?_ | fail
                rotate_left
                · first | (intro w _; go_simp; with_reducible rfl) | (intro w _; go_simp; done) | (intro w _; go_simp; rw [if_neg (by omega)]) | fail
                try simp only [Act.put, List.setIfInBounds_toArray, List.set_cons_zero, List.set_cons_succ]
                refine upto_run 7 (v := undef) hU0 (by kernel_rfl) rfl (by kernel_rfl) (by kernel_rfl) (by kernel_rfl) (by kernel_rfl) (fun _ _ _ h => h) (Or.inr ⟨by rfl, rfl⟩) ?_
                try simp only [Act.put, List.setIfInBounds_toArray, List.set_cons_zero, List.set_cons_succ]
                refine upto_run 8 (v := undef) hU0 (by kernel_rfl) rfl (by kernel_rfl) (by kernel_rfl) (by kernel_rfl) (by kernel_rfl) (fun _ _ _ h => h) (Or.inr ⟨by rfl, rfl⟩) ?_
                try simp only [Act.put, List.setIfInBounds_toArray, List.set_cons_zero, List.set_cons_succ]
                refine upto_run 9 (v := undef) hU0 (by kernel_rfl) rfl (by kernel_rfl) (by kernel_rfl) (by kernel_rfl) (by kernel_rfl) (fun _ _ _ h => h) (Or.inr ⟨by rfl, rfl⟩) ?_
                try simp only [Act.put, List.setIfInBounds_toArray, List.set_cons_zero, List.set_cons_succ]
                refine upto_run 10 (v := undef) hU0 (by kernel_rfl) rfl (by kernel_rfl) (by kernel_rfl) (by kernel_rfl) (by kernel_rfl) (fun _ _ _ h => h) (Or.inr ⟨by rfl, rfl⟩) ?_
                try simp only [Act.put, List.setIfInBounds_toArray, List.set_cons_zero, List.set_cons_succ]
                refine upto_run 11 (v := undef) hU0 (by kernel_rfl) rfl (by kernel_rfl) (by kernel_rfl) (by kernel_rfl) (by kernel_rfl) (fun _ _ _ h => h) (Or.inr ⟨by rfl, rfl⟩) ?_
                try simp only [Act.put, List.setIfInBounds_toArray, List.set_cons_zero, List.set_cons_succ]
                refine upto_run 12 (v := undef) hU0 (by kernel_rfl) rfl (by kernel_rfl) (by kernel_rfl) (by kernel_rfl) (by kernel_rfl) (fun _ _ _ h => h) (Or.inr ⟨by rfl, rfl⟩) ?_
                try simp only [Act.put, List.setIfInBounds_toArray, List.set_cons_zero, List.set_cons_succ]
                refine upto_run 13 (v := undef) hU0 (by kernel_rfl) rfl (by kernel_rfl) (by kernel_rfl) (by kernel_rfl) (by kernel_rfl) (fun _ _ _ h => h) (Or.inr ⟨by rfl, rfl⟩) ?_
                try simp only [Act.put, List.setIfInBounds_toArray, List.set_cons_zero, List.set_cons_succ]
                refine upto_run 14 (v := undef) hU0 (by kernel_rfl) rfl (by kernel_rfl) (by kernel_rfl) (by kernel_rfl) (by kernel_rfl) (fun _ _ _ h => h) (Or.inr ⟨by rfl, rfl⟩) ?_
                try simp only [Act.put, List.setIfInBounds_toArray, List.set_cons_zero, List.set_cons_succ]
                refine upto_run 15 (v := undef) hU0 (by kernel_rfl) rfl (by kernel_rfl) (by kernel_rfl) (by kernel_rfl) (by kernel_rfl) (fun _ _ _ h => h) (Or.inr ⟨by rfl, rfl⟩) ?_
                try simp only [Act.put, List.setIfInBounds_toArray, List.set_cons_zero, List.set_cons_succ]
                refine upto_run 16 (v := undef) hU0 (by kernel_rfl) rfl (by kernel_rfl) (by kernel_rfl) (by kernel_rfl) (by kernel_rfl) (fun _ _ _ h => h) (Or.inr ⟨by rfl, rfl⟩) ?_
                try simp only [Act.put, List.setIfInBounds_toArray, List.set_cons_zero, List.set_cons_succ]
                refine upto_run 17 (v := undef) hU0 (by kernel_rfl) rfl (by kernel_rfl) (by kernel_rfl) (by kernel_rfl) (by kernel_rfl) (fun _ _ _ h => h) (Or.inr ⟨by rfl, rfl⟩) ?_
                try simp only [Act.put, List.setIfInBounds_toArray, List.set_cons_zero, List.set_cons_succ]
                refine upto_run 18 (v := undef) hU0 (by kernel_rfl) rfl (by kernel_rfl) (by kernel_rfl) (by kernel_rfl) (by kernel_rfl) (fun _ _ _ h => h) (Or.inr ⟨by rfl, rfl⟩) ?_
                try simp only [Act.put, List.setIfInBounds_toArray, List.set_cons_zero, List.set_cons_succ]
                first | refine upto_run 19 (v := ?_) hU0 (by kernel_rfl) rfl (by kernel_rfl) (by kernel_rfl) (by kernel_rfl) (by kernel_rfl) (fun _ _ _ h => h) (Or.inl ⟨by rfl, ?_⟩) ?_ | fail
                rotate_left
                · first | (intro w _; go_simp; with_reducible rfl) | (intro w _; go_simp; done) | (intro w _; go_simp; rw [if_neg (by omega)]) | fail
                try simp only [Act.put, List.setIfInBounds_toArray, List.set_cons_zero, List.set_cons_succ]
                first | refine upto_next 20 rfl (by kernel_rfl) (fun K hK => ?_) | fail
                go_simp
                first | refine hK.out _ _ ?_ (fun hU1 => ?_) | (go_wp2_with fail; refine hK.out _ _ ?_ (fun hU1 => ?_)) | fail
                · exact Or.inr ⟨later n1 hbA, later t1 hbA, later t3 hbA, later t4 hbA, later t5 hbA, later t6 hbA⟩
                clear hK K
                clear hU0
                try simp only [Act.put, List.setIfInBounds_toArray, List.set_cons_zero, List.set_cons_succ]
                first | refine upto_next 21 rfl (by kernel_rfl) (fun K hK => ?_) | fail
                refine step_append_run rfl (.tmp 95) (.tmp 114) 36 rfl _ _ _ _ rfl rfl HRr ?_
                try go_simp
                first | refine hK.out _ _ ?_ (fun hU2 => ?_) | (go_wp2_with fail; refine hK.out _ _ ?_ (fun hU2 => ?_)) | fail
                · exact Or.inr ⟨f1, blk_cell HG7.out rfl, blk_cell HG7.out rfl, blk_cell HG7.out rfl, blk_cell HG7.out rfl, blk_cell HG7.out rfl⟩
                clear hK K
                clear hU1
                try simp only [Act.put, List.setIfInBounds_toArray, List.set_cons_zero, List.set_cons_succ]
                first | refine upto_run 22 (v := ?_) hU2 (by kernel_rfl) rfl (by kernel_rfl) (by kernel_rfl) (by kernel_rfl) (by kernel_rfl) (fun _ _ _ h => h) (Or.inl ⟨by rfl, ?_⟩) ?_ | fail
                rotate_left
                · first | (intro w _; go_simp; with_reducible rfl) | (intro w _; go_simp; done) | (intro w _; go_simp; rw [if_neg (by omega)]) | fail
                try simp only [Act.put, List.setIfInBounds_toArray, List.set_cons_zero, List.set_cons_succ]
                first | refine upto_next 23 rfl (by kernel_rfl) (fun K hK => ?_) | fail
                go_simp
                first | refine hK.out _ _ ?_ (fun hU3 => ?_) | (go_wp2_with fail; refine hK.out _ _ ?_ (fun hU3 => ?_)) | fail
                · exact Or.inl (by kernel_rfl)
                clear hK K
                clear hU2
                try simp only [Act.put, List.setIfInBounds_toArray, List.set_cons_zero, List.set_cons_succ]
                refine upto_done (by kernel_rfl) ?_ _
                go_wp2_with fail
                go_roundw
                case rel => exact ⟨j + 1, _, _, _, es ++ [false], _, bs ++ [zs], by omega, by go_num, by rw [List.map_append]; exact HN.out, HLL2.out, HR7.out, HZ7.out⟩
                case measure => simp [intOf]; omega
        · have e : j = n := by omega
          subst e
          have K2 := Lib.hid HR4.out
          obtain ⟨A1', c1', hv1, _⟩ := own_slice HO1.out.r1
          obtain ⟨A2', c2', hv2, _⟩ := own_slice HO1.out.r2
          subst hv1 hv2
          have m0 : wb.cell? ⟨w.heap.size + 1, 0, none⟩ = _ := blk_cell HO1.out.m rfl
          have m1 : wb.cell? ⟨w.heap.size + 1, 1, none⟩ = _ := blk_cell HO1.out.m rfl
          have m2 : wb.cell? ⟨w.heap.size + 1, 2, none⟩ = _ := blk_cell HO1.out.m rfl
          have ml := blk_lt HO1.out.m
          have HBF := Lib.hid HO1.out.below
          go_wp2_with (refine wpList_store_blk (by rfl) 81 _ _ (by rfl) w.heap.size (by rfl) (by rfl) K2.out (by rfl) (by kernel_rfl) (by kernel_rfl) ?_; intro x2 k3 hb3 hz3 ho3)
          have q0 := blk_cell (i := 0) k3 rfl
          have q1 := blk_cell (i := 1) k3 rfl
          have q2 := blk_cell (i := 2) k3 rfl
          have hbx := hb3 w.heap.size wb (Nat.le_refl _) (Below.refl _ _)
          have hgx : wb.grownBy x2 (some w.heap.size) := ⟨hbx.os, hbx.tape, hbx.output, hbx.size, fun k hk hne => ho3 k (by simpa using hne)⟩
          refine bodyPost_ret (v := .agg #[.slice A1' j c1', .slice A2' j c2', .bool an]) (by simp [results, Tryd.results20, go_sem, q0, q1, q2]) rfl ⟨_, _, an, xs, es, bs, rfl, HO1.out.r1.kept hgx (own_blk HO1.out.r1 K2.out (by decide)), HO1.out.r2.kept hgx (own_blk HO1.out.r2 K2.out (by decide)), HO1.out.rows.step (fun q l v h1 h2 => ⟨h1.kept hgx (own_blk h1 K2.out (by decide)), h2⟩), HLL.out.2, hb3 _ _ (Nat.le_refl _) HBF.out⟩
end Go.Proofs.YtbogcompeefoaaaDoor
