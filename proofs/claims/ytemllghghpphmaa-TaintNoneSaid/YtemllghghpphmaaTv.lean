/- The walk of taint.solve. No condition. -/
import Derived.Test.YtemllghghpphmaaTs
namespace Go.Proofs.Ytemllghghpphmaa
open Go.RowKit
set_option linter.unusedVariables false
set_option maxHeartbeats 4000000
def blkF (f : FuncD) (i : Nat) : BlockD := match f.blocks[i]? with
  | some b => b
  | none => ⟨[], ⟨0, 0, ⟨0, 0⟩, ⟨0, 0⟩, 0, 0⟩⟩
theorem blkF_of {f : FuncD} {i : Nat} {b : BlockD} (h : f.blocks[i]? = some b) : blkF f i = b := by unfold blkF; rw [h]
theorem updL_const (m : Nat) (z : List Nat) : updL (fun _ => z) m z = fun _ => z := by
  funext j
  unfold updL
  split <;> rfl
/-- what solve answers -/
def SolveR (w : World) (f : FuncD) (n K : Nat) (e : Ending) (w' : World) : Prop :=
  ∃ (iv : Value) (vs : List Value) (I : Nat → List Nat), e = .returned iv ∧ TS w w' w.heap.size n n iv vs I ∧ TInv f.secret (blkF f) (nxF f) n K I ∧ TDone (blkF f) (nxF f) n I n ∧ (∀ i : Nat, f.secret[i]? = some true → bitL (I 0) i = true)
set_option maxRecDepth 100000 in
theorem solve_any (W0 w : World) (h0 : Below W0.heap.size W0 w) (fb fo : Nat) (f : FuncD) (vc vb : Value) (c2 : w.cell? ⟨fb, fo + 2, none⟩ = some vc) (c5 : w.cell? ⟨fb, fo + 5, none⟩ = some vb) (R : Nat) (c3 : w.cell? ⟨fb, fo + 3, none⟩ = some (.int .i64 (R : Nat)))
    (hc : SlR W0 1 BoolR vc f.secret) (hb : SlR W0 9 (BlockR W0) vb f.blocks) (n : Nat) (hn : n = f.blocks.length) (h0n : 0 < n) (hn6 : n ≤ 1000000) (hR6 : R ≤ 1000000) (hnx : ∀ i k, i < n → k ∈ nxF f i → 0 ≤ k ∧ k < n)
    (hslim : ∀ b ∈ f.blocks, ∀ x ∈ b.ins, x.args.length ≤ 1000000) (hdst : ∀ b ∈ f.blocks, ∀ x ∈ b.ins, x.dst < R) (hsl : f.secret.length ≤ R) :
    Calls Try.prog 12 #[.pointer (some ⟨fb, fo, none⟩)] w (SolveR w f n ((R + 63) / 64)) := by
  obtain ⟨A, cap, rfl, _, m3, hi⟩ := hb
  obtain ⟨A1, cap1, rfl, _, m4, hi1⟩ := hc
  have HI := Lib.hid hi
  have HI1 := Lib.hid hi1
  have HX := Lib.hid hnx
  have H0 := Lib.hid h0
  have HN := Lib.hid hn
  have HSl := Lib.hid hslim
  have HDs := Lib.hid hdst
  have C5 := Lib.hid c5
  have C3 := Lib.hid c3
  have C2 := Lib.hid c2
  have HSC := Lib.hid hsl
  rw [← hn] at c5 C5
  obtain ⟨w1, hr1, ho1, hb1⟩ := make_sets w n hn6
  have HL1 := Lib.hid (TS.start (w := w) (n := n) ho1 hb1 (fun _ => List.replicate ((R + 63) / 64) 0))
  have BB := Lib.hid (Nat.le_refl w.heap.size)
  have hfl : fb < w.heap.size := World.block_lt_of_cell? _ _ c3
  have HFL := Lib.hid hfl
  clear hi hi1 hnx h0 hn m3 m4 hslim hdst hsl c3 c2 ho1 hb1
  go_enter Try.func12, Try.ntmps12
  go_wp2_with fail
  obtain ⟨gi, hgi⟩ : ∃ z, w.heap.size = z := ⟨_, rfl⟩
  have hfi : fb ≠ gi := by omega
  have HGI := Lib.hid hgi
  rw [hgi] at HL1 ⊢
  clear hr1 hfl hgi c5
  go_loopw [23] (fun i wr => ∃ (m : Nat) (vs : List Value), m ≤ n ∧ i = .int .i64 m ∧ TS w wr w.heap.size n m (.slice (some ⟨gi, 0, none⟩) n n) vs (fun _ => List.replicate ((R + 63) / 64) 0)) (fun i _ => n - (intOf i).toNat)
  case atStart => exact ⟨0, _, by omega, rfl, by have h := HL1.out; rw [← HGI.out] at h ⊢; exact h⟩
  case round =>
    obtain ⟨m, vs, hm, rfl, hL⟩ := hrel
    have HL := Lib.hid hL
    clear hL HL1
    by_cases hlt : m < n
    · have hv1 := HL.out.rest m (Nat.le_refl _) hlt
      obtain ⟨ci1, fi1, li1⟩ := HL.out.cell hlt hv1
      have c3 := later C3.out HL.out.below
      have lfb := World.block_lt_of_cell? _ _ c3
      have CI := Lib.hid (And.intro ci1 (And.intro fi1 li1))
      clear hv1 ci1 fi1 li1
      go_wp2_with fail
      refine (empty_any _ R hR6).mono ?_
      rintro e w3 ⟨v1, rfl, hs1, hb1⟩
      obtain ⟨A3, k3, hv3, _⟩ := hs1.slice_
      rw [List.length_replicate] at hv3
      subst hv3
      have HF := Lib.hid (TS.fill HL.out BB.out hlt hs1 hb1)
      have q1 : w3.cell? ⟨gi, m, none⟩ = some (.slice none 0 0) := later CI.out.1 hb1
      have q2 : w3.frozen? ⟨gi, m, none⟩ = false := (hb1.frozen (p := ⟨gi, m, none⟩) CI.out.2.2).trans CI.out.2.1
      have q3 : gi < w3.heap.size := Nat.lt_of_lt_of_le CI.out.2.2 hb1.size
      rw [updL_const] at HF
      clear hs1 hb1 c3 lfb
      go_wp2_with fail
      go_roundw
      case rel => exact ⟨m + 1, _, by omega, by go_num, HF.out⟩
      case measure => simp [intOf]; omega
    · have e : m = n := by omega
      subst e
      have c2 := later C2.out HL.out.below
      have lfb := World.block_lt_of_cell? _ _ c2
      have hKb : (R + 63) / 64 ≤ 1000000 := by omega
      have HRK := Lib.hid (show R ≤ 64 * ((R + 63) / 64) by omega)
      have HKB := Lib.hid hKb
      have HI0 := Lib.hid (TInv.start f.secret (blkF f) (nxF f) m ((R + 63) / 64))
      have hsc := HSC.out
      clear hKb
      generalize (R + 63) / 64 = K at *
      go_wp2_with fail
      clear c2 lfb
      go_loopw [40] (fun i wr => ∃ (j : Nat) (I : Nat → List Nat), j ≤ f.secret.length ∧ i = .int .i64 j ∧ TS w wr w.heap.size m m (.slice (some ⟨gi, 0, none⟩) m m) vs I ∧ TInv f.secret (blkF f) (nxF f) m K I ∧ (∀ i : Nat, i < j → f.secret[i]? = some true → bitL (I 0) i = true)) (fun i _ => f.secret.length - (intOf i).toNat)
      case atStart => exact ⟨0, _, by omega, rfl, HL.out, HI0.out, fun i hi => by omega⟩
      case round =>
        obtain ⟨j, I, hj, rfl, hL, hI, hS⟩ := hrel
        have HL2 := Lib.hid hL
        have HI2 := Lib.hid hI
        have HS2 := Lib.hid hS
        clear hL hI hS
        by_cases hltj : j < f.secret.length
        · obtain ⟨b, hbj⟩ : ∃ b, f.secret[j]? = some b := ⟨_, List.getElem?_eq_getElem hltj⟩
          have HBJ := Lib.hid hbj
          obtain ⟨lb, lo, cs, rfl, e1, e2, e3⟩ := HI1.out j b hbj
          have e3' : cs = [.bool b] := e3
          subst e3'
          have r0 := later (e2 0 (by omega)) (H0.out.trans (HL2.out.below.mono H0.out.size))
          rw [Nat.add_zero, Nat.mul_one] at r0
          have lr0 := World.block_lt_of_cell? _ _ r0
          clear e1 e2 hbj e3
          cases b with
          | false =>
            have HNS := Lib.hid (show ∀ i : Nat, i < j + 1 → f.secret[i]? = some true → bitL (I 0) i = true from fun i hi h => by
              by_cases e : i = j
              · subst e; rw [HBJ.out] at h; cases h
              · exact HS2.out i (by omega) h)
            go_wp2_with fail
            go_roundw
            case rel => exact ⟨j + 1, I, by omega, by go_num, HL2.out, HI2.out, HNS.out⟩
            case measure => simp [intOf]; omega
          | true =>
            obtain ⟨v, hv, hsv⟩ := HL2.out.si 0 h0n
            obtain ⟨cv, _, hgv⟩ := HL2.out.cell h0n hv
            have HV := Lib.hid hv
            have HSV := Lib.hid hsv
            have hlv := HI2.out.len 0
            obtain ⟨Av, kv, hve, _⟩ := hsv.slice_
            rw [hlv] at hve
            subst hve
            clear hv hsv hlv
            go_wp2_with fail
            refine (put_any _ w.heap.size _ (I 0) (j : Nat) HSV.out (by omega)).mono ?_
            rintro e w4 ⟨rfl, hs4, hg4⟩
            have L4 := Lib.hid (HL2.out.inSet BB.out h0n HV.out hs4 hg4)
            have I4 := Lib.hid (HI2.out.put HBJ.out)
            have hjK : j < 64 * (I 0).length := by have := HRK.out; have := HSC.out; rw [HI2.out.len]; omega
            have S4 := Lib.hid (show ∀ i : Nat, i < j + 1 → f.secret[i]? = some true → bitL (updL I 0 (putL (I 0) j) 0) i = true by rw [updL_same]; exact put_secs HS2.out hjK)
            clear hjK
            clear hs4 hg4 cv hgv
            go_wp2_with fail
            go_roundw
            case rel => exact ⟨j + 1, _, by omega, by go_num, L4.out, I4.out, S4.out⟩
            case measure => simp [intOf]; omega
        · have e : j = f.secret.length := by omega
          subst e
          have HSS := Lib.hid (show ∀ i : Nat, f.secret[i]? = some true → bitL (I 0) i = true from fun i h => HS2.out i (List.getElem?_eq_some_iff.1 h).1 h)
          clear HS2 HI0 HL hsc
          go_wp2_with fail
          go_loopg [7] (m * (64 * K) + 1) (fun g a wr => ∃ (ag : Bool) (I : Nat → List Nat), a = .bool ag ∧ TS w wr w.heap.size m m (.slice (some ⟨gi, 0, none⟩) m m) vs I ∧ TInv f.secret (blkF f) (nxF f) m K I ∧ (∀ i : Nat, f.secret[i]? = some true → bitL (I 0) i = true) ∧ (ag = true → m * (64 * K) + 1 ≤ tot K I m + g) ∧ (ag = false → TDone (blkF f) (nxF f) m I m))
          case atStart => exact ⟨true, I, rfl, HL2.out, HI2.out, HSS.out, (fun _ => by omega), (fun h => by cases h)⟩
          case round =>
            obtain ⟨ag, I, rfl, hL, hI, hS, hT, hD⟩ := hrel
            have HLg := Lib.hid hL
            have HIg := Lib.hid hI
            have HSg := Lib.hid hS
            cases ag
            · have HDg := Lib.hid (hD rfl)
              clear hL hI hT hD hS
              go_wp2_with fail
              go_returns
              exact ⟨_, vs, I, rfl, HLg.out, HIg.out, HDg.out, HSg.out⟩
            · have HTg := Lib.hid (hT rfl)
              have c5 := later C5.out hL.below
              have lfb := World.block_lt_of_cell? _ _ c5
              clear hL hI hT hD hS
              go_wp2_with fail
              clear c5 lfb
              go_loopw [7, 58] (fun a i wr => ∃ (ag : Bool) (j : Nat) (I2 : Nat → List Nat), a = .bool ag ∧ j ≤ m ∧ i = .int .i64 j ∧ TS w wr w.heap.size m m (.slice (some ⟨gi, 0, none⟩) m m) vs I2 ∧ TInv f.secret (blkF f) (nxF f) m K I2 ∧ (∀ i : Nat, f.secret[i]? = some true → bitL (I2 0) i = true) ∧ tot K I m ≤ tot K I2 m ∧ (ag = true → tot K I m < tot K I2 m) ∧ (ag = false → TDone (blkF f) (nxF f) m I2 j)) (fun _ i _ => m - (intOf i).toNat)
              case atStart => exact ⟨false, 0, I, rfl, by omega, rfl, HLg.out, HIg.out, HSg.out, Nat.le_refl _, (fun h => by cases h), (fun _ b k h1 => by omega)⟩
              case round =>
                obtain ⟨ag, j, I2, rfl, hj, rfl, hL, hI, hS, hTl, hT, hD⟩ := hrel
                have HL3 := Lib.hid hL
                have HI3 := Lib.hid hI
                have HS3 := Lib.hid hS
                have HTL := Lib.hid hTl
                have HT3 := Lib.hid hT
                have HD3 := Lib.hid hD
                clear hL hI hS hTl hT hD HLg HIg HSg
                by_cases hltb : j < m
                · obtain ⟨blk, hblk⟩ : ∃ b', f.blocks[j]? = some b' := ⟨_, List.getElem?_eq_getElem (by rw [← HN.out]; exact hltb)⟩
                  obtain ⟨bb, bo, cs, rfl, e1, e2, vi, e3, y1, y2, t1, t2, t3, t4, t5, t6, t7, t8⟩ := HI.out j blk hblk
                  subst e3
                  have H03 := H0.out.trans (HL3.out.below.mono H0.out.size)
                  obtain ⟨A9, cap9, rfl, _, _, h9⟩ := id y1
                  have H9 := Lib.hid h9
                  have r0 := later (e2 0 (by omega)) H03
                  have r1 := later (e2 1 (by omega)) H03
                  have r2 := later (e2 2 (by omega)) H03
                  have r3 := later (e2 3 (by omega)) H03
                  have r4 := later (e2 4 (by omega)) H03
                  have r5 := later (e2 5 (by omega)) H03
                  have r6 := later (e2 6 (by omega)) H03
                  have r7 := later (e2 7 (by omega)) H03
                  have r8 := later (e2 8 (by omega)) H03
                  rw [Nat.add_zero] at r0
                  have lr0 := World.block_lt_of_cell? _ _ r0
                  have HNx := Lib.hid (nxF_of hblk)
                  have HBk := Lib.hid (blkF_of hblk)
                  have HSb := Lib.hid (HSl.out blk (List.mem_of_getElem? hblk))
                  have HDb := Lib.hid (show ∀ x ∈ (blkF f j).ins, x.dst < 64 * K from fun x hx => by
                    rw [HBk.out] at hx
                    have := HDs.out blk (List.mem_of_getElem? hblk) x hx
                    have := HRK.out
                    omega)
                  have hil : blk.ins.length ≤ 140737488351232 := y2
                  obtain ⟨u, hu, hsu⟩ := HL3.out.si j hltb
                  obtain ⟨cu, _, hgu⟩ := HL3.out.cell hltb hu
                  have HU := Lib.hid hu
                  have HSU := Lib.hid hsu
                  have hlu := HI3.out.len j
                  obtain ⟨Au, ku, hue, _⟩ := hsu.slice_
                  rw [hlu] at hue
                  subst hue
                  clear e1 e2 y1 y2 t1 t2 t3 t4 t5 t6 t7 t8 hblk H03 h9 hu hsu hlu
                  go_wp2_with fail
                  have HBO := Lib.hid (blk_new wr (.cells #[.slice A9 blk.ins.length cap9, .int .i64 blk.term.kind, .int .i64 blk.term.op, .int .i64 blk.term.a.reg, .int .i64 blk.term.a.num, .int .i64 blk.term.b.reg, .int .i64 blk.term.b.num, .int .i64 blk.term.to_, .int .i64 blk.term.els] 34))
                  have HWN := Lib.hid (below_alloc (.cells #[.slice A9 blk.ins.length cap9, .int .i64 blk.term.kind, .int .i64 blk.term.op, .int .i64 blk.term.a.reg, .int .i64 blk.term.a.num, .int .i64 blk.term.b.reg, .int .i64 blk.term.b.num, .int .i64 blk.term.to_, .int .i64 blk.term.els] 34) (Below.refl wr.heap.size wr))
                  refine (copy_any _ w.heap.size _ (I2 j) (set_below HSU.out HWN.out) (by rw [HI3.out.len]; exact HKB.out)).mono ?_
                  rintro e w5 ⟨sv, rfl, hs5, hb5⟩
                  have HB5 := Lib.hid (HWN.out.bt hb5)
                  have HS5 := Lib.hid hs5
                  have HBO5 := Lib.hid (blk_below HBO.out hb5)
                  have HL5 := Lib.hid (HL3.out.more BB.out HB5.out)
                  have HAP := Lib.hid (show ∀ (k : Nat) v, vs[k]? = some v → sv.ownBlock = none ∨ sv.ownBlock ≠ v.ownBlock from fun k v hv => by
                    cases hso : sv.ownBlock with
                    | none => exact Or.inl rfl
                    | some q => exact Or.inr (fun e => by
                        have h1 := HL3.out.lt k v hv q e.symm
                        have h2 := (HS5.out.1.lt q hso).1
                        simp at h2
                        omega))
                  have k0 : w5.cell? ⟨wr.heap.size, 0, none⟩ = some (.slice A9 blk.ins.length cap9) := blk_cell HBO5.out rfl
                  have lk0 := blk_lt HBO5.out
                  obtain ⟨gb, hgb⟩ : ∃ z, wr.heap.size = z := ⟨_, rfl⟩
                  rw [hgb] at HBO5 k0 lk0 ⊢
                  clear r0 r1 r2 r3 r4 r5 r6 r7 r8 lr0 hs5 hb5 cu hgu HBO HWN hgb
                  have HO5 := Lib.hid (HI3.out.out hltb HDb.out)
                  go_wp2_with fail
                  clear k0 lk0
                  obtain ⟨wz, rfl⟩ : ∃ wo : World, wo = w5 := ⟨_, rfl⟩
                  go_loopw [71] (fun i wq => ∃ q : Nat, q ≤ blk.ins.length ∧ i = .int .i64 q ∧ SetR wq w.heap.size sv (stepsL (I2 j) (blk.ins.take q)) ∧ wz.grownBy wq sv.ownBlock) (fun i _ => blk.ins.length - (intOf i).toNat)
                  case atStart => exact ⟨0, by omega, rfl, ⟨own_base HS5.out.1 (by have := HL3.out.below.size; simp; omega), HS5.out.2⟩, grownBy_refl _ _⟩
                  case round =>
                    rename World => wq
                    obtain ⟨q, hq, rfl, hsq, hgq⟩ := hrel
                    have HSQ := Lib.hid hsq
                    have HGQ := Lib.hid hgq
                    clear hsq hgq
                    by_cases hltq : q < blk.ins.length
                    · obtain ⟨x, hx⟩ : ∃ x, blk.ins[q]? = some x := ⟨_, List.getElem?_eq_getElem hltq⟩
                      obtain ⟨ib, io, cs, rfl, e1, e2, va, e3, p1, p2, p3, p4, p5, p6, p7, p8, p9, p10, p11⟩ := H9.out q x hx
                      subst e3
                      have HST := Lib.hid (stepsL_take (l := I2 j) hx)
                      have HSx := Lib.hid (HSb.out x (List.mem_of_getElem? hx))
                      have HBq := Lib.hid (show Below W0.heap.size W0 wq from below_of_grown (H0.out.trans (HL5.out.below.mono H0.out.size)) (Nat.le_refl _) HGQ.out (fun k hk => by
                        have h1 := (HSQ.out.1.lt k hk).1
                        have h2 := H0.out.size
                        omega))
                      have r0 := later (e2 0 (by omega)) HBq.out
                      have r1 := later (e2 1 (by omega)) HBq.out
                      have r2 := later (e2 2 (by omega)) HBq.out
                      have r3 := later (e2 3 (by omega)) HBq.out
                      have r4 := later (e2 4 (by omega)) HBq.out
                      have r5 := later (e2 5 (by omega)) HBq.out
                      have r6 := later (e2 6 (by omega)) HBq.out
                      have r7 := later (e2 7 (by omega)) HBq.out
                      have r8 := later (e2 8 (by omega)) HBq.out
                      have r9 := later (e2 9 (by omega)) HBq.out
                      have r10 := later (e2 10 (by omega)) HBq.out
                      have r11 := later (e2 11 (by omega)) HBq.out
                      rw [Nat.add_zero] at r0
                      have lr0 := World.block_lt_of_cell? _ _ r0
                      obtain ⟨Ax, capx, rfl, _, _, _⟩ := id p10
                      have HAL := Lib.hid (below_alloc (.cells #[.int .i64 x.op, .int .i64 x.dst, .int .i64 x.a.reg, .int .i64 x.a.num, .int .i64 x.b.reg, .int .i64 x.b.num, .int .i64 x.size, .bool x.signed, .bool x.secret, .int .i64 x.ref, .int .i64 x.off, .slice Ax x.args.length capx] 29) (Below.refl wq.heap.size wq))
                      have HCA := Lib.hid (step_any _ w.heap.size sv (.slice Ax x.args.length capx) _ x (set_below HSQ.out HAL.out) p1 p2 ⟨p3, p4⟩ ⟨p5, p6⟩ ((p10.later (by decide) HBq.out).later (by decide) HAL.out) HSx.out)
                      clear e1 e2 hx p1 p2 p3 p4 p5 p6 p7 p8 p9 p10 p11
                      go_wp2_with fail
                      refine HCA.out.mono ?_
                      rintro e w6 ⟨rfl, hs6, hg6⟩
                      have HS6 := Lib.hid (show SetR w6 w.heap.size sv (stepsL (I2 j) (blk.ins.take (q + 1))) by rw [HST.out]; exact hs6)
                      have HG6 := Lib.hid (grown_trans HGQ.out (grown_trans (grown_of_below HAL.out) hg6))
                      clear hs6 hg6 r0 r1 r2 r3 r4 r5 r6 r7 r8 r9 r10 r11 lr0 HCA
                      go_wp2_with fail
                      go_roundw
                      case rel => exact ⟨q + 1, by omega, by go_num, HS6.out, HG6.out⟩
                      case measure => simp [intOf]; omega
                    · have e : q = blk.ins.length := by omega
                      subst e
                      rw [List.take_length] at HSQ
                      have HLQ := Lib.hid (show TS w wq w.heap.size m m (.slice (some ⟨gi, 0, none⟩) m m) vs I2 from ⟨HL5.out.ri.kept HGQ.out (own_ne HL5.out.ri HS5.out.1 (by decide)), HL5.out.len, fun k hk => by
                          obtain ⟨v, h1, h2⟩ := HL5.out.si k hk
                          exact ⟨v, h1, own_kept h2 HGQ.out (apart_symm (HAP.out k v h1))⟩, HL5.out.rest, HL5.out.ap, below_of_grown HL5.out.below (Nat.le_refl _) HGQ.out (fun k hk => (HSQ.out.1.lt k hk).1)⟩)
                      have hgbq := blk_kept HBO5.out HGQ.out (own_blk HS5.out.1 HBO5.out (by decide))
                      have s1 := blk_cell (i := 1) hgbq rfl
                      have s2 := blk_cell (i := 2) hgbq rfl
                      have s3 := blk_cell (i := 3) hgbq rfl
                      have s4 := blk_cell (i := 4) hgbq rfl
                      have s5 := blk_cell (i := 5) hgbq rfl
                      have s6 := blk_cell (i := 6) hgbq rfl
                      have s7 := blk_cell (i := 7) hgbq rfl
                      have s8 := blk_cell (i := 8) hgbq rfl
                      have lgb := blk_lt hgbq
                      clear hgbq HGQ HBO5
                      rw [HBk.out] at HO5
                      obtain ⟨st, hst⟩ : ∃ z, stepsL (I2 j) blk.ins = z := ⟨_, rfl⟩
                      rw [hst] at HSQ HO5
                      have HSTE := Lib.hid hst
                      clear hst
                      go_wp2_with fail
                      refine (next_own _ blk.term).mono ?_
                      rintro e w7 ⟨v7, rfl, ho7, hb7⟩
                      have HO7 := Lib.hid (own_base ho7 (Nat.zero_le _))
                      have HL7 := Lib.hid (HLQ.out.more BB.out hb7)
                      have HS7 := Lib.hid (set_below HSQ.out hb7)
                      obtain ⟨A4, cap4, hv4, _⟩ := own_slice HO7.out
                      subst hv4
                      clear s1 s2 s3 s4 s5 s6 s7 s8 lgb ho7 hb7
                      have hT2 := nextT_len blk.term
                      generalize hnt : nextT blk.term = nt at *
                      have HNT := Lib.hid hnt
                      have HTl := Lib.hid hT2
                      clear hT2 hnt
                      go_wp2_with fail
                      have HNN := Lib.hid (show nxF f j = nt from HNx.out)
                      go_loopw [7, 83] (fun a i wr => ∃ (ag2 : Bool) (q : Nat) (I3 : Nat → List Nat), a = .bool ag2 ∧ q ≤ nt.length ∧ i = .int .i64 q ∧ TS w wr w.heap.size m m (.slice (some ⟨gi, 0, none⟩) m m) vs I3 ∧ TInv f.secret (blkF f) (nxF f) m K I3 ∧ (∀ i : Nat, f.secret[i]? = some true → bitL (I3 0) i = true) ∧ SetR wr w.heap.size sv st ∧ OwnI wr 0 (.slice A4 nt.length cap4) nt ∧
                        tot K I m ≤ tot K I3 m ∧ (ag2 = true → tot K I m < tot K I3 m) ∧ (ag2 = false → ag = false ∧ I3 = I2 ∧ ∀ k : Nat, (k : Int) ∈ nt.take q → ∀ r, bitL st r = true → bitL (I2 k) r = true)) (fun _ i _ => nt.length - (intOf i).toNat)
                      case atStart => exact ⟨ag, 0, I2, rfl, by omega, rfl, HL7.out, HI3.out, HS3.out, HS7.out, HO7.out, HTL.out, HT3.out, fun h => ⟨h, rfl, fun k hk => by simp at hk⟩⟩
                      case round =>
                        rename World => wn
                        obtain ⟨ag2, q, I3, rfl, hq, rfl, hL, hI, hS, hsv, hO, hTl, hT, hN⟩ := hrel
                        have HL8 := Lib.hid hL
                        have HI8 := Lib.hid hI
                        have HS8 := Lib.hid hS
                        have HSV8 := Lib.hid hsv
                        have HO8 := Lib.hid hO
                        have HTL8 := Lib.hid hTl
                        have HT8 := Lib.hid hT
                        have HN8 := Lib.hid hN
                        have hnl := HTl.out
                        clear hL hI hS hsv hTl hT hN
                        by_cases hltq : q < nt.length
                        · obtain ⟨k, hk⟩ : ∃ k, nt[q]? = some k := ⟨_, List.getElem?_eq_getElem hltq⟩
                          have hkn := HX.out j k hltb (by rw [HNN.out]; exact List.mem_of_getElem? hk)
                          obtain ⟨k, rfl⟩ : ∃ k' : Nat, k = k' := ⟨k.toNat, by omega⟩
                          have hkm : k < m := by omega
                          obtain ⟨g4, k4, e4, _⟩ := own_form hO (by omega)
                          cases e4
                          have cc := hO.cell hltq _ hk
                          have lcc := World.block_lt_of_cell? _ _ cc
                          have HKq := Lib.hid hk
                          have HKx := Lib.hid (show (k : Int) ∈ nxF f j by rw [HNN.out]; exact List.mem_of_getElem? hk)
                          obtain ⟨v, hv, hsv⟩ := HL8.out.si k hkm
                          obtain ⟨cv, _, hgv⟩ := HL8.out.cell hkm hv
                          have HV := Lib.hid hv
                          have HSV := Lib.hid hsv
                          have hlv := HI8.out.len k
                          have hls := HO5.out.1
                          have HJ := join_any wn w.heap.size w.heap.size _ _ _ _ hsv HSV8.out (HAP.out k v hv)
                          rw [show min (I3 k).length st.length = K by rw [hlv, hls]; simp] at HJ
                          obtain ⟨mk, hmk⟩ : ∃ z, moreK (I3 k) st K = z := ⟨_, rfl⟩
                          rw [hmk] at HJ
                          have HJJ := Lib.hid HJ
                          have HMK := Lib.hid hmk
                          obtain ⟨Av, kv, hve, _⟩ := hsv.slice_
                          rw [hlv] at hve
                          clear hO hk hkn hv hsv HJ hmk hlv hls
                          subst hve
                          go_wp2_with fail
                          refine HJJ.out.mono ?_
                          rintro e w9 ⟨rfl, hs9, hg9⟩
                          have L9 := Lib.hid (HL8.out.inSet BB.out hkm HV.out hs9 hg9)
                          have I9 := Lib.hid (HI8.out.join hltb hkm HKx.out HO5.out.1 HO5.out.2.1 (by rw [HBk.out]; exact HO5.out.2.2))
                          have O9 := Lib.hid (World.ownsRow.kept HO8.out hg9 (own_ne HO8.out HSV.out.1 (by decide)))
                          have V9 := Lib.hid (own_kept HSV8.out hg9 (HAP.out k _ HV.out))
                          have S9 := Lib.hid (show ∀ i : Nat, f.secret[i]? = some true → bitL (updL I3 k (joinK (I3 k) st K) 0) i = true from fun i h => join_grow HI8.out HO5.out.1 0 i (HS8.out i h))
                          clear hs9 hg9 cc lcc HJJ cv hgv
                          cases mk with
                          | true =>
                            have T9 := Lib.hid (Nat.lt_of_le_of_lt HTL8.out (join_tot HI8.out hkm HO5.out.1 HO5.out.2.1 HMK.out))
                            go_wp2_with fail
                            go_roundw
                            case rel => exact ⟨true, q + 1, _, rfl, by omega, by go_num, L9.out, I9.out, S9.out, V9.out, O9.out, Nat.le_of_lt T9.out, fun _ => T9.out, fun h => by cases h⟩
                            case measure => simp [intOf]; omega
                          | false =>
                            have hE : updL I3 k (joinK (I3 k) st K) = I3 := by rw [HI8.out.still HO5.out.1 HO5.out.2.1 HMK.out, updL_self]
                            rw [hE] at L9 I9 S9
                            have HH := Lib.hid (show ∀ r, bitL st r = true → bitL (I3 k) r = true from fun r hr => by
                              have h := join_has HI8.out (k := k) HO5.out.1 r hr
                              rw [hE] at h; exact h)
                            clear hE
                            go_wp2_with fail
                            go_roundw
                            case rel => exact ⟨ag2, q + 1, I3, rfl, by omega, by go_num, L9.out, I9.out, S9.out, V9.out, O9.out, HTL8.out, HT8.out, fun h => by
                              obtain ⟨n1, n2, n3⟩ := HN8.out h
                              refine ⟨n1, n2, fun k2 hk2 r hr => ?_⟩
                              rcases take_mem HKq.out hk2 with h2 | h2
                              · exact n3 k2 h2 r hr
                              · have : k2 = k := by omega
                                subst this
                                rw [← n2]; exact HH.out r hr⟩
                            case measure => simp [intOf]; omega
                        · have e : q = nt.length := by omega
                          subst e
                          rw [List.take_length] at HN8
                          clear hO
                          go_wp2_with fail
                          go_roundw
                          case rel => exact ⟨ag2, j + 1, I3, rfl, by omega, by go_num, HL8.out, HI8.out, HS8.out, HTL8.out, HT8.out, fun h => by
                            obtain ⟨n1, n2, n3⟩ := HN8.out h
                            subst n2
                            intro b k hb hk hx r hr
                            by_cases eb : b = j
                            · subst eb
                              rw [HBk.out, HSTE.out] at hr
                              rw [HNN.out] at hx
                              exact n3 k hx r hr
                            · exact HD3.out n1 b k (by omega) hk hx r hr⟩
                          case measure => simp [intOf]; omega
                · have e : j = m := by omega
                  subst e
                  go_wp2_with fail
                  go_roundg (gk - 1)
                  case measure => have := HTg.out; have := tot_le K I j; omega
                  case rel => exact ⟨ag, I2, rfl, HL3.out, HI3.out, HS3.out, (fun h => by have := HT3.out h; have := HTg.out; omega), HD3.out⟩
end Go.Proofs.Ytemllghghpphmaa
