/- The walk of the statements' live: ways are gone one block at a time. No condition. -/
import Derived.Test.YtcljdhpdknecjaaFl7
import Derived.Test.YtcljdhpdknecjaaFlB
import Derived.Test.YtcljdhpdknecjaaFlD
namespace Go.Proofs.Ytcljdhpdknecjaa
open Go.RowKit
set_option linter.unusedVariables false
set_option maxHeartbeats 2000000
def LiveD (blk : Nat → BlockD) (nx : Nat → List Int) (n r b i base g cap : Nat) (w : World) (l : List Bool) (e : Ending) (w' : World) : Prop :=
  ∃ (ret : Bool) (l2 : List Bool), e = .returned (.bool ret) ∧ OwnB w' base (.slice (some ⟨g, 0, none⟩) n cap) l2 ∧ w.grownBy w' (some g) ∧ l2.length = n ∧ More l l2 ∧ (ret = true → LivePt blk nx n r b i) ∧ (ret = false → ShutPt blk nx r b i l2 ∧ New blk nx r l l2)
theorem new_refl (blk : Nat → BlockD) (nx : Nat → List Int) (r : Nat) (S : List Bool) : New blk nx r S S := fun k h1 h2 => absurd h1 h2
theorem liveD_same {blk : Nat → BlockD} {nx : Nat → List Int} {n r b i base g cap : Nat} {w w' : World} {l : List Bool} (hown : OwnB w base (.slice (some ⟨g, 0, none⟩) n cap) l) (hl : l.length = n) (hb : Below w.heap.size w w') (ret : Bool)
    (h1 : ret = true → LivePt blk nx n r b i) (h2 : ret = false → ShutPt blk nx r b i l) : LiveD blk nx n r b i base g cap w l (.returned (.bool ret)) w' :=
  ⟨ret, l, rfl, own_below hown hb, grown_of_below hb, hl, More.refl l, h1, fun h => ⟨h2 h, new_refl _ _ _ _⟩⟩
set_option maxRecDepth 100000 in
theorem live_rec (W0 : World) (f : FuncD) (A6 A7 A8 : Option Addr) (c6 c7 c8 n6 n7 : Nat) (rg : Int) (hb : SlR W0 9 (BlockR W0) (.slice A8 f.blocks.length c8) f.blocks) (n : Nat) (hn : n = f.blocks.length) (hn6 : n ≤ 1000000)
    (hnx : ∀ i k, i < n → k ∈ nxF f i → 0 ≤ k ∧ k < n) (hslim : ∀ b ∈ f.blocks, ∀ x ∈ b.ins, x.args.length ≤ 1000000) (r : Nat) (hr : r ≤ 1000000) :
    ∀ (c : Nat) (w : World) (base g cap : Nat) (l : List Bool) (b i : Nat), n - cnt (beenB l) n ≤ c → Below W0.heap.size W0 w → W0.heap.size ≤ base → l.length = n → b < n → i ≤ (blkF f b).ins.length → OwnB w base (.slice (some ⟨g, 0, none⟩) n cap) l →
    Calls Try.prog 16 #[.agg #[.string f.name, .int .i64 f.params, .slice A7 n7 c7, .int .i64 rg, .slice A6 n6 c6, .slice A8 n c8], .int .i64 (b : Nat), .int .i64 (i : Nat), .int .i64 (r : Nat), .slice (some ⟨g, 0, none⟩) n cap] w
      (LiveD (blkF f) (nxF f) n r b i base g cap w l) := by
  obtain ⟨A, cap8, hA, _, _, hi⟩ := hb
  cases hA
  have HI := Lib.hid hi
  have HX := Lib.hid hnx
  have HN := Lib.hid hn
  have HSl := Lib.hid hslim
  clear hi hnx hn hslim
  intro c
  induction c using Nat.strongRecOn with
  | ind c ih =>
  intro w base g cap l b i hc h0 hbase hll hbn hil hown
  have IH := Lib.hid ih
  have HC := Lib.hid hc
  have H0 := Lib.hid h0
  have HBase := Lib.hid hbase
  have HLL := Lib.hid hll
  have HOwn := Lib.hid hown
  obtain ⟨blk, hblk⟩ : ∃ b', f.blocks[b]? = some b' := ⟨_, List.getElem?_eq_getElem (by rw [← HN.out]; exact hbn)⟩
  have hbk := blkF_of hblk
  have HNx := Lib.hid (nxF_of hblk)
  have HBk := Lib.hid hbk
  rw [hbk] at hil
  obtain ⟨bb, bo, cs, rfl, e1, e2, vi, e3, y1, y2, t1, t2, t3, t4, t5, t6, t7, t8⟩ := HI.out b blk hblk
  subst e3
  obtain ⟨A9, cap9, rfl, _, _, h9⟩ := y1
  have H9 := Lib.hid h9
  have HT4 := Lib.hid (And.intro t3 t4)
  have HT5 := Lib.hid (And.intro t5 t6)
  have HSb := Lib.hid (HSl.out blk (List.mem_of_getElem? hblk))
  have r0 := later (e2 0 (by omega)) h0
  have r1 := later (e2 1 (by omega)) h0
  have r2 := later (e2 2 (by omega)) h0
  have r3 := later (e2 3 (by omega)) h0
  have r4 := later (e2 4 (by omega)) h0
  have r5 := later (e2 5 (by omega)) h0
  have r6 := later (e2 6 (by omega)) h0
  have r7 := later (e2 7 (by omega)) h0
  have r8 := later (e2 8 (by omega)) h0
  rw [Nat.add_zero] at r0
  have hxl := World.block_lt_of_cell? _ _ r0
  clear e1 e2 t1 t2 t3 t4 t5 t6 t7 t8 hblk h9 ih hc h0 hbase hll hown hbk
  go_enter Try.func16, Try.ntmps16
  go_wp2_with fail
  have HBA := Lib.hid (below_alloc (.cells #[.slice A9 blk.ins.length cap9, .int .i64 blk.term.kind, .int .i64 blk.term.op, .int .i64 blk.term.a.reg, .int .i64 blk.term.a.num, .int .i64 blk.term.b.reg, .int .i64 blk.term.b.num, .int .i64 blk.term.to_, .int .i64 blk.term.els] 52) (below_alloc (.cells #[.string f.name, .int .i64 f.params, .slice A7 n7 c7, .int .i64 rg, .slice A6 n6 c6, .slice (some ⟨bb, bo, none⟩) n c8] 41) (Below.refl w.heap.size w)))
  have HKO := Lib.hid (show (((w.alloc (.cells #[.string f.name, .int .i64 f.params, .slice A7 n7 c7, .int .i64 rg, .slice A6 n6 c6, .slice (some ⟨bb, bo, none⟩) n c8] 41)).alloc (.cells #[.slice A9 blk.ins.length cap9, .int .i64 blk.term.kind, .int .i64 blk.term.op, .int .i64 blk.term.a.reg, .int .i64 blk.term.a.num, .int .i64 blk.term.b.reg, .int .i64 blk.term.b.num, .int .i64 blk.term.to_, .int .i64 blk.term.els] 52)).heap[w.heap.size + 1]? = some (.cells #[.slice A9 blk.ins.length cap9, .int .i64 blk.term.kind, .int .i64 blk.term.op, .int .i64 blk.term.a.reg, .int .i64 blk.term.a.num, .int .i64 blk.term.b.reg, .int .i64 blk.term.b.num, .int .i64 blk.term.to_, .int .i64 blk.term.els] 52 (0, 0))) by
    have := blk_new (w.alloc (.cells #[.string f.name, .int .i64 f.params, .slice A7 n7 c7, .int .i64 rg, .slice A6 n6 c6, .slice (some ⟨bb, bo, none⟩) n c8] 41)) (.cells #[.slice A9 blk.ins.length cap9, .int .i64 blk.term.kind, .int .i64 blk.term.op, .int .i64 blk.term.a.reg, .int .i64 blk.term.a.num, .int .i64 blk.term.b.reg, .int .i64 blk.term.b.num, .int .i64 blk.term.to_, .int .i64 blk.term.els] 52)
    simpa using this)
  have HFO := Lib.hid (blk_alloc (blk_new w (.cells #[.string f.name, .int .i64 f.params, .slice A7 n7 c7, .int .i64 rg, .slice A6 n6 c6, .slice (some ⟨bb, bo, none⟩) n c8] 41)) (.cells #[.slice A9 blk.ins.length cap9, .int .i64 blk.term.kind, .int .i64 blk.term.op, .int .i64 blk.term.a.reg, .int .i64 blk.term.a.num, .int .i64 blk.term.b.reg, .int .i64 blk.term.b.num, .int .i64 blk.term.to_, .int .i64 blk.term.els] 52))
  clear r0 r1 r2 r3 r4 r5 r6 r7 r8 hxl
  obtain ⟨gf, hgf⟩ : ∃ z, z = w.heap.size := ⟨_, rfl⟩
  obtain ⟨wa, hwa⟩ : ∃ wa, wa = (w.alloc (.cells #[.string f.name, .int .i64 f.params, .slice A7 n7 c7, .int .i64 rg, .slice A6 n6 c6, .slice (some ⟨bb, bo, none⟩) n c8] 41)).alloc (.cells #[.slice A9 blk.ins.length cap9, .int .i64 blk.term.kind, .int .i64 blk.term.op, .int .i64 blk.term.a.reg, .int .i64 blk.term.a.num, .int .i64 blk.term.b.reg, .int .i64 blk.term.b.num, .int .i64 blk.term.to_, .int .i64 blk.term.els] 52) := ⟨_, rfl⟩
  rw [← hwa] at HKO HFO HBA ⊢
  rw [← hgf] at HKO HFO ⊢
  have HGF := Lib.hid hgf
  clear hwa hgf
  go_wp2_with fail
  go_loopw [2] (fun s wr => ∃ q : Nat, q ≤ blk.ins.length ∧ s = .int .i64 q ∧ (∀ fl, ptB blk i fl r = ptB blk q fl r) ∧ Below wa.heap.size wa wr) (fun s _ => blk.ins.length - (intOf s).toNat)
  case atStart => exact ⟨i, hil, rfl, fun _ => rfl, Below.refl _ _⟩
  case round =>
    obtain ⟨q, hq, rfl, hpt, hB⟩ := hrel
    have HPT := Lib.hid hpt
    have HB := Lib.hid hB
    have HK1 := Lib.hid (blk_kept HKO.out (grown_of_below (r := none) hB) (Or.inl rfl))
    have HF1 := Lib.hid (blk_kept HFO.out (grown_of_below (r := none) hB) (Or.inl rfl))
    have k0 : wr.cell? ⟨gf + 1, 0, none⟩ = some (.slice A9 blk.ins.length cap9) := blk_cell HK1.out rfl
    have hk0 := blk_lt HK1.out
    have hs0 : W0.heap.size ≤ wr.heap.size := Nat.le_trans H0.out.size (Nat.le_trans HBA.out.size HB.out.size)
    have HW0 := Lib.hid (H0.out.trans ((HBA.out.bt HB.out).mono H0.out.size))
    clear hpt hB
    by_cases hltq : q < blk.ins.length
    · obtain ⟨x, hx⟩ : ∃ x, blk.ins[q]? = some x := ⟨_, List.getElem?_eq_getElem hltq⟩
      obtain ⟨ib, io, cs, rfl, e1, e2, va, e3, u1, u2, u3, u4, u5, u6, u7, u8, u9, u10, u11⟩ := H9.out q x hx
      subst e3
      have HU10 := Lib.hid (u10.later (by decide) HW0.out)
      have HIR := Lib.hid (ireads_any wr x va u1 ⟨u3, u4⟩ ⟨u5, u6⟩ HU10.out (HSb.out x (List.mem_of_getElem? hx)))
      obtain ⟨A5, cap5, rfl, _, _, _⟩ := u10
      have r0 := later (e2 0 (by omega)) HW0.out
      have r1 := later (e2 1 (by omega)) HW0.out
      have r2 := later (e2 2 (by omega)) HW0.out
      have r3 := later (e2 3 (by omega)) HW0.out
      have r4 := later (e2 4 (by omega)) HW0.out
      have r5 := later (e2 5 (by omega)) HW0.out
      have r6 := later (e2 6 (by omega)) HW0.out
      have r7 := later (e2 7 (by omega)) HW0.out
      have r8 := later (e2 8 (by omega)) HW0.out
      have r9 := later (e2 9 (by omega)) HW0.out
      have r10 := later (e2 10 (by omega)) HW0.out
      have r11 := later (e2 11 (by omega)) HW0.out
      rw [Nat.add_zero] at r0
      have R1 := Lib.hid (e2 1 (by omega))
      have HX' := Lib.hid hx
      have HDst := Lib.hid u2
      clear e1 e2 hx u1 u3 u4 u5 u6 u7 u8 u9 u11
      go_wp2_with fail
      refine HIR.out.mono ?_
      rintro e w5 ⟨v5, rfl, hv5, hb5⟩
      have HB5 := Lib.hid (HB.out.bt hb5)
      clear r0 r1 r2 r3 r4 r5 r6 r7 r8 r9 r10 r11 k0 hk0
      obtain ⟨A3, c3, rfl, hl3, hm3, h3⟩ := hv5
      have H3 := Lib.hid h3
      unfold maxLen at hm3
      have HLen := Lib.hid (show (readsD x).length ≤ 9223372036854775807 by omega)
      have hlen := HLen.out
      clear hb5 h3 hl3 hm3
      obtain ⟨rl, hrl⟩ : ∃ z, z = readsD x := ⟨_, rfl⟩
      rw [← hrl] at H3 hlen HLen ⊢
      have HRL := Lib.hid hrl
      clear hrl HB HK1 HF1 hs0 HW0 HIR
      go_wp2_with fail
      go_loopw [37] (fun s wr => ∃ j : Nat, j ≤ rl.length ∧ s = .int .i64 j ∧ readB (rl.take j) r = false ∧ Below w5.heap.size w5 wr) (fun s _ => rl.length - (intOf s).toNat)
      case atStart => exact ⟨0, by omega, rfl, rfl, Below.refl _ _⟩
      case round =>
        obtain ⟨j, hj, rfl, hno, hB⟩ := hrel
        have HNo := Lib.hid hno
        have HBj := Lib.hid hB
        have hlen := HLen.out
        clear hno hB
        by_cases hltj : j < rl.length
        · obtain ⟨a, ha⟩ : ∃ a, rl[j]? = some a := ⟨_, List.getElem?_eq_getElem hltj⟩
          obtain ⟨lb, lo, cs, rfl, e1, e2, e3, e4, e5⟩ := H3.out j a ha
          subst e3
          have q0 := later (e2 0 (by omega)) HBj.out
          have q1 := later (e2 1 (by omega)) HBj.out
          rw [Nat.add_zero] at q0
          have HA := Lib.hid ha
          clear e1 e2 e4 e5 ha
          by_cases har : a.reg = (r : Int)
          · have hb1 : (a.reg == (r : Int)) = true := by simpa using har
            have HAR := Lib.hid har
            clear har
            go_wp2_with fail
            go_returns
            refine liveD_same HOwn.out HLL.out ((HBA.out.bt HB5.out).bt (below_alloc _ HBj.out)) true (fun _ => Or.inl ?_) (fun h => by cases h)
            rw [HBk.out, HPT.out]
            refine ptB_read HX'.out ?_ _
            rw [← HRL.out]
            exact readB_yes HA.out HAR.out
          · have hb1 : (a.reg == (r : Int)) = false := by simpa using har
            have HAR := Lib.hid har
            clear har
            go_wp2_with fail
            go_roundw
            case rel => exact ⟨j + 1, by omega, by go_num, by rw [readB_take HA.out, HNo.out, decide_eq_false HAR.out]; rfl, below_alloc _ HBj.out⟩
            case measure => first | omega | (simp [intOf]; done) | (simp [intOf]; omega)
        · have e : j = rl.length := by omega
          have HNr := Lib.hid (show readB (readsD x) r = false by rw [← HRL.out]; have := HNo.out; rw [e, List.take_length] at this; exact this)
          have HBw := Lib.hid (HB5.out.bt HBj.out)
          have HK2 := Lib.hid (blk_kept HKO.out (grown_of_below (r := none) HBw.out) (Or.inl rfl))
          have k0 : wr.cell? ⟨gf + 1, 0, none⟩ = some (.slice (some ⟨ib, io, none⟩) blk.ins.length cap9) := blk_cell HK2.out rfl
          have hk0 := blk_lt HK2.out
          have rd := later R1.out (H0.out.trans ((HBA.out.bt HBw.out).mono H0.out.size))
          have hrd := World.block_lt_of_cell? _ _ rd
          subst e
          clear HNo
          by_cases hd : x.dst = (r : Int)
          · have hb1 : (x.dst == (r : Int)) = true := by simpa using hd
            have HD := Lib.hid hd
            clear hd
            go_wp2_with fail
            go_returns
            refine liveD_same HOwn.out HLL.out (HBA.out.bt HBw.out) false (fun h => by cases h) (fun _ => ?_)
            have hz : ∀ fl, ptB (blkF f b) i fl r = false := fun fl => by rw [HBk.out, HPT.out]; exact ptB_kill HX'.out HNr.out HD.out fl
            exact ⟨hz _, fun h => by rw [hz] at h; cases h⟩
          · have hb1 : (x.dst == (r : Int)) = false := by simpa using hd
            have HD := Lib.hid hd
            clear hd
            go_wp2_with fail
            go_roundw
            case rel => exact ⟨q + 1, by omega, by go_num, fun fl => (HPT.out fl).trans (ptB_pass HX'.out HNr.out HD.out fl), HBw.out⟩
            case measure => first | omega | (simp [intOf]; done) | (simp [intOf]; omega)
    · have e : q = blk.ins.length := by omega
      have HPe := Lib.hid (show ∀ fl, ptB (blkF f b) i fl r = useB fl (readsT blk.term) r by intro fl; rw [HBk.out, HPT.out, e]; exact ptB_end _ _ _)
      subst e
      have k1 : wr.cell? ⟨gf + 1, 1, none⟩ = some (.int .i64 blk.term.kind) := blk_cell HK1.out rfl
      have k2 : wr.cell? ⟨gf + 1, 2, none⟩ = some (.int .i64 blk.term.op) := blk_cell HK1.out rfl
      have k3 : wr.cell? ⟨gf + 1, 3, none⟩ = some (.int .i64 blk.term.a.reg) := blk_cell HK1.out rfl
      have k4 : wr.cell? ⟨gf + 1, 4, none⟩ = some (.int .i64 blk.term.a.num) := blk_cell HK1.out rfl
      have k5 : wr.cell? ⟨gf + 1, 5, none⟩ = some (.int .i64 blk.term.b.reg) := blk_cell HK1.out rfl
      have k6 : wr.cell? ⟨gf + 1, 6, none⟩ = some (.int .i64 blk.term.b.num) := blk_cell HK1.out rfl
      have k7 : wr.cell? ⟨gf + 1, 7, none⟩ = some (.int .i64 blk.term.to_) := blk_cell HK1.out rfl
      have k8 : wr.cell? ⟨gf + 1, 8, none⟩ = some (.int .i64 blk.term.els) := blk_cell HK1.out rfl
      go_wp2_with fail
      refine (treads_any _ blk.term HT4.out HT5.out).mono ?_
      rintro e w5 ⟨v5, rfl, hv5, hb5⟩
      have HB5 := Lib.hid (HB.out.bt hb5)
      clear k0 k1 k2 k3 k4 k5 k6 k7 k8 hk0 hs0
      obtain ⟨A3, c3, rfl, hl3, hm3, h3⟩ := hv5
      have H3 := Lib.hid h3
      unfold maxLen at hm3
      have HLen := Lib.hid (show (readsT blk.term).length ≤ 9223372036854775807 by omega)
      have hlen := HLen.out
      clear hb5 h3 hl3 hm3
      obtain ⟨rl, hrl⟩ : ∃ z, z = readsT blk.term := ⟨_, rfl⟩
      rw [← hrl] at H3 hlen HLen HPe ⊢
      clear hrl HB HK1 HF1 HW0 HPT
      go_wp2_with fail
      go_loopw [58] (fun s wr => ∃ j : Nat, j ≤ rl.length ∧ s = .int .i64 j ∧ readB (rl.take j) r = false ∧ Below w5.heap.size w5 wr) (fun s _ => rl.length - (intOf s).toNat)
      case atStart => exact ⟨0, by omega, rfl, rfl, Below.refl _ _⟩
      case round =>
        obtain ⟨j, hj, rfl, hno, hB⟩ := hrel
        have HNo := Lib.hid hno
        have HBj := Lib.hid hB
        have hlen := HLen.out
        clear hno hB
        by_cases hltj : j < rl.length
        · obtain ⟨a, ha⟩ : ∃ a, rl[j]? = some a := ⟨_, List.getElem?_eq_getElem hltj⟩
          obtain ⟨lb, lo, cs, rfl, e1, e2, e3, e4, e5⟩ := H3.out j a ha
          subst e3
          have q0 := later (e2 0 (by omega)) HBj.out
          have q1 := later (e2 1 (by omega)) HBj.out
          rw [Nat.add_zero] at q0
          have HA := Lib.hid ha
          clear e1 e2 e4 e5 ha
          by_cases har : a.reg = (r : Int)
          · have hb1 : (a.reg == (r : Int)) = true := by simpa using har
            have HAR := Lib.hid har
            clear har
            go_wp2_with fail
            go_returns
            refine liveD_same HOwn.out HLL.out ((HBA.out.bt HB5.out).bt (below_alloc _ HBj.out)) true (fun _ => Or.inl ?_) (fun h => by cases h)
            rw [HPe.out]
            have := readB_yes HA.out HAR.out
            unfold readB at this
            unfold useB
            rw [this]; rfl
          · have hb1 : (a.reg == (r : Int)) = false := by simpa using har
            have HAR := Lib.hid har
            clear har
            go_wp2_with fail
            go_roundw
            case rel => exact ⟨j + 1, by omega, by go_num, by rw [readB_take HA.out, HNo.out, decide_eq_false HAR.out]; rfl, below_alloc _ HBj.out⟩
            case measure => first | omega | (simp [intOf]; done) | (simp [intOf]; omega)
        · have e : j = rl.length := by omega
          have HPz := Lib.hid (show ∀ fl, ptB (blkF f b) i fl r = fl by
            intro fl
            rw [HPe.out]
            have := HNo.out
            rw [e, List.take_length] at this
            unfold readB at this
            unfold useB
            rw [this]; simp)
          have HBw := Lib.hid (HB5.out.bt HBj.out)
          have HK2 := Lib.hid (blk_kept HKO.out (grown_of_below (r := none) HBw.out) (Or.inl rfl))
          have HF2 := Lib.hid (blk_kept HFO.out (grown_of_below (r := none) HBw.out) (Or.inl rfl))
          have k1 : wr.cell? ⟨gf + 1, 1, none⟩ = some (.int .i64 blk.term.kind) := blk_cell HK2.out rfl
          have k2 : wr.cell? ⟨gf + 1, 2, none⟩ = some (.int .i64 blk.term.op) := blk_cell HK2.out rfl
          have k3 : wr.cell? ⟨gf + 1, 3, none⟩ = some (.int .i64 blk.term.a.reg) := blk_cell HK2.out rfl
          have k4 : wr.cell? ⟨gf + 1, 4, none⟩ = some (.int .i64 blk.term.a.num) := blk_cell HK2.out rfl
          have k5 : wr.cell? ⟨gf + 1, 5, none⟩ = some (.int .i64 blk.term.b.reg) := blk_cell HK2.out rfl
          have k6 : wr.cell? ⟨gf + 1, 6, none⟩ = some (.int .i64 blk.term.b.num) := blk_cell HK2.out rfl
          have k7 : wr.cell? ⟨gf + 1, 7, none⟩ = some (.int .i64 blk.term.to_) := blk_cell HK2.out rfl
          have k8 : wr.cell? ⟨gf + 1, 8, none⟩ = some (.int .i64 blk.term.els) := blk_cell HK2.out rfl
          subst e
          clear HNo HPe
          go_wp2_with fail
          refine (next_own _ blk.term).mono ?_
          rintro e w7 ⟨v7, rfl, ho7, hb7⟩
          have HB7 := Lib.hid (HBA.out.bt (HBw.out.bt hb7))
          have HF7 := Lib.hid (blk_kept HF2.out (grown_of_below (r := none) hb7) (Or.inl rfl))
          have HO7 := Lib.hid (own_base ho7 (Nat.zero_le _))
          have HOw7 := Lib.hid (own_below HOwn.out HB7.out)
          clear k1 k2 k3 k4 k5 k6 k7 k8 ho7 hb7 HBw HK2 HF2 HBj HB5 HKO HFO
          obtain ⟨A4, cap4, hv4, hm4⟩ := own_slice HO7.out
          subst hv4
          have hT2 := nextT_len blk.term
          generalize hnt : nextT blk.term = nt at *
          have HTl := Lib.hid hT2
          clear hm4 hT2 hnt
          go_wp2_with fail
          go_loopw [71] (fun s wr => ∃ (j : Nat) (S : List Bool), j ≤ nt.length ∧ s = .int .i64 j ∧ OwnB wr base (.slice (some ⟨g, 0, none⟩) n cap) S ∧ S.length = n ∧ More l S ∧ New (blkF f) (nxF f) r l S ∧ (∀ k ∈ nt.take j, S[k.toNat]? = some true) ∧ OwnI wr 0 (.slice A4 nt.length cap4) nt ∧ w.grownBy wr (some g) ∧
            wr.heap[gf]? = some (.cells #[.string f.name, .int .i64 f.params, .slice A7 n7 c7, .int .i64 rg, .slice A6 n6 c6, .slice (some ⟨bb, bo, none⟩) n c8] 41 (0, 0))) (fun s _ => nt.length - (intOf s).toNat)
          case atStart => exact ⟨0, l, by omega, rfl, HOw7.out, HLL.out, More.refl l, new_refl _ _ _ _, (fun k hk => by simp at hk), HO7.out, grown_of_below HB7.out, HF7.out⟩
          case round =>
            obtain ⟨j, S, hj, rfl, hO, hSl, hM, hN, hT, hI, hG, hF⟩ := hrel
            have HO8 := Lib.hid hO
            have HSl8 := Lib.hid hSl
            have HM8 := Lib.hid hM
            have HN8 := Lib.hid hN
            have HT8 := Lib.hid hT
            have HI8 := Lib.hid hI
            have HG8 := Lib.hid hG
            have HF8 := Lib.hid hF
            have hnl := HTl.out
            clear hO hSl hM hN hT hG hF HO7 HF7 HOw7 HB7
            by_cases hltj : j < nt.length
            · obtain ⟨k, hk⟩ : ∃ k, nt[j]? = some k := ⟨_, List.getElem?_eq_getElem hltj⟩
              have hkn := HX.out b k hbn (by rw [HNx.out]; exact List.mem_of_getElem? hk)
              obtain ⟨k, rfl⟩ : ∃ k' : Nat, k = k' := ⟨k.toNat, by omega⟩
              have hkn' : k < n := by omega
              obtain ⟨g4, k4, e4, _⟩ := own_form hI (by omega)
              cases e4
              have cc := hI.cell hltj _ hk
              have hg4 := World.block_lt_of_cell? _ _ cc
              have HKj := Lib.hid hk
              have HKm := Lib.hid (show (k : Int) ∈ nxF f b by rw [HNx.out]; exact List.mem_of_getElem? hk)
              obtain ⟨y, hy⟩ : ∃ y, S[k]? = some y := ⟨_, List.getElem?_eq_getElem (by rw [HSl8.out]; exact hkn')⟩
              obtain ⟨cy, fy⟩ := HO8.out.cell (by rw [HSl8.out]; exact hkn') y hy
              have hgy := World.block_lt_of_cell? _ _ cy
              have HY := Lib.hid hy
              have HKn := Lib.hid hkn'
              clear hI hk hkn hy
              cases y
              · have HSet := Lib.hid (HO8.out.set (j := k) true)
                have hgn : gf ≠ g := by
                  rcases own_blk HO8.out HF8.out (by decide) with h | h
                  · cases h
                  · exact fun e => h (by rw [e]; rfl)
                have HF9 := Lib.hid (blk_kept HF8.out HSet.out.2 (Or.inr (fun e => hgn (Option.some.inj e).symm)))
                have HI9 := Lib.hid (World.ownsRow.kept HI8.out HSet.out.2 (own_ne HI8.out HO8.out (by decide)))
                have HG9 := Lib.hid (grown_trans HG8.out HSet.out.2)
                have HCn := Lib.hid (cnt_been HSl8.out hkn' HY.out)
                have k0 : (wr.setCell ⟨g, k, none⟩ (.bool true)).cell? ⟨gf, 0, none⟩ = some (.string f.name) := blk_cell HF9.out rfl
                have k1 : (wr.setCell ⟨g, k, none⟩ (.bool true)).cell? ⟨gf, 1, none⟩ = some (.int .i64 f.params) := blk_cell HF9.out rfl
                have k2 : (wr.setCell ⟨g, k, none⟩ (.bool true)).cell? ⟨gf, 2, none⟩ = some (.slice A7 n7 c7) := blk_cell HF9.out rfl
                have k3 : (wr.setCell ⟨g, k, none⟩ (.bool true)).cell? ⟨gf, 3, none⟩ = some (.int .i64 rg) := blk_cell HF9.out rfl
                have k4 : (wr.setCell ⟨g, k, none⟩ (.bool true)).cell? ⟨gf, 4, none⟩ = some (.slice A6 n6 c6) := blk_cell HF9.out rfl
                have k5 : (wr.setCell ⟨g, k, none⟩ (.bool true)).cell? ⟨gf, 5, none⟩ = some (.slice (some ⟨bb, bo, none⟩) n c8) := blk_cell HF9.out rfl
                have hgf := blk_lt HF8.out
                go_wp2_with fail
                clear k0 k1 k2 k3 k4 k5 hgf cc cy fy hg4 hgy
                have hwb := below_of_grown H0.out (Nat.le_refl _) HG9.out (fun k hk => by cases hk; exact Nat.le_trans HBase.out (World.ownsRow.lt HOwn.out g rfl).1)
                have hcl := cnt_le (beenB (S.set k true)) n
                have hcm := cnt_more (n := n) HM8.out
                have hcc := HC.out
                have hcn := HCn.out
                refine (IH.out (n - cnt (beenB (S.set k true)) n) (by omega) _ base g cap (S.set k true) k 0 (Nat.le_refl _) hwb HBase.out (by rw [List.length_set]; exact HSl8.out) HKn.out (Nat.zero_le _) HSet.out.1).mono ?_
                rintro e w9 ⟨ret, S2, rfl, ho9, hg9, hl9, hm9, hY9, hN9⟩
                have HO9 := Lib.hid ho9
                have HL9 := Lib.hid hl9
                have HM9 := Lib.hid (More.trans HM8.out (More.trans More.set hm9))
                have HGG := Lib.hid (grown_trans HG9.out hg9)
                cases ret
                · obtain ⟨hsh, hnew⟩ := hN9 rfl
                  have HNN := Lib.hid (HN8.out.step hm9 hnew hsh)
                  have HT9 := Lib.hid (show ∀ k2 ∈ nt.take (j + 1), S2[k2.toNat]? = some true by
                    intro k2 hk2
                    rcases take_mem HKj.out hk2 with hk2 | rfl
                    · exact hm9 _ (More.set _ (HT8.out k2 hk2))
                    · refine hm9 _ ?_
                      rw [Int.toNat_natCast, List.getElem?_set_self (by rw [HSl8.out]; exact HKn.out)])
                  have HI10 := Lib.hid (World.ownsRow.kept HI9.out hg9 (own_ne HI9.out HSet.out.1 (by decide)))
                  have HF10 := Lib.hid (blk_kept HF9.out hg9 (Or.inr (fun e => hgn (Option.some.inj e).symm)))
                  clear ho9 hg9 hl9 hm9 hY9 hN9 hsh hnew hwb hcl hcm hcc hcn
                  go_wp2_with fail
                  go_roundw
                  case rel => exact ⟨j + 1, S2, by omega, by go_num, HO9.out, HL9.out, HM9.out, HNN.out, HT9.out, HI10.out, HGG.out, HF10.out⟩
                  case measure => first | omega | (simp [intOf]; done) | (simp [intOf]; omega)
                · have HLv := Lib.hid (LiveAt.pt HKn.out (hY9 rfl))
                  clear ho9 hg9 hl9 hm9 hY9 hN9 hwb hcl hcm hcc hcn
                  go_wp2_with fail
                  go_returns
                  exact ⟨true, S2, rfl, HO9.out, HGG.out, HL9.out, HM9.out, (fun _ => Or.inr ⟨HPz.out true, k, HKm.out, HLv.out⟩), (fun h => by cases h)⟩
              · go_wp2_with fail
                go_roundw
                case rel => exact ⟨j + 1, S, by omega, by go_num, HO8.out, HSl8.out, HM8.out, HN8.out, (fun k2 hk2 => by
                  rcases take_mem HKj.out hk2 with hk2 | rfl
                  · exact HT8.out k2 hk2
                  · exact HY.out), HI8.out, HG8.out, HF8.out⟩
                case measure => first | omega | (simp [intOf]; done) | (simp [intOf]; omega)
            · have e : j = nt.length := by omega
              have HTz := Lib.hid (show ∀ k2 : Nat, (k2 : Int) ∈ nxF f b → S[k2]? = some true by
                intro k2 hk2
                rw [HNx.out] at hk2
                have := HT8.out k2 (by rw [e, List.take_length]; exact hk2)
                simpa using this)
              subst e
              go_wp2_with fail
              go_returns
              exact ⟨false, S, rfl, HO8.out, HG8.out, HSl8.out, HM8.out, (fun h => by cases h), (fun _ => ⟨⟨HPz.out false, fun _ => HTz.out⟩, HN8.out⟩)⟩
end Go.Proofs.Ytcljdhpdknecjaa
