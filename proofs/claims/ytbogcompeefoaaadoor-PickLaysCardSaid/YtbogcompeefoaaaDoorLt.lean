/- The walk of Light: what is known of a program that is small. No condition. -/
import Derived.Test.YtbogcompeefoaaaDoorQg
namespace Go.Proofs.YtbogcompeefoaaaDoor
open Go.RowKit
set_option linter.unusedVariables false
set_option maxHeartbeats 4000000
def InsL (x : InsD) : Prop := x.args.length ≤ 4000 ∧ -1073741824 ≤ x.off ∧ x.off ≤ 1073741824
def BlockL (b : BlockD) : Prop := b.ins.length ≤ 2000 ∧ ∀ x ∈ b.ins, InsL x
/-- the first q slots are few and small -/
def SlotsT (f : FuncD) (q : Nat) : Prop := (0 < q → f.slots.length ≤ 4) ∧ ∀ z ∈ f.slots.take q, 0 ≤ z ∧ z ≤ 1000
def FuncL (f : FuncD) : Prop := 0 ≤ f.regs ∧ f.regs ≤ 300 ∧ f.blocks.length ≤ 2000 ∧ (f.slots.length ≤ 2000 ∧ SlotsT f f.slots.length) ∧ ∀ b ∈ f.blocks, BlockL b
def LightOk (p : ProgD) : Prop := p.funcs.length ≤ 20 ∧ p.globals.length ≤ 20 ∧ ∀ f ∈ p.funcs, FuncL f
theorem LightOk.slim {p : ProgD} (h : LightOk p) : Slim p := fun f hf b hb x hx => by
  have := (((h.2.2 f hf).2.2.2.2 b hb).2 x hx).1
  omega
def GlobL (g : GlobD) : Prop := g.at_ ≤ 4096 ∧ g.size ≤ 4096 ∧ g.parts.length ≤ 50 ∧ ∀ z ∈ g.parts, z.data.length ≤ 4096
def LightG (p : ProgD) : Prop := 0 ≤ p.data ∧ p.data ≤ 4096 ∧ ∀ g ∈ p.globals, GlobL g
def LightQ (w : World) (p : ProgD) (e : Ending) (w' : World) : Prop := ∃ b : Bool, e = .returned (.bool b) ∧ (b = true → LightOk p ∧ LightG p) ∧ Below w.heap.size w w'
def LightP (w : World) (p : ProgD) (e : Ending) (w' : World) : Prop := ∃ b : Bool, e = .returned (.bool b) ∧ (b = true → LightOk p) ∧ Below w.heap.size w w'
theorem block_box (w : World) (cs : Array Value) (T : TypeId) (i : Nat) (v : Value) (hi : cs[i]? = some v) : (w.alloc (.cells cs T)).cell? ⟨w.heap.size, i, none⟩ = some v := blk_cell (blk_new w (.cells cs T)) hi
theorem light_no {w w' : World} {p : ProgD} (h : Below w.heap.size w w') : LightQ w p (.returned (.bool false)) w' := ⟨false, rfl, (fun h => by cases h), h⟩
set_option maxRecDepth 100000 in
theorem lightq_any (W0 w : World) (h0 : Below W0.heap.size W0 w) (p : ProgD) (vf vg : Value) (hin : In W0 p vf vg) :
    Calls Tryd.prog 13 #[.agg #[vf, vg, .int .i64 p.data, .int .i64 p.main]] w (LightQ w p) := by
  have H0 := Lib.hid h0
  obtain ⟨A, cap, rfl, _, m3, hi⟩ := hin.funcs
  obtain ⟨A2, cap2, rfl, _, m4, hi2⟩ := hin.globs
  have hfl := hin.flen
  have hgl := hin.glen
  obtain ⟨q3, q4⟩ := hin.data
  have HF := Lib.hid hi
  have HG := Lib.hid hi2
  clear hi hi2 h0 m3 m4 hin
  by_cases hp1 : p.funcs.length ≤ 20 ∧ p.globals.length ≤ 20 ∧ 0 ≤ p.data ∧ p.data ≤ 4096
  rotate_left
  · have hor : (20 < p.funcs.length) ∨ (p.funcs.length ≤ 20 ∧ 20 < p.globals.length) ∨ (p.funcs.length ≤ 20 ∧ p.globals.length ≤ 20 ∧ p.data < 0) ∨ (p.funcs.length ≤ 20 ∧ p.globals.length ≤ 20 ∧ 0 ≤ p.data ∧ 4096 < p.data) := by omega
    clear hp1
    rcases hor with z | ⟨z1, z2⟩ | ⟨z1, z2, z3⟩ | ⟨z1, z2, z3, z4⟩
    all_goals
      go_enter Tryd.func13, Tryd.ntmps13
      go_wp2_with fail
      go_returns
      exact light_no (below_alloc _ (Below.refl _ _))
  obtain ⟨z1, z2, z3, z4⟩ := hp1
  go_enter Tryd.func13, Tryd.ntmps13
  go_wp2_with fail
  have HBX := Lib.hid (block_box w #[.slice A p.funcs.length cap, .slice A2 p.globals.length cap2, .int .i64 p.data, .int .i64 p.main] 25)
  have HB1 := Lib.hid (below_alloc (.cells #[.slice A p.funcs.length cap, .slice A2 p.globals.length cap2, .int .i64 p.data, .int .i64 p.main] 25) (Below.refl w.heap.size w))
  obtain ⟨g1, hg1⟩ : ∃ g1, g1 = w.heap.size := ⟨_, rfl⟩
  obtain ⟨w1, hw1⟩ : ∃ w1, w1 = w.alloc (.cells #[.slice A p.funcs.length cap, .slice A2 p.globals.length cap2, .int .i64 p.data, .int .i64 p.main] 25) := ⟨_, rfl⟩
  have HZ := Lib.hid (show w.heap.size ≤ w1.heap.size by rw [hw1]; simp)
  rw [← hw1] at HBX HB1 ⊢
  rw [← hg1] at HBX ⊢
  have HZD := Lib.hid (And.intro z3 z4)
  clear hw1 hg1 z3 z4
  go_loopw [39] (fun i wr => ∃ k : Nat, k ≤ p.globals.length ∧ i = .int .i64 k ∧ (∀ g ∈ p.globals.take k, GlobL g) ∧ Below w1.heap.size w1 wr) (fun i _ => p.globals.length - (intOf i).toNat)
  case atStart => exact ⟨0, by omega, rfl, (fun g hg => by simp at hg), Below.refl _ _⟩
  case round =>
    obtain ⟨k, hk, rfl, hga, hb⟩ := hrel
    have HGA := Lib.hid hga
    clear hga
    have HB := Lib.hid hb
    have HBW := Lib.hid (HB1.out.trans (hb.mono HZ.out))
    clear hb
    by_cases hlt : k < p.globals.length
    · obtain ⟨y, hy⟩ : ∃ y, p.globals[k]? = some y := ⟨_, List.getElem?_eq_getElem hlt⟩
      obtain ⟨lb, lo, cs, rfl, e1, e2, vp, e3, n1, n2, n3, n4, n5⟩ := HG.out k y hy
      subst e3
      have HB0 := Lib.hid (H0.out.trans (HBW.out.mono H0.out.size))
      have r0 := later (e2 0 (by omega)) HB0.out
      have r1 := later (e2 1 (by omega)) HB0.out
      have r2 := later (e2 2 (by omega)) HB0.out
      have r3 := later (e2 3 (by omega)) HB0.out
      rw [Nat.add_zero] at r0
      obtain ⟨A6, cap6, rfl, _, _, h6⟩ := n4
      have H6 := Lib.hid h6
      obtain ⟨n2a, n2b⟩ := n2
      obtain ⟨n3a, n3b⟩ := n3
      have HY := Lib.hid hy
      clear e1 e2 hy h6
      by_cases hp2 : y.at_ ≤ 4096 ∧ y.size ≤ 4096 ∧ y.parts.length ≤ 50
      rotate_left
      · have hor : 4096 < y.at_ ∨ (y.at_ ≤ 4096 ∧ 4096 < y.size) ∨ (y.at_ ≤ 4096 ∧ y.size ≤ 4096 ∧ 50 < y.parts.length) := by omega
        clear hp2
        rcases hor with u | ⟨u1, u2⟩ | ⟨u1, u2, u3⟩
        all_goals
          go_wp2_with fail
          go_returns
          exact light_no (below_alloc _ HBW.out)
      obtain ⟨u1, u2, u3⟩ := hp2
      have HU := Lib.hid (And.intro u1 (And.intro u2 u3))
      go_wp2_with fail
      have HB2 := Lib.hid (below_alloc (.cells #[.string y.name, .int .i64 y.at_, .int .i64 y.size, .slice A6 y.parts.length cap6] 68) HB.out)
      clear r0 r1 r2 r3 HB0 HBW
      obtain ⟨w2, hw2⟩ : ∃ w2, w2 = wr.alloc (.cells #[.string y.name, .int .i64 y.at_, .int .i64 y.size, .slice A6 y.parts.length cap6] 68) := ⟨_, rfl⟩
      rw [← hw2] at HB2 ⊢
      clear hw2
      go_loopw [60] (fun i wr => ∃ q : Nat, q ≤ y.parts.length ∧ i = .int .i64 q ∧ (∀ z ∈ y.parts.take q, z.data.length ≤ 4096) ∧ Below w1.heap.size w1 wr) (fun i _ => y.parts.length - (intOf i).toNat)
      case atStart => exact ⟨0, by omega, rfl, (fun z hz => by simp at hz), HB2.out⟩
      case round =>
        obtain ⟨q, hq, rfl, hpa, hb⟩ := hrel
        have HPA := Lib.hid hpa
        clear hpa
        have HB3 := Lib.hid hb
        have HBW := Lib.hid (HB1.out.trans (hb.mono HZ.out))
        clear hb HB2
        by_cases hltq : q < y.parts.length
        · obtain ⟨z, hz⟩ : ∃ z, y.parts[q]? = some z := ⟨_, List.getElem?_eq_getElem hltq⟩
          obtain ⟨lb2, lo2, cs, rfl, e1, e2, vd, e3, k1, k2, k3, k4⟩ := H6.out q z hz
          subst e3
          have HB0 := Lib.hid (H0.out.trans (HBW.out.mono H0.out.size))
          have r0 := later (e2 0 (by omega)) HB0.out
          have r1 := later (e2 1 (by omega)) HB0.out
          have r2 := later (e2 2 (by omega)) HB0.out
          rw [Nat.add_zero] at r0
          obtain ⟨A10, cap10, rfl, _, _, _⟩ := k2
          have HZZ := Lib.hid hz
          clear e1 e2 hz
          by_cases hp3 : z.data.length ≤ 4096
          · have HP3 := Lib.hid hp3
            go_wp2_with fail
            go_roundw
            case rel => exact ⟨q + 1, by omega, by go_num, take_all (Q := fun z : PartD => z.data.length ≤ 4096) HZZ.out HPA.out HP3.out, below_alloc _ HB3.out⟩
            case measure => simp [intOf]; omega
          · go_wp2_with fail
            go_returns
            exact light_no (below_alloc _ HBW.out)
        · have e : q = y.parts.length := by omega
          subst e
          go_wp2_with fail
          go_roundw
          case rel =>
            have hpa := HPA.out
            rw [List.take_length] at hpa
            exact ⟨k + 1, by omega, by go_num, take_all HY.out HGA.out ⟨HU.out.1, HU.out.2.1, HU.out.2.2, hpa⟩, HB3.out⟩
          case measure => simp [intOf]; omega
    · have e : k = p.globals.length := by omega
      subst e
      have c0 := later (HBX.out 0 _ rfl) HB.out
      have hl0 := World.block_lt_of_cell? _ _ c0
      go_wp2_with fail
      clear c0 hl0
      obtain ⟨w3, rfl⟩ : ∃ wo : World, wo = wr := ⟨_, rfl⟩
      go_loopw [3, 73] (fun n i wr => ∃ (k : Nat) (t : Int), k ≤ p.funcs.length ∧ i = .int .i64 k ∧ n = .int .i64 t ∧ 0 ≤ t ∧ t ≤ 4000 ∧ (∀ f ∈ p.funcs.take k, FuncL f) ∧ Below w1.heap.size w1 wr) (fun _ i _ => p.funcs.length - (intOf i).toNat)
      case atStart => exact ⟨0, 0, by omega, rfl, rfl, by omega, by omega, fun f hf => by simp at hf, HB.out⟩
      case round =>
        obtain ⟨k, t, hk, rfl, rfl, ht0, ht1, hall, hb⟩ := hrel
        have HA := Lib.hid hall
        have HB4 := Lib.hid hb
        have HBW4 := Lib.hid (HB1.out.trans (hb.mono HZ.out))
        clear hb hall HB HBW
        by_cases hlt : k < p.funcs.length
        · obtain ⟨f, hfk⟩ : ∃ f, p.funcs[k]? = some f := ⟨_, List.getElem?_eq_getElem hlt⟩
          obtain ⟨fb, fo, cs, rfl, e1, e2, hfr⟩ := HF.out k f hfk
          obtain ⟨vs, vl, vb, rfl, x1, x2, x3, x3l, x4, x5, x5l, x6, x6l⟩ := hfr
          have HB0 := Lib.hid (H0.out.trans (HBW4.out.mono H0.out.size))
          have HFK := Lib.hid hfk
          obtain ⟨A7, cap7, rfl, _, m7, _⟩ := x3
          obtain ⟨A8, cap8, rfl, _, m8, h8⟩ := x5
          obtain ⟨A9, cap9, rfl, _, m9, h9⟩ := x6
          have H8 := Lib.hid h8
          have H9 := Lib.hid h9
          obtain ⟨p3, p4⟩ := x4
          have r0 := later (e2 0 (by omega)) HB0.out
          have r1 := later (e2 1 (by omega)) HB0.out
          have r2 := later (e2 2 (by omega)) HB0.out
          have r3 := later (e2 3 (by omega)) HB0.out
          have r4 := later (e2 4 (by omega)) HB0.out
          have r5 := later (e2 5 (by omega)) HB0.out
          rw [Nat.add_zero] at r0
          clear e1 e2 hfk h8 h9 m7 m8 m9
          by_cases hp4 : t + (1 + f.blocks.length + f.slots.length) ≤ 2000 ∧ 0 ≤ f.regs ∧ f.regs ≤ 300
          rotate_left
          · have hor : 2000 < t + (1 + f.blocks.length + f.slots.length) ∨ (t + (1 + f.blocks.length + f.slots.length) ≤ 2000 ∧ f.regs < 0) ∨ (t + (1 + f.blocks.length + f.slots.length) ≤ 2000 ∧ 0 ≤ f.regs ∧ 300 < f.regs) := by omega
            clear hp4
            rcases hor with u | ⟨u1, u2⟩ | ⟨u1, u2, u3⟩
            all_goals
              go_wp2_with fail
              go_returns
              exact light_no (below_alloc _ HBW4.out)
          obtain ⟨pa1, pa2, pa3⟩ := hp4
          go_wp2_with fail
          have HFB := Lib.hid (block_box wr #[.string f.name, .int .i64 f.params, .slice A7 f.secret.length cap7, .int .i64 f.regs, .slice A8 f.slots.length cap8, .slice A9 f.blocks.length cap9] 40)
          have HB5 := Lib.hid (below_alloc (.cells #[.string f.name, .int .i64 f.params, .slice A7 f.secret.length cap7, .int .i64 f.regs, .slice A8 f.slots.length cap8, .slice A9 f.blocks.length cap9] 40) HB4.out)
          clear r0 r1 r2 r3 r4 r5 HB0 HBW4 HB4
          generalize wr.heap.size = g5 at *
          obtain ⟨w5, hw5⟩ : ∃ w5, w5 = wr.alloc (.cells #[.string f.name, .int .i64 f.params, .slice A7 f.secret.length cap7, .int .i64 f.regs, .slice A8 f.slots.length cap8, .slice A9 f.blocks.length cap9] 40) := ⟨_, rfl⟩
          rw [← hw5] at HFB HB5 ⊢
          clear hw5
          go_loop [102] (fun i => ∃ q : Nat, q ≤ f.slots.length ∧ i = .int .i64 q ∧ SlotsT f q) (fun i => f.slots.length - (intOf i).toNat)
          case atStart => exact ⟨0, by omega, rfl, fun h => by omega, fun z hz => by simp at hz⟩
          case round =>
            obtain ⟨q, hq, rfl, hsq⟩ := hrel
            have HSQ := Lib.hid hsq
            clear hsq
            have HBW5 := Lib.hid (HB1.out.trans (HB5.out.mono HZ.out))
            by_cases hltq : q < f.slots.length
            · obtain ⟨z, hz⟩ : ∃ z, f.slots[q]? = some z := ⟨_, List.getElem?_eq_getElem hltq⟩
              obtain ⟨lb2, lo2, cs, rfl, e1, e2, e3, k1, k2⟩ := H8.out q z hz
              subst e3
              have HB0 := Lib.hid (H0.out.trans (HBW5.out.mono H0.out.size))
              have r0 := later (e2 0 (by omega)) HB0.out
              rw [Nat.add_zero, Nat.mul_one] at r0
              have f4 := HFB.out 4 _ rfl
              have HZ0 := Lib.hid hz
              clear e1 e2 hz
              by_cases hp5 : 0 ≤ z ∧ z ≤ 1000 ∧ f.slots.length ≤ 4
              rotate_left
              · have hor : z < 0 ∨ (0 ≤ z ∧ 1000 < z) ∨ (0 ≤ z ∧ z ≤ 1000 ∧ 4 < f.slots.length) := by omega
                clear hp5
                rcases hor with v | ⟨v1, v2⟩ | ⟨v1, v2, v3⟩
                all_goals
                  go_wp2_with fail
                  go_returns
                  exact light_no HBW5.out
              obtain ⟨v1, v2, v3⟩ := hp5
              go_wp2_with fail
              go_round
              case rel => exact ⟨q + 1, by omega, by go_num, fun _ => v3, take_all HZ0.out HSQ.out.2 ⟨v1, v2⟩⟩
              case measure => simp [intOf]; omega
            · have e : q = f.slots.length := by omega
              have HSL := Lib.hid (show SlotsT f f.slots.length by rw [← e]; exact HSQ.out)
              have f5 := HFB.out 5 _ rfl
              go_wp2_with fail
              clear f5
              go_loopw [3, 122] (fun n i wr => ∃ (j : Nat) (t : Int), j ≤ f.blocks.length ∧ i = .int .i64 j ∧ n = .int .i64 t ∧ 0 ≤ t ∧ t ≤ 4000 ∧ (∀ b ∈ f.blocks.take j, BlockL b) ∧ Below w1.heap.size w1 wr) (fun _ i _ => f.blocks.length - (intOf i).toNat)
              case atStart => exact ⟨0, _, by omega, rfl, rfl, by omega, by omega, fun f hf => by simp at hf, HB5.out⟩
              case round =>
                obtain ⟨j, t2, hj, rfl, rfl, hs0, hs1, hall, hb⟩ := hrel
                have HAJ := Lib.hid hall
                have HB6 := Lib.hid hb
                have HBW6 := Lib.hid (HB1.out.trans (hb.mono HZ.out))
                clear hb hall HB5 HBW5
                by_cases hltj : j < f.blocks.length
                · obtain ⟨b, hbj⟩ : ∃ b, f.blocks[j]? = some b := ⟨_, List.getElem?_eq_getElem hltj⟩
                  obtain ⟨bb, bo, cs, rfl, e1, e2, vi, e3, y1, y2, _⟩ := H9.out j b hbj
                  subst e3
                  have HB0 := Lib.hid (H0.out.trans (HBW6.out.mono H0.out.size))
                  have HBJ := Lib.hid hbj
                  obtain ⟨B1, cb1, rfl, _, _, h10⟩ := y1
                  have H10 := Lib.hid h10
                  have r0 := later (e2 0 (by omega)) HB0.out
                  have r1 := later (e2 1 (by omega)) HB0.out
                  have r2 := later (e2 2 (by omega)) HB0.out
                  have r3 := later (e2 3 (by omega)) HB0.out
                  have r4 := later (e2 4 (by omega)) HB0.out
                  have r5 := later (e2 5 (by omega)) HB0.out
                  have r6 := later (e2 6 (by omega)) HB0.out
                  have r7 := later (e2 7 (by omega)) HB0.out
                  have r8 := later (e2 8 (by omega)) HB0.out
                  rw [Nat.add_zero] at r0
                  clear e1 e2 hbj h10
                  by_cases hp6 : t2 + b.ins.length ≤ 2000
                  rotate_left
                  · go_wp2_with fail
                    go_returns
                    exact light_no (below_alloc _ HBW6.out)
                  go_wp2_with fail
                  have HB7 := Lib.hid (below_alloc (.cells #[.slice B1 b.ins.length cb1, .int .i64 b.term.kind, .int .i64 b.term.op, .int .i64 b.term.a.reg, .int .i64 b.term.a.num, .int .i64 b.term.b.reg, .int .i64 b.term.b.num, .int .i64 b.term.to_, .int .i64 b.term.els] 58) HB6.out)
                  clear r0 r1 r2 r3 r4 r5 r6 r7 r8 HB0 HBW6 HB6
                  obtain ⟨w7, hw7⟩ : ∃ w7, w7 = wr.alloc (.cells #[.slice B1 b.ins.length cb1, .int .i64 b.term.kind, .int .i64 b.term.op, .int .i64 b.term.a.reg, .int .i64 b.term.a.num, .int .i64 b.term.b.reg, .int .i64 b.term.b.num, .int .i64 b.term.to_, .int .i64 b.term.els] 58) := ⟨_, rfl⟩
                  rw [← hw7] at HB7 ⊢
                  clear hw7
                  go_loopw [3, 136] (fun n i wr => ∃ (q : Nat) (t : Int), q ≤ b.ins.length ∧ i = .int .i64 q ∧ n = .int .i64 t ∧ 0 ≤ t ∧ t ≤ 4000 ∧ (∀ x ∈ b.ins.take q, InsL x) ∧ Below w1.heap.size w1 wr) (fun _ i _ => b.ins.length - (intOf i).toNat)
                  case atStart => exact ⟨0, _, by omega, rfl, rfl, by omega, by omega, fun f hf => by simp at hf, HB7.out⟩
                  case round =>
                    obtain ⟨q, t3, hq, rfl, rfl, hr0, hr1, hall, hb⟩ := hrel
                    have HAQ := Lib.hid hall
                    have HB8 := Lib.hid hb
                    have HBW8 := Lib.hid (HB1.out.trans (hb.mono HZ.out))
                    clear hb hall HB7
                    by_cases hltq : q < b.ins.length
                    · obtain ⟨x, hxq⟩ : ∃ x, b.ins[q]? = some x := ⟨_, List.getElem?_eq_getElem hltq⟩
                      obtain ⟨ib, io, cs, rfl, e1, e2, va, e3, v1, v2, v3, v4, v5, v6, v7, v8, v9, v10, v11⟩ := H10.out q x hxq
                      subst e3
                      have HB0 := Lib.hid (H0.out.trans (HBW8.out.mono H0.out.size))
                      have HXQ := Lib.hid hxq
                      obtain ⟨C1, cc1, rfl, _, _, _⟩ := v10
                      obtain ⟨v9a, v9b⟩ := v9
                      have r0 := later (e2 0 (by omega)) HB0.out
                      have r1 := later (e2 1 (by omega)) HB0.out
                      have r2 := later (e2 2 (by omega)) HB0.out
                      have r3 := later (e2 3 (by omega)) HB0.out
                      have r4 := later (e2 4 (by omega)) HB0.out
                      have r5 := later (e2 5 (by omega)) HB0.out
                      have r6 := later (e2 6 (by omega)) HB0.out
                      have r7 := later (e2 7 (by omega)) HB0.out
                      have r8 := later (e2 8 (by omega)) HB0.out
                      have r9 := later (e2 9 (by omega)) HB0.out
                      have r10 := later (e2 10 (by omega)) HB0.out
                      have r11 := later (e2 11 (by omega)) HB0.out
                      rw [Nat.add_zero] at r0
                      clear e1 e2 hxq
                      by_cases hp7 : t3 + x.args.length ≤ 4000 ∧ -1073741824 ≤ x.off ∧ x.off ≤ 1073741824
                      rotate_left
                      · have hor : 4000 < t3 + x.args.length ∨ (t3 + x.args.length ≤ 4000 ∧ x.off < -1073741824) ∨ (t3 + x.args.length ≤ 4000 ∧ -1073741824 ≤ x.off ∧ 1073741824 < x.off) := by omega
                        clear hp7
                        rcases hor with v | ⟨v1, v2⟩ | ⟨v1, v2, v3⟩
                        all_goals
                          go_wp2_with fail
                          go_returns
                          exact light_no (below_alloc _ HBW8.out)
                      obtain ⟨o1, o2, o3⟩ := hp7
                      go_wp2_with fail
                      go_roundw
                      case rel => exact ⟨q + 1, _, by omega, by go_num, rfl, by omega, by omega, take_all HXQ.out HAQ.out ⟨by omega, o2, o3⟩, below_alloc _ HB8.out⟩
                      case measure => simp [intOf]; omega
                    · have e : q = b.ins.length := by omega
                      subst e
                      go_wp2_with fail
                      go_roundw
                      case rel =>
                        have hall := HAQ.out
                        rw [List.take_length] at hall
                        exact ⟨j + 1, _, by omega, by go_num, rfl, hr0, hr1, take_all HBJ.out HAJ.out ⟨by omega, hall⟩, HB8.out⟩
                      case measure => simp [intOf]; omega
                · have e : j = f.blocks.length := by omega
                  subst e
                  go_wp2_with fail
                  go_roundw
                  case rel =>
                    have hall := HAJ.out
                    rw [List.take_length] at hall
                    exact ⟨k + 1, _, by omega, by go_num, rfl, hs0, hs1, take_all HFK.out HA.out ⟨pa2, pa3, by omega, ⟨by omega, HSL.out⟩, hall⟩, HB6.out⟩
                  case measure => simp [intOf]; omega
        · have e : k = p.funcs.length := by omega
          subst e
          go_wp2_with fail
          go_returns
          refine ⟨true, rfl, fun _ => ?_, HBW4.out⟩
          have hall := HA.out
          rw [List.take_length] at hall
          have hga := HGA.out
          rw [List.take_length] at hga
          exact ⟨⟨z1, z2, hall⟩, HZD.out.1, HZD.out.2, hga⟩
theorem light_any (W0 w : World) (h0 : Below W0.heap.size W0 w) (p : ProgD) (vf vg : Value) (hin : In W0 p vf vg) :
    Calls Tryd.prog 13 #[.agg #[vf, vg, .int .i64 p.data, .int .i64 p.main]] w (LightP w p) :=
  (lightq_any W0 w h0 p vf vg hin).mono fun e w' ⟨b, h1, h2, h3⟩ => ⟨b, h1, fun hb => (h2 hb).1, h3⟩
end Go.Proofs.YtbogcompeefoaaaDoor
