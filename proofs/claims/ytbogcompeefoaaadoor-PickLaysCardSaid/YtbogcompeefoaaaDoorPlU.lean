/- pick: calls (printed by gen_plu.py). No condition. -/
import Derived.Test.YtbogcompeefoaaaDoorPlQ
namespace Go.Proofs.YtbogcompeefoaaaDoor
open Go.RowKit
set_option linter.unusedVariables false
set_option maxHeartbeats 4000000
theorem flab_any (w : World) (s : ByteArray) (hs : s.size ≤ 140737488355328) : Calls Tryd.prog 8 #[.string s] w fun e w' => e = .returned (.string ⟨⟨fnB s.data.toList⟩⟩) ∧ Below w.heap.size w w' := by
  have HT := Lib.hid (show ({ data := #[95] } ++ s : ByteArray) = ⟨⟨fnB s.data.toList⟩⟩ by
    obtain ⟨⟨l⟩⟩ := s
    rw [show ({ data := #[95] } : ByteArray) = ⟨⟨[95]⟩⟩ from rfl, ByteArray.mk_append_mk]; rfl)
  go_enter Tryd.func8, Tryd.ntmps8
  go_wp2
  go_returns
  exact ⟨by rw [← HT.out]; rfl, Below.refl _ _⟩
theorem glab_any (w : World) (s : ByteArray) (hs : s.size ≤ 140737488355328) : Calls Tryd.prog 48 #[.string s] w fun e w' => e = .returned (.string ⟨⟨103 :: 95 :: s.data.toList⟩⟩) ∧ Below w.heap.size w w' := by
  have HT := Lib.hid (show ({ data := #[103, 95] } ++ s : ByteArray) = ⟨⟨103 :: 95 :: s.data.toList⟩⟩ by
    obtain ⟨⟨l⟩⟩ := s
    rw [show ({ data := #[103, 95] } : ByteArray) = ⟨⟨[103, 95]⟩⟩ from rfl, ByteArray.mk_append_mk]; rfl)
  go_enter Tryd.func48, Tryd.ntmps48
  go_wp2
  go_returns
  exact ⟨by rw [← HT.out]; rfl, Below.refl _ _⟩
/-- the program that the picker looks at -/
structure NmT (W0 : World) (k : PK) (pb : Nat) (fs : List FuncD) (gs : List GlobD) : Prop where
  pp : k.pp = .pointer (some ⟨pb, 0, none⟩)
  fn : ∃ v, W0.cell? ⟨pb, 0, none⟩ = some v ∧ SlR W0 6 (FuncR W0) v fs
  gl : ∃ v, W0.cell? ⟨pb, 1, none⟩ = some v ∧ SlR W0 4 (GlobR W0) v gs
  fl : fs.length ≤ 1000
  gll : gs.length ≤ 100000
  fz : ∀ f ∈ fs, f.name.size ≤ 140737488355328
  gz : ∀ g ∈ gs, g.name.size ≤ 140737488355328
theorem PSeg.bel {W0 : World} {gk : Nat} {k : PK} {pl sl : List Int} {nb n : Nat} {ls0 : List LineD} {w : World} (h : PSeg W0 gk k pl sl nb ls0 n w) : Below W0.heap.size W0 w := by
  obtain ⟨_, _, _, _, h3⟩ := h; exact h3.bel
theorem PSeg.cell0 {W0 : World} {gk : Nat} {k : PK} {pl sl : List Int} {nb n : Nat} {ls0 : List LineD} {w : World} (h : PSeg W0 gk k pl sl nb ls0 n w) {pb : Nat} {fs : List FuncD} {gs : List GlobD} (hn : NmT W0 k pb fs gs) : w.cell? ⟨gk, 0, none⟩ = some (.pointer (some ⟨pb, 0, none⟩)) := by
  obtain ⟨_, _, _, _, h3⟩ := h
  obtain ⟨A, c, hb, _⟩ := h3.box
  rw [← hn.pp]
  exact blk_cell hb rfl
/-- where a function's name lies -/
theorem NmT.name {W0 w : World} {k : PK} {pb : Nat} {fs : List FuncD} {gs : List GlobD} (h : NmT W0 k pb fs gs) (hb : Below W0.heap.size W0 w) {r : Nat} (hr : r < fs.length) :
    ∃ fb fo fc nm, w.cell? ⟨pb, 0, none⟩ = some (.slice (some ⟨fb, fo, none⟩) fs.length fc) ∧ w.cell? ⟨fb, fo + r * 6, none⟩ = some (.string nm) ∧ nm.size ≤ 140737488355328 := by
  obtain ⟨v, h1, A, c, rfl, _, _, h4⟩ := h.fn
  obtain ⟨f, hf⟩ : ∃ f, fs[r]? = some f := ⟨_, List.getElem?_eq_getElem hr⟩
  obtain ⟨fb, fo, cs, rfl, e1, e2, vs, vl, vb, rfl, _⟩ := h4 r f hf
  exact ⟨fb, fo, c, f.name, later h1 hb, later (e2 0 (by omega)) hb, h.fz f (List.mem_of_getElem? hf)⟩
theorem NmT.gname {W0 w : World} {k : PK} {pb : Nat} {fs : List FuncD} {gs : List GlobD} (h : NmT W0 k pb fs gs) (hb : Below W0.heap.size W0 w) {r : Nat} (hr : r < gs.length) :
    ∃ fb fo fc nm, w.cell? ⟨pb, 1, none⟩ = some (.slice (some ⟨fb, fo, none⟩) gs.length fc) ∧ w.cell? ⟨fb, fo + r * 4, none⟩ = some (.string nm) ∧ nm.size ≤ 140737488355328 := by
  obtain ⟨v, h1, A, c, rfl, _, _, h4⟩ := h.gl
  obtain ⟨f, hf⟩ : ∃ f, gs[r]? = some f := ⟨_, List.getElem?_eq_getElem hr⟩
  obtain ⟨fb, fo, cs, rfl, e1, e2, vp, rfl, _⟩ := h4 r f hf
  exact ⟨fb, fo, c, f.name, later h1 hb, later (e2 0 (by omega)) hb, h.gz f (List.mem_of_getElem? hf)⟩
section
variable (W0 : World) (gk : Nat) (k : PK) (pl sl : List Int)
set_option maxRecDepth 100000 in
theorem call_lays (hk : KOk W0 k pl) (nb n : Nat) (ls0 : List LineD) (w : World) (h : PSeg W0 gk k pl sl nb ls0 n w) (hn : n ≤ 99999000) (pb : Nat) (fs : List FuncD) (gs : List GlobD) (hN : NmT W0 k pb fs gs) (x : InsD) (VA : Option Addr) (vc : Nat) (hs : SlR W0 2 ArgR (.slice VA x.args.length vc) x.args) (hm6 : x.args.length ≤ 6) (op dst : Int) (hot : Bool) (ha : op = 29 → ArgOk pl x.a) (hal : ∀ a ∈ x.args, ArgOk pl a) (ho : (op = 28 ∧ ∃ rf : Nat, x.ref = (rf : Int) ∧ rf < fs.length) ∨ op = 29) (hd : dst = -1 ∨ ∃ (rn : Nat) (px : Int), dst = (rn : Int) ∧ pl[rn]? = some px) :
    Calls Tryd.prog 50 #[.pointer (some ⟨gk, 0, none⟩), .agg #[.int .i64 op, .int .i64 dst, .int .i64 x.a.reg, .int .i64 x.a.num, .int .i64 x.b.reg, .int .i64 x.b.num, .int .i64 x.size, .bool x.signed, .bool x.secret, .int .i64 x.ref, .int .i64 x.off, .slice VA x.args.length vc], .bool hot] w (Lays W0 gk k pl sl nb ls0 (n + 9) w (.tuple #[])) := by
  have r0 : RR 0 := by unfold RR; decide
  have r11 : RR 11 := by unfold RR; decide
  have HS := Lib.hid hs
  have HAL := Lib.hid hal
  have HNM := Lib.hid hN
  obtain ⟨m, hm⟩ : ∃ m, m = x.args.length := ⟨_, rfl⟩
  have hvc : m ≤ vc ∧ vc ≤ maxLen := by obtain ⟨A, c, e, e2, e3, _⟩ := hs; cases e; exact ⟨by omega, e3⟩
  unfold maxLen at hvc
  rw [← hm] at hm6 ⊢
  have HM := Lib.hid hm
  clear hs hal hN hm
  rcases ho with ⟨rfl, rf, hrf, hrl⟩ | rfl
  · rw [hrf]
    rcases hd with rfl | ⟨rn, px, rfl, hr⟩
    · skip
      have HA := Lib.hid (below_alloc (.cells #[.int .i64 28, .int .i64 (-1), .int .i64 x.a.reg, .int .i64 x.a.num, .int .i64 x.b.reg, .int .i64 x.b.num, .int .i64 x.size, .bool x.signed, .bool x.secret, .int .i64 (rf : Nat), .int .i64 x.off, .slice VA m vc] 74) (Below.refl w.heap.size w))
      have HP0 := Lib.hid (h.later HA.out)
      have HK0 := Lib.hid (KeptL.of_below HA.out)
      have HX0 := Lib.hid (blk_new w (.cells #[.int .i64 28, .int .i64 (-1), .int .i64 x.a.reg, .int .i64 x.a.num, .int .i64 x.b.reg, .int .i64 x.b.num, .int .i64 x.size, .bool x.signed, .bool x.secret, .int .i64 (rf : Nat), .int .i64 x.off, .slice VA m vc] 74))
      obtain ⟨w1, hw1⟩ : ∃ w1, w1 = w.alloc (.cells #[.int .i64 28, .int .i64 (-1), .int .i64 x.a.reg, .int .i64 x.a.num, .int .i64 x.b.reg, .int .i64 x.b.num, .int .i64 x.size, .bool x.signed, .bool x.secret, .int .i64 (rf : Nat), .int .i64 x.off, .slice VA m vc] 74) := ⟨_, rfl⟩
      rw [← hw1] at HP0 HK0 HX0
      obtain ⟨gx, hgx⟩ : ∃ gx, gx = w.heap.size := ⟨_, rfl⟩
      rw [← hgx] at HX0
      clear HA h
      clear ha hrf
      have q0 := blk_cell (i := 0) HX0.out rfl
      have q2 := blk_cell (i := 2) HX0.out rfl
      have q3 := blk_cell (i := 3) HX0.out rfl
      have q11 := blk_cell (i := 11) HX0.out rfl
      have ql := blk_lt HX0.out
      have HGX := Lib.hid hgx
      go_enter Tryd.func50, Tryd.ntmps50
      go_upto_region 1 with (fail)
      rw [← hw1, ← hgx]
      clear hw1 hgx
      go_wp2_with fail
      go_loopw [18] (fun i wr => ∃ j : Nat, j ≤ m ∧ i = .int .i64 j ∧ PSeg W0 gk k pl sl nb ls0 (n + 1 + j) wr ∧ KeptL w wr ∧ wr.heap[gx]? = some (.cells #[.int .i64 28, .int .i64 (-1), .int .i64 x.a.reg, .int .i64 x.a.num, .int .i64 x.b.reg, .int .i64 x.b.num, .int .i64 x.size, .bool x.signed, .bool x.secret, .int .i64 (rf : Nat), .int .i64 x.off, .slice VA m vc] 74 (0, 0))) (fun i _ => m - (intOf i).toNat)
      case atStart => exact ⟨0, by omega, rfl, HP0.out.le (by omega), HK0.out, HX0.out⟩
      case round =>
        obtain ⟨j, hj, rfl, hp, hkk, hx⟩ := hrel
        have HPr := Lib.hid hp
        have HKr := Lib.hid hkk
        have HXr := Lib.hid hx
        clear hp hkk hx q0 q2 q3 q11 ql
        by_cases hlt : j < m
        · have hlj : j < x.args.length := by rw [← HM.out]; exact hlt
          obtain ⟨a, haj⟩ : ∃ a, x.args[j]? = some a := ⟨_, List.getElem?_eq_getElem hlj⟩
          have hbel := HPr.out.bel
          obtain ⟨_, _, hA, _, _, h4⟩ := HS.out.later (by decide) hbel
          simp only [Value.slice.injEq] at hA
          obtain ⟨rfl, hA2, rfl⟩ := hA
          obtain ⟨lb, lo, cs, rfl, f1, f2, f3, f4, f5⟩ := h4 j a haj
          subst f3
          have e0 : wr.cell? ⟨lb, lo + j * 2, none⟩ = some (.int .i64 a.reg) := f2 0 (by omega)
          have e1 := f2 1 (by omega)
          have el := World.block_lt_of_cell? _ _ e0
          have HAa := Lib.hid (HAL.out a (List.mem_of_getElem? haj))
          obtain ⟨y, hy⟩ : ∃ y, argT[j]? = some y := ⟨_, List.getElem?_eq_getElem (by show j < 6; omega)⟩
          have hyr := arg_rr hy
          have hty := later (hk.tab.2 j y hy) hbel
          have htl := World.block_lt_of_cell? _ _ hty
          have HAl := Lib.hid (below_alloc (.cells #[.int .i64 a.reg, .int .i64 a.num] 52) (Below.refl wr.heap.size wr))
          obtain ⟨w3, hw3⟩ : ∃ w3, w3 = wr.alloc (.cells #[.int .i64 a.reg, .int .i64 a.num] 52) := ⟨_, rfl⟩
          have hx3 : w3.heap[wr.heap.size]? = some (.cells #[.int .i64 a.reg, .int .i64 a.num] 52 (0, 0)) := by rw [hw3]; exact blk_new _ _
          rw [← hw3] at HAl
          have y0 := blk_cell (i := 0) (v := .int .i64 a.reg) hx3 rfl
          have y1 := blk_cell (i := 1) (v := .int .i64 a.num) hx3 rfl
          have yl := blk_lt hx3
          have ht3 := later hty HAl.out
          have ht3l := World.block_lt_of_cell? _ _ ht3
          obtain ⟨gz, hgz⟩ : ∃ gz, gz = wr.heap.size := ⟨_, rfl⟩
          rw [← hgz] at y0 y1 yl
          clear f1 f2 h4 hlj haj hA2 hx3 f4 f5 hbel hy
          go_upto_region 6 with (fail)
          rw [← hw3, ← hgz]
          clear hw3 hgz e0 e1 el hty htl
          refine wp_region_over_tail 5 (by kernel_rfl) (by kernel_rfl) ?_
          simp only [List.take_succ_cons, List.take_zero, List.drop_succ_cons, List.drop_zero]
          repeat (go_big_quiet_step (fail))
          refine wpQuiet_nil ?_
          intro w4 kb4
          have HB4 := Lib.hid (below_over HAl.out kb4)
          clear kb4 y0 y1 yl ht3 ht3l
          go_wp2_with fail
          refine (fetch_lays W0 gk k pl sl hk nb (n + 1 + j) ls0 _ (HPr.out.later HB4.out) (by omega) y hyr a HAa.out).mono ?_
          rintro e w5 ⟨rfl, hp, hkk⟩
          have HP5 := Lib.hid hp
          have HK5 := Lib.hid ((HKr.out.trans (KeptL.of_below HB4.out)).trans hkk)
          have HX5 := Lib.hid (hkk.2 _ _ _ _ (blk_below HXr.out HB4.out) (by decide) (by decide))
          clear hp hkk
          go_wp2_with fail
          have hlt := hlt
          go_roundw
          case rel => exact ⟨j + 1, by omega, by go_num, HP5.out, HK5.out, HX5.out⟩
          case measure => simp [intOf]; omega
        · have e : j = m := by omega
          subst e
          obtain ⟨fb, fo, fc, nm, n1, n2, n3⟩ := HNM.out.name HPr.out.bel hrl
          have n0 := HPr.out.cell0 HNM.out
          have hfl := HNM.out.fl
          obtain ⟨nf, hnf⟩ : ∃ nf, nf = fs.length := ⟨_, rfl⟩
          rw [← hnf] at n1 hrl hfl
          have n0l := World.block_lt_of_cell? _ _ n0
          have n1l := World.block_lt_of_cell? _ _ n1
          have n2l := World.block_lt_of_cell? _ _ n2
          have HFL := Lib.hid (fun (W : World) => flab_any W nm n3)
          obtain ⟨NB, hNB⟩ : ∃ NB : ByteArray, NB = ⟨⟨fnB nm.data.toList⟩⟩ := ⟨_, rfl⟩
          rw [← hNB] at HFL
          have HNB := Lib.hid hNB
          clear hNB hnf
          have q0 := blk_cell (i := 0) HXr.out rfl
          have q9 := blk_cell (i := 9) HXr.out rfl
          have ql := blk_lt HXr.out
          go_upto_region 10 with (fail)
          clear q0
          refine wp_region_over_tail 15 (by kernel_rfl) (by kernel_rfl) ?_
          simp only [List.take_succ_cons, List.take_zero, List.drop_succ_cons, List.drop_zero]
          repeat (go_big_quiet_step ((go_at_call 8; exact calls_over (by exact Nat.le_refl _) (HFL.out _))))
          refine wpQuiet_nil ?_
          intro w6 kb6
          have HP6 := Lib.hid (HPr.out.later kb6)
          have HK6 := Lib.hid (HKr.out.trans (KeptL.of_below kb6))
          have HX6 := Lib.hid (blk_below HXr.out kb6)
          rw [HNB.out]
          clear kb6 n0 n1 n2 n0l n1l n2l q9 ql HFL
          go_wp2_with fail
          refine (ins_lays W0 gk k pl sl nb (n + 1 + j) ls0 _ HP6.out (by omega) 35 0 0 0 0 false 0 (fnB nm.data.toList) (to_ok (by omega) (Or.inr rfl) (by unfold fnB; simp)) (by decide) (by decide)).mono ?_
          rintro e w7 ⟨rfl, hp, hkk⟩
          have HP7 := Lib.hid hp
          have HK7 := Lib.hid (HK6.out.trans hkk)
          have HX7 := Lib.hid (hkk.2 _ _ _ _ HX6.out (by decide) (by decide))
          clear hp hkk
          have q1 := blk_cell (i := 1) HX7.out rfl
          have ql := blk_lt HX7.out
          go_wp2_with fail
          go_returns
          exact ⟨rfl, HP7.out.le (by omega), HK7.out⟩
    · skip
      have HA := Lib.hid (below_alloc (.cells #[.int .i64 28, .int .i64 (rn : Nat), .int .i64 x.a.reg, .int .i64 x.a.num, .int .i64 x.b.reg, .int .i64 x.b.num, .int .i64 x.size, .bool x.signed, .bool x.secret, .int .i64 (rf : Nat), .int .i64 x.off, .slice VA m vc] 74) (Below.refl w.heap.size w))
      have HP0 := Lib.hid (h.later HA.out)
      have HK0 := Lib.hid (KeptL.of_below HA.out)
      have HX0 := Lib.hid (blk_new w (.cells #[.int .i64 28, .int .i64 (rn : Nat), .int .i64 x.a.reg, .int .i64 x.a.num, .int .i64 x.b.reg, .int .i64 x.b.num, .int .i64 x.size, .bool x.signed, .bool x.secret, .int .i64 (rf : Nat), .int .i64 x.off, .slice VA m vc] 74))
      obtain ⟨w1, hw1⟩ : ∃ w1, w1 = w.alloc (.cells #[.int .i64 28, .int .i64 (rn : Nat), .int .i64 x.a.reg, .int .i64 x.a.num, .int .i64 x.b.reg, .int .i64 x.b.num, .int .i64 x.size, .bool x.signed, .bool x.secret, .int .i64 (rf : Nat), .int .i64 x.off, .slice VA m vc] 74) := ⟨_, rfl⟩
      rw [← hw1] at HP0 HK0 HX0
      obtain ⟨gx, hgx⟩ : ∃ gx, gx = w.heap.size := ⟨_, rfl⟩
      rw [← hgx] at HX0
      clear HA h
      clear ha hrf
      have gd : decide ((rn : Int) ≥ 0) = true := decide_eq_true (by omega)
      have q0 := blk_cell (i := 0) HX0.out rfl
      have q2 := blk_cell (i := 2) HX0.out rfl
      have q3 := blk_cell (i := 3) HX0.out rfl
      have q11 := blk_cell (i := 11) HX0.out rfl
      have ql := blk_lt HX0.out
      have HGX := Lib.hid hgx
      go_enter Tryd.func50, Tryd.ntmps50
      go_upto_region 1 with (fail)
      rw [← hw1, ← hgx]
      clear hw1 hgx
      go_wp2_with fail
      go_loopw [18] (fun i wr => ∃ j : Nat, j ≤ m ∧ i = .int .i64 j ∧ PSeg W0 gk k pl sl nb ls0 (n + 1 + j) wr ∧ KeptL w wr ∧ wr.heap[gx]? = some (.cells #[.int .i64 28, .int .i64 (rn : Nat), .int .i64 x.a.reg, .int .i64 x.a.num, .int .i64 x.b.reg, .int .i64 x.b.num, .int .i64 x.size, .bool x.signed, .bool x.secret, .int .i64 (rf : Nat), .int .i64 x.off, .slice VA m vc] 74 (0, 0))) (fun i _ => m - (intOf i).toNat)
      case atStart => exact ⟨0, by omega, rfl, HP0.out.le (by omega), HK0.out, HX0.out⟩
      case round =>
        obtain ⟨j, hj, rfl, hp, hkk, hx⟩ := hrel
        have HPr := Lib.hid hp
        have HKr := Lib.hid hkk
        have HXr := Lib.hid hx
        clear hp hkk hx q0 q2 q3 q11 ql
        by_cases hlt : j < m
        · have hlj : j < x.args.length := by rw [← HM.out]; exact hlt
          obtain ⟨a, haj⟩ : ∃ a, x.args[j]? = some a := ⟨_, List.getElem?_eq_getElem hlj⟩
          have hbel := HPr.out.bel
          obtain ⟨_, _, hA, _, _, h4⟩ := HS.out.later (by decide) hbel
          simp only [Value.slice.injEq] at hA
          obtain ⟨rfl, hA2, rfl⟩ := hA
          obtain ⟨lb, lo, cs, rfl, f1, f2, f3, f4, f5⟩ := h4 j a haj
          subst f3
          have e0 : wr.cell? ⟨lb, lo + j * 2, none⟩ = some (.int .i64 a.reg) := f2 0 (by omega)
          have e1 := f2 1 (by omega)
          have el := World.block_lt_of_cell? _ _ e0
          have HAa := Lib.hid (HAL.out a (List.mem_of_getElem? haj))
          obtain ⟨y, hy⟩ : ∃ y, argT[j]? = some y := ⟨_, List.getElem?_eq_getElem (by show j < 6; omega)⟩
          have hyr := arg_rr hy
          have hty := later (hk.tab.2 j y hy) hbel
          have htl := World.block_lt_of_cell? _ _ hty
          have HAl := Lib.hid (below_alloc (.cells #[.int .i64 a.reg, .int .i64 a.num] 52) (Below.refl wr.heap.size wr))
          obtain ⟨w3, hw3⟩ : ∃ w3, w3 = wr.alloc (.cells #[.int .i64 a.reg, .int .i64 a.num] 52) := ⟨_, rfl⟩
          have hx3 : w3.heap[wr.heap.size]? = some (.cells #[.int .i64 a.reg, .int .i64 a.num] 52 (0, 0)) := by rw [hw3]; exact blk_new _ _
          rw [← hw3] at HAl
          have y0 := blk_cell (i := 0) (v := .int .i64 a.reg) hx3 rfl
          have y1 := blk_cell (i := 1) (v := .int .i64 a.num) hx3 rfl
          have yl := blk_lt hx3
          have ht3 := later hty HAl.out
          have ht3l := World.block_lt_of_cell? _ _ ht3
          obtain ⟨gz, hgz⟩ : ∃ gz, gz = wr.heap.size := ⟨_, rfl⟩
          rw [← hgz] at y0 y1 yl
          clear f1 f2 h4 hlj haj hA2 hx3 f4 f5 hbel hy
          go_upto_region 6 with (fail)
          rw [← hw3, ← hgz]
          clear hw3 hgz e0 e1 el hty htl
          refine wp_region_over_tail 5 (by kernel_rfl) (by kernel_rfl) ?_
          simp only [List.take_succ_cons, List.take_zero, List.drop_succ_cons, List.drop_zero]
          repeat (go_big_quiet_step (fail))
          refine wpQuiet_nil ?_
          intro w4 kb4
          have HB4 := Lib.hid (below_over HAl.out kb4)
          clear kb4 y0 y1 yl ht3 ht3l
          go_wp2_with fail
          refine (fetch_lays W0 gk k pl sl hk nb (n + 1 + j) ls0 _ (HPr.out.later HB4.out) (by omega) y hyr a HAa.out).mono ?_
          rintro e w5 ⟨rfl, hp, hkk⟩
          have HP5 := Lib.hid hp
          have HK5 := Lib.hid ((HKr.out.trans (KeptL.of_below HB4.out)).trans hkk)
          have HX5 := Lib.hid (hkk.2 _ _ _ _ (blk_below HXr.out HB4.out) (by decide) (by decide))
          clear hp hkk
          go_wp2_with fail
          have hlt := hlt
          go_roundw
          case rel => exact ⟨j + 1, by omega, by go_num, HP5.out, HK5.out, HX5.out⟩
          case measure => simp [intOf]; omega
        · have e : j = m := by omega
          subst e
          obtain ⟨fb, fo, fc, nm, n1, n2, n3⟩ := HNM.out.name HPr.out.bel hrl
          have n0 := HPr.out.cell0 HNM.out
          have hfl := HNM.out.fl
          obtain ⟨nf, hnf⟩ : ∃ nf, nf = fs.length := ⟨_, rfl⟩
          rw [← hnf] at n1 hrl hfl
          have n0l := World.block_lt_of_cell? _ _ n0
          have n1l := World.block_lt_of_cell? _ _ n1
          have n2l := World.block_lt_of_cell? _ _ n2
          have HFL := Lib.hid (fun (W : World) => flab_any W nm n3)
          obtain ⟨NB, hNB⟩ : ∃ NB : ByteArray, NB = ⟨⟨fnB nm.data.toList⟩⟩ := ⟨_, rfl⟩
          rw [← hNB] at HFL
          have HNB := Lib.hid hNB
          clear hNB hnf
          have q0 := blk_cell (i := 0) HXr.out rfl
          have q9 := blk_cell (i := 9) HXr.out rfl
          have ql := blk_lt HXr.out
          go_upto_region 10 with (fail)
          clear q0
          refine wp_region_over_tail 15 (by kernel_rfl) (by kernel_rfl) ?_
          simp only [List.take_succ_cons, List.take_zero, List.drop_succ_cons, List.drop_zero]
          repeat (go_big_quiet_step ((go_at_call 8; exact calls_over (by exact Nat.le_refl _) (HFL.out _))))
          refine wpQuiet_nil ?_
          intro w6 kb6
          have HP6 := Lib.hid (HPr.out.later kb6)
          have HK6 := Lib.hid (HKr.out.trans (KeptL.of_below kb6))
          have HX6 := Lib.hid (blk_below HXr.out kb6)
          rw [HNB.out]
          clear kb6 n0 n1 n2 n0l n1l n2l q9 ql HFL
          go_wp2_with fail
          refine (ins_lays W0 gk k pl sl nb (n + 1 + j) ls0 _ HP6.out (by omega) 35 0 0 0 0 false 0 (fnB nm.data.toList) (to_ok (by omega) (Or.inr rfl) (by unfold fnB; simp)) (by decide) (by decide)).mono ?_
          rintro e w7 ⟨rfl, hp, hkk⟩
          have HP7 := Lib.hid hp
          have HK7 := Lib.hid (HK6.out.trans hkk)
          have HX7 := Lib.hid (hkk.2 _ _ _ _ HX6.out (by decide) (by decide))
          clear hp hkk
          have q1 := blk_cell (i := 1) HX7.out rfl
          have ql := blk_lt HX7.out
          go_wp2_with fail
          refine (keep_lays W0 gk k pl sl hk nb (n + 1 + j + 1) ls0 _ HP7.out (by omega) rn px hr 0 r0).mono ?_
          rintro e w9 ⟨rfl, hp, hkk⟩
          have HP8 := Lib.hid hp
          have HK8 := Lib.hid (HK7.out.trans hkk)
          have HX8 := Lib.hid (hkk.2 _ _ _ _ HX7.out (by decide) (by decide))
          clear hp hkk q1 ql
          have ql := blk_lt HX8.out
          go_wp2_with fail
          go_returns
          exact ⟨rfl, HP8.out.le (by omega), HK8.out⟩
  · have haa := ha rfl
    clear ha
    rcases hd with rfl | ⟨rn, px, rfl, hr⟩
    · skip
      have HA := Lib.hid (below_alloc (.cells #[.int .i64 29, .int .i64 (-1), .int .i64 x.a.reg, .int .i64 x.a.num, .int .i64 x.b.reg, .int .i64 x.b.num, .int .i64 x.size, .bool x.signed, .bool x.secret, .int .i64 x.ref, .int .i64 x.off, .slice VA m vc] 74) (Below.refl w.heap.size w))
      have HP0 := Lib.hid (h.later HA.out)
      have HK0 := Lib.hid (KeptL.of_below HA.out)
      have HX0 := Lib.hid (blk_new w (.cells #[.int .i64 29, .int .i64 (-1), .int .i64 x.a.reg, .int .i64 x.a.num, .int .i64 x.b.reg, .int .i64 x.b.num, .int .i64 x.size, .bool x.signed, .bool x.secret, .int .i64 x.ref, .int .i64 x.off, .slice VA m vc] 74))
      obtain ⟨w1, hw1⟩ : ∃ w1, w1 = w.alloc (.cells #[.int .i64 29, .int .i64 (-1), .int .i64 x.a.reg, .int .i64 x.a.num, .int .i64 x.b.reg, .int .i64 x.b.num, .int .i64 x.size, .bool x.signed, .bool x.secret, .int .i64 x.ref, .int .i64 x.off, .slice VA m vc] 74) := ⟨_, rfl⟩
      rw [← hw1] at HP0 HK0 HX0
      obtain ⟨gx, hgx⟩ : ∃ gx, gx = w.heap.size := ⟨_, rfl⟩
      rw [← hgx] at HX0
      clear HA h
      have q0 := blk_cell (i := 0) HX0.out rfl
      have q2 := blk_cell (i := 2) HX0.out rfl
      have q3 := blk_cell (i := 3) HX0.out rfl
      have q11 := blk_cell (i := 11) HX0.out rfl
      have ql := blk_lt HX0.out
      have HGX := Lib.hid hgx
      go_enter Tryd.func50, Tryd.ntmps50
      go_upto_region 1 with (fail)
      rw [← hw1, ← hgx]
      clear hw1 hgx
      go_wp2_with fail
      refine (fetch_lays W0 gk k pl sl hk nb n ls0 _ HP0.out (by omega) 11 r11 x.a haa).mono ?_
      rintro e w2 ⟨rfl, hp, hkk⟩
      have HP1 := Lib.hid hp
      have HK1 := Lib.hid (HK0.out.trans hkk)
      have HX1 := Lib.hid (hkk.2 _ _ _ _ HX0.out (by decide) (by decide))
      clear hp hkk q0 q2 q3 q11 ql
      have q11 := blk_cell (i := 11) HX1.out rfl
      have ql := blk_lt HX1.out
      go_wp2_with fail
      go_loopw [18] (fun i wr => ∃ j : Nat, j ≤ m ∧ i = .int .i64 j ∧ PSeg W0 gk k pl sl nb ls0 (n + 1 + j) wr ∧ KeptL w wr ∧ wr.heap[gx]? = some (.cells #[.int .i64 29, .int .i64 (-1), .int .i64 x.a.reg, .int .i64 x.a.num, .int .i64 x.b.reg, .int .i64 x.b.num, .int .i64 x.size, .bool x.signed, .bool x.secret, .int .i64 x.ref, .int .i64 x.off, .slice VA m vc] 74 (0, 0))) (fun i _ => m - (intOf i).toNat)
      case atStart => exact ⟨0, by omega, rfl, HP1.out.le (by omega), HK1.out, HX1.out⟩
      case round =>
        obtain ⟨j, hj, rfl, hp, hkk, hx⟩ := hrel
        have HPr := Lib.hid hp
        have HKr := Lib.hid hkk
        have HXr := Lib.hid hx
        clear hp hkk hx q11 ql
        by_cases hlt : j < m
        · have hlj : j < x.args.length := by rw [← HM.out]; exact hlt
          obtain ⟨a, haj⟩ : ∃ a, x.args[j]? = some a := ⟨_, List.getElem?_eq_getElem hlj⟩
          have hbel := HPr.out.bel
          obtain ⟨_, _, hA, _, _, h4⟩ := HS.out.later (by decide) hbel
          simp only [Value.slice.injEq] at hA
          obtain ⟨rfl, hA2, rfl⟩ := hA
          obtain ⟨lb, lo, cs, rfl, f1, f2, f3, f4, f5⟩ := h4 j a haj
          subst f3
          have e0 : wr.cell? ⟨lb, lo + j * 2, none⟩ = some (.int .i64 a.reg) := f2 0 (by omega)
          have e1 := f2 1 (by omega)
          have el := World.block_lt_of_cell? _ _ e0
          have HAa := Lib.hid (HAL.out a (List.mem_of_getElem? haj))
          obtain ⟨y, hy⟩ : ∃ y, argT[j]? = some y := ⟨_, List.getElem?_eq_getElem (by show j < 6; omega)⟩
          have hyr := arg_rr hy
          have hty := later (hk.tab.2 j y hy) hbel
          have htl := World.block_lt_of_cell? _ _ hty
          have HAl := Lib.hid (below_alloc (.cells #[.int .i64 a.reg, .int .i64 a.num] 52) (Below.refl wr.heap.size wr))
          obtain ⟨w3, hw3⟩ : ∃ w3, w3 = wr.alloc (.cells #[.int .i64 a.reg, .int .i64 a.num] 52) := ⟨_, rfl⟩
          have hx3 : w3.heap[wr.heap.size]? = some (.cells #[.int .i64 a.reg, .int .i64 a.num] 52 (0, 0)) := by rw [hw3]; exact blk_new _ _
          rw [← hw3] at HAl
          have y0 := blk_cell (i := 0) (v := .int .i64 a.reg) hx3 rfl
          have y1 := blk_cell (i := 1) (v := .int .i64 a.num) hx3 rfl
          have yl := blk_lt hx3
          have ht3 := later hty HAl.out
          have ht3l := World.block_lt_of_cell? _ _ ht3
          obtain ⟨gz, hgz⟩ : ∃ gz, gz = wr.heap.size := ⟨_, rfl⟩
          rw [← hgz] at y0 y1 yl
          clear f1 f2 h4 hlj haj hA2 hx3 f4 f5 hbel hy
          go_upto_region 6 with (fail)
          rw [← hw3, ← hgz]
          clear hw3 hgz e0 e1 el hty htl
          refine wp_region_over_tail 5 (by kernel_rfl) (by kernel_rfl) ?_
          simp only [List.take_succ_cons, List.take_zero, List.drop_succ_cons, List.drop_zero]
          repeat (go_big_quiet_step (fail))
          refine wpQuiet_nil ?_
          intro w4 kb4
          have HB4 := Lib.hid (below_over HAl.out kb4)
          clear kb4 y0 y1 yl ht3 ht3l
          go_wp2_with fail
          refine (fetch_lays W0 gk k pl sl hk nb (n + 1 + j) ls0 _ (HPr.out.later HB4.out) (by omega) y hyr a HAa.out).mono ?_
          rintro e w5 ⟨rfl, hp, hkk⟩
          have HP5 := Lib.hid hp
          have HK5 := Lib.hid ((HKr.out.trans (KeptL.of_below HB4.out)).trans hkk)
          have HX5 := Lib.hid (hkk.2 _ _ _ _ (blk_below HXr.out HB4.out) (by decide) (by decide))
          clear hp hkk
          go_wp2_with fail
          have hlt := hlt
          go_roundw
          case rel => exact ⟨j + 1, by omega, by go_num, HP5.out, HK5.out, HX5.out⟩
          case measure => simp [intOf]; omega
        · have e : j = m := by omega
          subst e
          have q0 := blk_cell (i := 0) HXr.out rfl
          have ql := blk_lt HXr.out
          go_wp2_with fail
          clear q0 ql
          refine (hot_lays W0 gk k pl sl nb (n + 1 + j) ls0 _ HPr.out (by omega) 36 11 0 0 0 false 0 [] hot (one_ok (by omega) r11) (by decide) (by decide)).mono ?_
          rintro e w7 ⟨rfl, hp, hkk⟩
          have HP7 := Lib.hid hp
          have HK7 := Lib.hid (HKr.out.trans hkk)
          have HX7 := Lib.hid (hkk.2 _ _ _ _ HXr.out (by decide) (by decide))
          clear hp hkk
          have q1 := blk_cell (i := 1) HX7.out rfl
          have ql := blk_lt HX7.out
          go_wp2_with fail
          go_returns
          exact ⟨rfl, HP7.out.le (by omega), HK7.out⟩
    · skip
      have HA := Lib.hid (below_alloc (.cells #[.int .i64 29, .int .i64 (rn : Nat), .int .i64 x.a.reg, .int .i64 x.a.num, .int .i64 x.b.reg, .int .i64 x.b.num, .int .i64 x.size, .bool x.signed, .bool x.secret, .int .i64 x.ref, .int .i64 x.off, .slice VA m vc] 74) (Below.refl w.heap.size w))
      have HP0 := Lib.hid (h.later HA.out)
      have HK0 := Lib.hid (KeptL.of_below HA.out)
      have HX0 := Lib.hid (blk_new w (.cells #[.int .i64 29, .int .i64 (rn : Nat), .int .i64 x.a.reg, .int .i64 x.a.num, .int .i64 x.b.reg, .int .i64 x.b.num, .int .i64 x.size, .bool x.signed, .bool x.secret, .int .i64 x.ref, .int .i64 x.off, .slice VA m vc] 74))
      obtain ⟨w1, hw1⟩ : ∃ w1, w1 = w.alloc (.cells #[.int .i64 29, .int .i64 (rn : Nat), .int .i64 x.a.reg, .int .i64 x.a.num, .int .i64 x.b.reg, .int .i64 x.b.num, .int .i64 x.size, .bool x.signed, .bool x.secret, .int .i64 x.ref, .int .i64 x.off, .slice VA m vc] 74) := ⟨_, rfl⟩
      rw [← hw1] at HP0 HK0 HX0
      obtain ⟨gx, hgx⟩ : ∃ gx, gx = w.heap.size := ⟨_, rfl⟩
      rw [← hgx] at HX0
      clear HA h
      have gd : decide ((rn : Int) ≥ 0) = true := decide_eq_true (by omega)
      have q0 := blk_cell (i := 0) HX0.out rfl
      have q2 := blk_cell (i := 2) HX0.out rfl
      have q3 := blk_cell (i := 3) HX0.out rfl
      have q11 := blk_cell (i := 11) HX0.out rfl
      have ql := blk_lt HX0.out
      have HGX := Lib.hid hgx
      go_enter Tryd.func50, Tryd.ntmps50
      go_upto_region 1 with (fail)
      rw [← hw1, ← hgx]
      clear hw1 hgx
      go_wp2_with fail
      refine (fetch_lays W0 gk k pl sl hk nb n ls0 _ HP0.out (by omega) 11 r11 x.a haa).mono ?_
      rintro e w2 ⟨rfl, hp, hkk⟩
      have HP1 := Lib.hid hp
      have HK1 := Lib.hid (HK0.out.trans hkk)
      have HX1 := Lib.hid (hkk.2 _ _ _ _ HX0.out (by decide) (by decide))
      clear hp hkk q0 q2 q3 q11 ql
      have q11 := blk_cell (i := 11) HX1.out rfl
      have ql := blk_lt HX1.out
      go_wp2_with fail
      go_loopw [18] (fun i wr => ∃ j : Nat, j ≤ m ∧ i = .int .i64 j ∧ PSeg W0 gk k pl sl nb ls0 (n + 1 + j) wr ∧ KeptL w wr ∧ wr.heap[gx]? = some (.cells #[.int .i64 29, .int .i64 (rn : Nat), .int .i64 x.a.reg, .int .i64 x.a.num, .int .i64 x.b.reg, .int .i64 x.b.num, .int .i64 x.size, .bool x.signed, .bool x.secret, .int .i64 x.ref, .int .i64 x.off, .slice VA m vc] 74 (0, 0))) (fun i _ => m - (intOf i).toNat)
      case atStart => exact ⟨0, by omega, rfl, HP1.out.le (by omega), HK1.out, HX1.out⟩
      case round =>
        obtain ⟨j, hj, rfl, hp, hkk, hx⟩ := hrel
        have HPr := Lib.hid hp
        have HKr := Lib.hid hkk
        have HXr := Lib.hid hx
        clear hp hkk hx q11 ql
        by_cases hlt : j < m
        · have hlj : j < x.args.length := by rw [← HM.out]; exact hlt
          obtain ⟨a, haj⟩ : ∃ a, x.args[j]? = some a := ⟨_, List.getElem?_eq_getElem hlj⟩
          have hbel := HPr.out.bel
          obtain ⟨_, _, hA, _, _, h4⟩ := HS.out.later (by decide) hbel
          simp only [Value.slice.injEq] at hA
          obtain ⟨rfl, hA2, rfl⟩ := hA
          obtain ⟨lb, lo, cs, rfl, f1, f2, f3, f4, f5⟩ := h4 j a haj
          subst f3
          have e0 : wr.cell? ⟨lb, lo + j * 2, none⟩ = some (.int .i64 a.reg) := f2 0 (by omega)
          have e1 := f2 1 (by omega)
          have el := World.block_lt_of_cell? _ _ e0
          have HAa := Lib.hid (HAL.out a (List.mem_of_getElem? haj))
          obtain ⟨y, hy⟩ : ∃ y, argT[j]? = some y := ⟨_, List.getElem?_eq_getElem (by show j < 6; omega)⟩
          have hyr := arg_rr hy
          have hty := later (hk.tab.2 j y hy) hbel
          have htl := World.block_lt_of_cell? _ _ hty
          have HAl := Lib.hid (below_alloc (.cells #[.int .i64 a.reg, .int .i64 a.num] 52) (Below.refl wr.heap.size wr))
          obtain ⟨w3, hw3⟩ : ∃ w3, w3 = wr.alloc (.cells #[.int .i64 a.reg, .int .i64 a.num] 52) := ⟨_, rfl⟩
          have hx3 : w3.heap[wr.heap.size]? = some (.cells #[.int .i64 a.reg, .int .i64 a.num] 52 (0, 0)) := by rw [hw3]; exact blk_new _ _
          rw [← hw3] at HAl
          have y0 := blk_cell (i := 0) (v := .int .i64 a.reg) hx3 rfl
          have y1 := blk_cell (i := 1) (v := .int .i64 a.num) hx3 rfl
          have yl := blk_lt hx3
          have ht3 := later hty HAl.out
          have ht3l := World.block_lt_of_cell? _ _ ht3
          obtain ⟨gz, hgz⟩ : ∃ gz, gz = wr.heap.size := ⟨_, rfl⟩
          rw [← hgz] at y0 y1 yl
          clear f1 f2 h4 hlj haj hA2 hx3 f4 f5 hbel hy
          go_upto_region 6 with (fail)
          rw [← hw3, ← hgz]
          clear hw3 hgz e0 e1 el hty htl
          refine wp_region_over_tail 5 (by kernel_rfl) (by kernel_rfl) ?_
          simp only [List.take_succ_cons, List.take_zero, List.drop_succ_cons, List.drop_zero]
          repeat (go_big_quiet_step (fail))
          refine wpQuiet_nil ?_
          intro w4 kb4
          have HB4 := Lib.hid (below_over HAl.out kb4)
          clear kb4 y0 y1 yl ht3 ht3l
          go_wp2_with fail
          refine (fetch_lays W0 gk k pl sl hk nb (n + 1 + j) ls0 _ (HPr.out.later HB4.out) (by omega) y hyr a HAa.out).mono ?_
          rintro e w5 ⟨rfl, hp, hkk⟩
          have HP5 := Lib.hid hp
          have HK5 := Lib.hid ((HKr.out.trans (KeptL.of_below HB4.out)).trans hkk)
          have HX5 := Lib.hid (hkk.2 _ _ _ _ (blk_below HXr.out HB4.out) (by decide) (by decide))
          clear hp hkk
          go_wp2_with fail
          have hlt := hlt
          go_roundw
          case rel => exact ⟨j + 1, by omega, by go_num, HP5.out, HK5.out, HX5.out⟩
          case measure => simp [intOf]; omega
        · have e : j = m := by omega
          subst e
          have q0 := blk_cell (i := 0) HXr.out rfl
          have ql := blk_lt HXr.out
          go_wp2_with fail
          clear q0 ql
          refine (hot_lays W0 gk k pl sl nb (n + 1 + j) ls0 _ HPr.out (by omega) 36 11 0 0 0 false 0 [] hot (one_ok (by omega) r11) (by decide) (by decide)).mono ?_
          rintro e w7 ⟨rfl, hp, hkk⟩
          have HP7 := Lib.hid hp
          have HK7 := Lib.hid (HKr.out.trans hkk)
          have HX7 := Lib.hid (hkk.2 _ _ _ _ HXr.out (by decide) (by decide))
          clear hp hkk
          have q1 := blk_cell (i := 1) HX7.out rfl
          have ql := blk_lt HX7.out
          go_wp2_with fail
          refine (keep_lays W0 gk k pl sl hk nb (n + 1 + j + 1) ls0 _ HP7.out (by omega) rn px hr 0 r0).mono ?_
          rintro e w9 ⟨rfl, hp, hkk⟩
          have HP8 := Lib.hid hp
          have HK8 := Lib.hid (HK7.out.trans hkk)
          have HX8 := Lib.hid (hkk.2 _ _ _ _ HX7.out (by decide) (by decide))
          clear hp hkk q1 ql
          have ql := blk_lt HX8.out
          go_wp2_with fail
          go_returns
          exact ⟨rfl, HP8.out.le (by omega), HK8.out⟩
end
end Go.Proofs.YtbogcompeefoaaaDoor
