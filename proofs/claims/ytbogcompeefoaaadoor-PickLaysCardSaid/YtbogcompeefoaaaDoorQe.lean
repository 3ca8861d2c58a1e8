/- pick: cells, moves, what is fetched and kept. pick: what is fetched, where a result is made, labels. pick: where a result is made, blocks' labels. No condition. -/
import Derived.Test.YtbogcompeefoaaaDoorPlH
import Derived.Test.YtbogcompeefoaaaDoorQc
import Derived.Test.YtbogcompeefoaaaDoorShelf
import Derived.Test.YtbogcompeefoaaaDoorGl
import Derived.Lib.AppendIntMem
namespace Go.Proofs.YtbogcompeefoaaaDoor
open Go.RowKit
set_option linter.unusedVariables false
set_option maxHeartbeats 4000000
def plcT : List Int := [3, 5, 12, 13, 14]
def argT : List Int := [7, 6, 2, 1, 8, 9]
/-- the tables of registers stand -/
def TabP (W : World) : Prop := (∀ (i : Nat) (x : Int), plcT[i]? = some x → W.cell? ⟨1, i, none⟩ = some (.int .i64 x)) ∧ ∀ (i : Nat) (x : Int), argT[i]? = some x → W.cell? ⟨0, i, none⟩ = some (.int .i64 x)
theorem plc_rr {i : Nat} {x : Int} (h : plcT[i]? = some x) : RR x := by
  have hi := (List.getElem?_eq_some_iff.1 h).1
  have hl : plcT.length = 5 := rfl
  match i, h with
  | 0, h | 1, h | 2, h | 3, h | 4, h => obtain rfl := Option.some.inj h; unfold RR; decide
  | i + 5, h => rw [hl] at hi; omega
theorem arg_rr {i : Nat} {x : Int} (h : argT[i]? = some x) : RR x := by
  have hi := (List.getElem?_eq_some_iff.1 h).1
  have hl : argT.length = 6 := rfl
  match i, h with
  | 0, h | 1, h | 2, h | 3, h | 4, h | 5, h => obtain rfl := Option.some.inj h; unfold RR; decide
  | i + 6, h => rw [hl] at hi; omega
/-- places and cells are small -/
structure KOk (W0 : World) (k : PK) (pl : List Int) : Prop where
  tab : TabP W0
  rng : ∀ (i : Nat) (x : Int), pl[i]? = some x → 0 ≤ x ∧ x ≤ 1000
  c0 : 0 ≤ k.cells
  c1 : k.cells ≤ 1000000
  ln : pl.length ≤ 1000
def cellV (k : PK) (x : Int) : Value := if x < 5 then .tuple #[.int .i64 0, .bool false] else .tuple #[.int .i64 (k.cells + 8 * (x - 5)), .bool true]
section
variable (W0 : World) (gk : Nat) (k : PK) (pl sl : List Int)
/-- what stands at a register's place -/
theorem PS.place {W0 : World} {gk : Nat} {k : PK} {pl sl : List Int} {ls : List LineD} {w : World} (h : PS W0 gk k pl sl ls w) {r : Nat} {x : Int} (hr : pl[r]? = some x) : ∃ gp cp, k.place = .slice (some ⟨gp, 0, none⟩) pl.length cp ∧ w.cell? ⟨gp, r, none⟩ = some (.int .i64 x) ∧ gp < w.heap.size := by
  have hn := (List.getElem?_eq_some_iff.1 hr).1
  obtain ⟨gp, cp, e, _, _, _, hl⟩ := own_form h.plc (by omega)
  have ho := h.plc
  rw [e] at ho
  refine ⟨gp, cp, e, ?_, hl⟩
  rw [ho.cellAt r (by omega), ivL, List.getElem?_map, hr]; rfl
set_option maxRecDepth 100000 in
theorem cell_any (ls : List LineD) (w : World) (h : PS W0 gk k pl sl ls w) (hk : KOk W0 k pl) (r : Nat) (x : Int) (hr : pl[r]? = some x) :
    Calls Tryd.prog 40 #[.pointer (some ⟨gk, 0, none⟩), .int .i64 (r : Nat)] w fun e w' => e = .returned (cellV k x) ∧ w' = w := by
  obtain ⟨gp, cp, e1, c1, l1⟩ := h.place hr
  obtain ⟨A, c, hb, _⟩ := h.box
  have hn := (List.getElem?_eq_some_iff.1 hr).1
  have t2 : w.cell? ⟨gk, 2, none⟩ = some (.slice (some ⟨gp, 0, none⟩) pl.length cp) := by rw [← e1]; exact blk_cell hb rfl
  have t9 : w.cell? ⟨gk, 9, none⟩ = some (.int .i64 k.cells) := blk_cell hb rfl
  have hl := blk_lt hb
  have hx := hk.rng r x hr
  have h0 := hk.c0
  have h1 := hk.c1
  have hln := hk.ln
  obtain ⟨np, hnp⟩ : ∃ np, np = pl.length := ⟨_, rfl⟩
  rw [← hnp] at t2 hn hln
  clear h hk hb hr e1 hnp
  by_cases h5 : x < 5
  · have HV := Lib.hid (show cellV k x = .tuple #[.int .i64 0, .bool false] from if_pos h5)
    go_enter Tryd.func40, Tryd.ntmps40
    go_wp2_with fail
    go_returns
    exact ⟨by rw [HV.out]; rfl, rfl⟩
  · have HV := Lib.hid (show cellV k x = .tuple #[.int .i64 (k.cells + 8 * (x - 5)), .bool true] from if_neg h5)
    go_enter Tryd.func40, Tryd.ntmps40
    go_wp2_with fail
    go_returns
    exact ⟨by rw [HV.out]; rfl, rfl⟩
set_option maxRecDepth 100000 in
theorem move_lays (nb n : Nat) (ls0 : List LineD) (w : World) (h : PSeg W0 gk k pl sl nb ls0 n w) (hn : n ≤ 100000000) (dst from_ : Int) (ht : RR dst) (hf : RR from_) :
    Calls Tryd.prog 41 #[.pointer (some ⟨gk, 0, none⟩), .int .i64 dst, .int .i64 from_] w (Lays W0 gk k pl sl nb ls0 (n + 1) w (.tuple #[])) := by
  by_cases he : dst = from_
  · have HL := Lib.hid (h.le (Nat.le_succ n))
    subst he
    clear h ht hf
    go_enter Tryd.func41, Tryd.ntmps41
    go_wp2_with fail
    go_returns
    exact ⟨rfl, HL.out, KeptL.refl _⟩
  · have HL := Lib.hid (ins_lays W0 gk k pl sl nb n ls0 w h hn 1 dst from_ 0 0 false 0 [] (two_ok (Or.inl rfl) ht hf) (by decide) (by decide))
    clear h ht hf
    go_enter Tryd.func41, Tryd.ntmps41
    go_wp2_with fail
    refine HL.out.mono ?_
    rintro e w2 ⟨rfl, hp, hk⟩
    have HP := Lib.hid hp
    have HK := Lib.hid hk
    clear hp hk
    go_wp2_with fail
    go_returns
    exact ⟨rfl, HP.out, HK.out⟩
set_option maxRecDepth 100000 in
theorem keep_lays (hk : KOk W0 k pl) (nb n : Nat) (ls0 : List LineD) (w : World) (h : PSeg W0 gk k pl sl nb ls0 n w) (hn : n ≤ 100000000) (r : Nat) (x : Int) (hr : pl[r]? = some x) (from_ : Int) (hf : RR from_) :
    Calls Tryd.prog 23 #[.pointer (some ⟨gk, 0, none⟩), .int .i64 (r : Nat), .int .i64 from_] w (Lays W0 gk k pl sl nb ls0 (n + 1) w (.tuple #[])) := by
  obtain ⟨k0, s, k1, k2, k3⟩ := id h
  have HC := Lib.hid (cell_any W0 gk k pl sl _ w k3 hk r x hr)
  have hx := hk.rng r x hr
  have hc0 := hk.c0
  have hc1 := hk.c1
  by_cases h5 : x < 5
  · have HV := Lib.hid (show cellV k x = .tuple #[.int .i64 0, .bool false] from if_pos h5)
    rw [HV.out] at HC
    obtain ⟨p, hp⟩ : ∃ p, plcT[x.toNat]? = some p := ⟨_, List.getElem?_eq_getElem (by show _ < 5; omega)⟩
    have HL := Lib.hid (move_lays W0 gk k pl sl nb n ls0 w h hn p from_ (plc_rr hp) hf)
    obtain ⟨gp, cp, e1, c1, l1⟩ := k3.place hr
    obtain ⟨A, c, hb, _⟩ := k3.box
    have t2 : w.cell? ⟨gk, 2, none⟩ = some (.slice (some ⟨gp, 0, none⟩) pl.length cp) := by rw [← e1]; exact blk_cell hb rfl
    have hl := blk_lt hb
    have hrn := (List.getElem?_eq_some_iff.1 hr).1
    have g1 := later (hk.tab.1 _ _ hp) k3.bel
    have g1l := World.block_lt_of_cell? _ _ g1
    have hln := hk.ln
    obtain ⟨np, hnp⟩ : ∃ np, np = pl.length := ⟨_, rfl⟩
    rw [← hnp] at t2 hrn hln
    obtain ⟨xn, hxn⟩ : ∃ xn : Nat, x = xn := ⟨x.toNat, by omega⟩
    subst hxn
    rw [Int.toNat_natCast] at g1
    clear h hf HV k0 k1 k2 k3 hk hb e1 hp hr hnp
    go_enter Tryd.func23, Tryd.ntmps23
    go_wp2_with fail
    refine HC.out.mono ?_
    rintro e w2 ⟨rfl, rfl⟩
    go_wp2_with fail
    refine HL.out.mono ?_
    rintro e w3 ⟨rfl, hp, hkk⟩
    have HP := Lib.hid hp
    have HK := Lib.hid hkk
    clear hp hkk c1 t2 g1
    go_wp2_with fail
    go_returns
    exact ⟨rfl, HP.out, HK.out⟩
  · have HV := Lib.hid (show cellV k x = .tuple #[.int .i64 (k.cells + 8 * (x - 5)), .bool true] from if_neg h5)
    rw [HV.out] at HC
    obtain ⟨at_, hat⟩ : ∃ a, a = k.cells + 8 * (x - 5) := ⟨_, rfl⟩
    rw [← hat] at HC
    have HL := Lib.hid (ins_lays W0 gk k pl sl nb n ls0 w h hn 4 4 from_ at_ 8 false 0 [] (keep_ok hf (by omega) (by omega)) (by decide) (by decide))
    clear h hf HV k0 k1 k2 k3 hk hr hat
    go_enter Tryd.func23, Tryd.ntmps23
    go_wp2_with fail
    refine HC.out.mono ?_
    rintro e w2 ⟨rfl, rfl⟩
    go_wp2_with fail
    refine HL.out.mono ?_
    rintro e w3 ⟨rfl, hp, hkk⟩
    have HP := Lib.hid hp
    have HK := Lib.hid hkk
    clear hp hkk
    go_wp2_with fail
    go_returns
    exact ⟨rfl, HP.out, HK.out⟩
end
end Go.Proofs.YtbogcompeefoaaaDoor
namespace Go.Proofs.YtbogcompeefoaaaDoor
open Go.RowKit
set_option linter.unusedVariables false
set_option maxHeartbeats 4000000
/-- an argument that is a number, or a register that there is -/
def ArgOk (pl : List Int) (a : ArgD) : Prop := In64 a.reg ∧ In64 a.num ∧ (a.reg < 0 ∨ ∃ (r : Nat) (x : Int), a.reg = (r : Int) ∧ pl[r]? = some x)
section
variable (W0 : World) (gk : Nat) (k : PK) (pl sl : List Int)
/-- the register of the machine that a place is -/
theorem PS.mach {W0 : World} {gk : Nat} {k : PK} {pl sl : List Int} {ls : List LineD} {w : World} (h : PS W0 gk k pl sl ls w) (hk : KOk W0 k pl) {r : Nat} {x : Int} (hr : pl[r]? = some x) (h5 : x < 5) : ∃ (xn : Nat) (p : Int), x = (xn : Int) ∧ xn < 5 ∧ RR p ∧ w.cell? ⟨1, xn, none⟩ = some (.int .i64 p) ∧ 1 < w.heap.size := by
  have hx := hk.rng r x hr
  obtain ⟨p, hp⟩ : ∃ p, plcT[x.toNat]? = some p := ⟨_, List.getElem?_eq_getElem (by show _ < 5; omega)⟩
  have g1 := Go.Proofs.YtbogcompeefoaaaDoor.later (hk.tab.1 _ _ hp) h.bel
  exact ⟨x.toNat, p, by omega, by omega, plc_rr hp, g1, World.block_lt_of_cell? _ _ g1⟩
set_option maxRecDepth 100000 in
theorem fetch_lays (hk : KOk W0 k pl) (nb n : Nat) (ls0 : List LineD) (w : World) (h : PSeg W0 gk k pl sl nb ls0 n w) (hn : n ≤ 100000000) (dst : Int) (hd : RR dst) (a : ArgD) (ha : ArgOk pl a) :
    Calls Tryd.prog 44 #[.pointer (some ⟨gk, 0, none⟩), .int .i64 dst, .agg #[.int .i64 a.reg, .int .i64 a.num]] w (Lays W0 gk k pl sl nb ls0 (n + 1) w (.tuple #[])) := by
  have HA := Lib.hid (below_alloc (.cells #[.int .i64 a.reg, .int .i64 a.num] 52) (Below.refl w.heap.size w))
  have h1 := h.later HA.out
  have HX := Lib.hid (blk_new w (.cells #[.int .i64 a.reg, .int .i64 a.num] 52))
  obtain ⟨hr64, hn64, hcase⟩ := ha
  rcases hcase with hneg | ⟨r, x, hreg, hr⟩
  · have HL := Lib.hid (ins_lays W0 gk k pl sl nb n ls0 _ h1 hn 2 dst 0 a.num 0 false 0 [] (movi_ok hd hn64) (by decide) (by decide))
    clear h h1 hd hr64 hn64
    go_enter Tryd.func44, Tryd.ntmps44
    go_wp2_with fail
    refine HL.out.mono ?_
    rintro e w3 ⟨rfl, hp, hkk⟩
    have HP := Lib.hid hp
    have HK := Lib.hid ((KeptL.of_below HA.out).trans hkk)
    clear hp hkk
    go_wp2_with fail
    go_returns
    exact ⟨rfl, HP.out, HK.out⟩
  · have hx := hk.rng r x hr
    have hc0 := hk.c0
    have hc1 := hk.c1
    rw [hreg] at HA HX h1 ⊢
    obtain ⟨w1, hw1⟩ : ∃ w1, w1 = w.alloc (.cells #[.int .i64 (r : Nat), .int .i64 a.num] 52) := ⟨_, rfl⟩
    rw [← hw1] at HA HX h1
    have q0 : w1.cell? ⟨w.heap.size, 0, none⟩ = some (.int .i64 (r : Nat)) := blk_cell HX.out rfl
    have ql := blk_lt HX.out
    obtain ⟨k0, s, k1, k2, k3⟩ := id h1
    have HC := Lib.hid (cell_any W0 gk k pl sl _ w1 k3 hk r x hr)
    have hrn := (List.getElem?_eq_some_iff.1 hr).1
    have hln := hk.ln
    obtain ⟨gx, hgx⟩ : ∃ gx, gx = w.heap.size := ⟨_, rfl⟩
    by_cases h5 : x < 5
    · have HV := Lib.hid (show cellV k x = .tuple #[.int .i64 0, .bool false] from if_pos h5)
      rw [HV.out] at HC
      obtain ⟨xn, p, rfl, hxn, hpr, g1, g1l⟩ := k3.mach hk hr h5
      obtain ⟨gp, cp, e1, c1, l1⟩ := k3.place hr
      obtain ⟨A, c, hb, _⟩ := k3.box
      have t2 : w1.cell? ⟨gk, 2, none⟩ = some (.slice (some ⟨gp, 0, none⟩) pl.length cp) := by rw [← e1]; exact blk_cell hb rfl
      have hl := blk_lt hb
      have HM := Lib.hid (fun (w2 : World) (hb2 : Below w1.heap.size w1 w2) => move_lays W0 gk k pl sl nb n ls0 w2 (h1.later hb2) hn dst p hd hpr)
      obtain ⟨np, hnp⟩ : ∃ np, np = pl.length := ⟨_, rfl⟩
      rw [← hnp] at t2 hrn hln
      rw [← hgx] at q0 ql
      clear h h1 hd hr64 hn64 hreg HV k0 k1 k2 k3 hk hb e1 hr hnp hpr hc0 hc1
      go_enter Tryd.func44, Tryd.ntmps44
      go_upto_region 1 with (fail)
      rw [← hw1, ← hgx]
      clear hw1 hgx
      go_wp2_with fail
      refine HC.out.mono ?_
      rintro e w2 ⟨rfl, rfl⟩
      go_wp2_with fail
      refine wp_region_over_tail 13 (by kernel_rfl) (by kernel_rfl) ?_
      simp only [List.take_succ_cons, List.take_zero, List.drop_succ_cons, List.drop_zero]
      repeat (go_big_quiet_step (fail))
      refine wpQuiet_nil ?_
      intro w3 kb3
      have HL := Lib.hid (HM.out w3 kb3)
      have HK3 := Lib.hid ((KeptL.of_below HA.out).trans (KeptL.of_below kb3))
      clear kb3 q0 ql c1 t2 g1
      go_wp2_with fail
      refine HL.out.mono ?_
      rintro e w4 ⟨rfl, hp, hkk⟩
      have HP := Lib.hid hp
      have HK := Lib.hid (HK3.out.trans hkk)
      clear hp hkk
      go_wp2_with fail
      go_returns
      exact ⟨rfl, HP.out, HK.out⟩
    · have HV := Lib.hid (show cellV k x = .tuple #[.int .i64 (k.cells + 8 * (x - 5)), .bool true] from if_neg h5)
      rw [HV.out] at HC
      obtain ⟨at_, hat⟩ : ∃ a, a = k.cells + 8 * (x - 5) := ⟨_, rfl⟩
      rw [← hat] at HC
      have hok := fetch_ok (dst := dst) (imm := at_) hd (by omega) (by omega)
      obtain ⟨A, c, hb, _⟩ := k3.box
      obtain ⟨A', c', w4, r4, kb4, kk4, ps4, kl4⟩ := k3.push (Below.refl _ _) ⟨[], 3, dst, 4, at_, 8, false, 0, [], false, true⟩ (by rw [List.length_append]; omega) hb
      have r5 : (Builtin.append_ #[33, 33] 33 #[.slice A (ls0 ++ s).length c, .slice (some ⟨w1.heap.size, 0, none⟩) 1 1]).run Tryd.prog (w1.alloc (.cells #[.string ⟨#[]⟩, .int .i64 3, .int .i64 dst, .int .i64 4, .int .i64 at_, .int .i64 8, .bool false, .int .i64 0, .string ⟨#[]⟩, .bool false, .bool true] 46)) = .ok (.slice A' ((ls0 ++ s).length + 1) c') w4 := r4
      have t11 : w1.cell? ⟨gk, 11, none⟩ = some (.slice A (ls0 ++ s).length c) := blk_cell hb rfl
      have z11 : w4.cell? ⟨gk, 11, none⟩ = some (.slice A (ls0 ++ s).length c) := blk_cell kb4 rfl
      have z11f := blk_free (i := 11) kb4
      have hl := blk_lt hb
      have zl := blk_lt kb4
      have HP := Lib.hid (show PSeg W0 gk k pl sl nb ls0 (n + 1) _ from ⟨k0, s ++ [_], by rw [List.length_append, List.length_singleton]; omega, k2.append (Seg.one rfl hok (show (3 : Int) ≠ 33 by decide) (show (3 : Int) ≠ 34 by decide)), by rw [← List.append_assoc]; exact ps4⟩)
      have HK := Lib.hid ((KeptL.of_below HA.out).trans kl4)
      obtain ⟨nl, hnl⟩ : ∃ nl, nl = (ls0 ++ s).length := ⟨_, rfl⟩
      rw [← hnl] at r5 t11 z11 HP HK
      rw [← hgx] at q0 ql
      clear h h1 hd hr64 hn64 hreg HV k0 k1 k2 k3 hk hb hr r4 kb4 kk4 ps4 kl4 hok hat hnl
      go_enter Tryd.func44, Tryd.ntmps44
      go_upto_region 1 with (fail)
      rw [← hw1, ← hgx]
      clear hw1 hgx
      go_wp2_with fail
      refine HC.out.mono ?_
      rintro e w2 ⟨rfl, rfl⟩
      go_wp2_with (at_builtin; refine wpList_append_runC _ rfl _ _ _ rfl _ _ _ _ rfl rfl r5 ?_)
      go_returns
      exact ⟨rfl, HP.out, HK.out⟩
/-- a register of the machine is answered, lines are laid -/
def Gives (w : World) (nb : Nat) (ls0 : List LineD) (n : Nat) (e : Ending) (w' : World) : Prop := ∃ b, RR b ∧ Lays W0 gk k pl sl nb ls0 n w (.int .i64 b) e w'
set_option maxRecDepth 100000 in
theorem have_gives (hk : KOk W0 k pl) (nb n : Nat) (ls0 : List LineD) (w : World) (h : PSeg W0 gk k pl sl nb ls0 n w) (hn : n ≤ 100000000) (spare : Int) (hd : RR spare) (a : ArgD) (ha : ArgOk pl a) :
    Calls Tryd.prog 49 #[.pointer (some ⟨gk, 0, none⟩), .int .i64 spare, .agg #[.int .i64 a.reg, .int .i64 a.num]] w (Gives W0 gk k pl sl w nb ls0 (n + 1)) := by
  have HA := Lib.hid (below_alloc (.cells #[.int .i64 a.reg, .int .i64 a.num] 52) (Below.refl w.heap.size w))
  have h1 := h.later HA.out
  have HX := Lib.hid (blk_new w (.cells #[.int .i64 a.reg, .int .i64 a.num] 52))
  obtain ⟨w1, hw1⟩ : ∃ w1, w1 = w.alloc (.cells #[.int .i64 a.reg, .int .i64 a.num] 52) := ⟨_, rfl⟩
  rw [← hw1] at HA HX h1
  have q0 : w1.cell? ⟨w.heap.size, 0, none⟩ = some (.int .i64 a.reg) := blk_cell HX.out rfl
  have q1 : w1.cell? ⟨w.heap.size, 1, none⟩ = some (.int .i64 a.num) := blk_cell HX.out rfl
  have ql := blk_lt HX.out
  obtain ⟨gx, hgx⟩ : ∃ gx, gx = w.heap.size := ⟨_, rfl⟩
  rw [← hgx] at q0 q1 ql
  obtain ⟨k0, s, k1, k2, k3⟩ := id h1
  have HF := Lib.hid (fetch_lays W0 gk k pl sl hk nb n ls0 w1 h1 hn spare hd a ha)
  obtain ⟨hr64, hn64, hcase⟩ := ha
  rcases hcase with hneg | ⟨r, x, hreg, hr⟩
  · clear h h1 hr64 hn64 k0 k1 k2 k3 hk
    go_enter Tryd.func49, Tryd.ntmps49
    go_upto_region 1 with (fail)
    rw [← hw1, ← hgx]
    clear hw1 hgx
    go_wp2_with fail
    refine HF.out.mono ?_
    rintro e w3 ⟨rfl, hp, hkk⟩
    have HP := Lib.hid hp
    have HK := Lib.hid ((KeptL.of_below HA.out).trans hkk)
    clear hp hkk q0 q1
    go_wp2_with fail
    go_returns
    exact ⟨spare, hd, rfl, HP.out, HK.out⟩
  · have hx := hk.rng r x hr
    have hc0 := hk.c0
    have hc1 := hk.c1
    rw [hreg] at q0 HF HX hw1 ⊢
    have HC := Lib.hid (cell_any W0 gk k pl sl _ w1 k3 hk r x hr)
    have hrn := (List.getElem?_eq_some_iff.1 hr).1
    have hln := hk.ln
    by_cases h5 : x < 5
    · have HV := Lib.hid (show cellV k x = .tuple #[.int .i64 0, .bool false] from if_pos h5)
      rw [HV.out] at HC
      obtain ⟨xn, p, rfl, hxn, hpr, g1, g1l⟩ := k3.mach hk hr h5
      obtain ⟨gp, cp, e1, c1, l1⟩ := k3.place hr
      obtain ⟨A, c, hb, _⟩ := k3.box
      have t2 : w1.cell? ⟨gk, 2, none⟩ = some (.slice (some ⟨gp, 0, none⟩) pl.length cp) := by rw [← e1]; exact blk_cell hb rfl
      have hl := blk_lt hb
      have HS := Lib.hid (h1.le (Nat.le_succ n))
      obtain ⟨np, hnp⟩ : ∃ np, np = pl.length := ⟨_, rfl⟩
      rw [← hnp] at t2 hrn hln
      clear h h1 hd hr64 hn64 hreg HV k0 k1 k2 k3 hk hb e1 hr hnp hc0 hc1 HF
      go_enter Tryd.func49, Tryd.ntmps49
      go_upto_region 1 with (fail)
      rw [← hw1, ← hgx]
      clear hw1 hgx
      go_wp2_with fail
      refine HC.out.mono ?_
      rintro e w2 ⟨rfl, rfl⟩
      go_wp2_with fail
      refine wp_region_over (by kernel_rfl) (by kernel_rfl) ?_
      repeat (go_big_quiet_step (fail))
      refine wpQuiet_nil ?_
      intro w3 kb3
      have HS3 := Lib.hid (HS.out.later kb3)
      have HK3 := Lib.hid ((KeptL.of_below HA.out).trans (KeptL.of_below kb3))
      clear kb3 q0 q1 ql c1 t2 g1
      go_wp2_with fail
      go_returns
      exact ⟨p, hpr, rfl, HS3.out, HK3.out⟩
    · have HV := Lib.hid (show cellV k x = .tuple #[.int .i64 (k.cells + 8 * (x - 5)), .bool true] from if_neg h5)
      rw [HV.out] at HC
      obtain ⟨at_, hat⟩ : ∃ a, a = k.cells + 8 * (x - 5) := ⟨_, rfl⟩
      rw [← hat] at HC
      clear h h1 hr64 hn64 hreg HV k0 k1 k2 k3 hk hr hat hc0 hc1
      go_enter Tryd.func49, Tryd.ntmps49
      go_upto_region 1 with (fail)
      rw [← hw1, ← hgx]
      clear hw1 hgx
      go_wp2_with fail
      refine HC.out.mono ?_
      rintro e w2 ⟨rfl, rfl⟩
      go_wp2_with fail
      refine HF.out.mono ?_
      rintro e w3 ⟨rfl, hp, hkk⟩
      have HP := Lib.hid hp
      have HK := Lib.hid ((KeptL.of_below HA.out).trans hkk)
      clear hp hkk q0 q1
      go_wp2_with fail
      go_returns
      exact ⟨spare, hd, rfl, HP.out, HK.out⟩
def small32 (n : Int) : Bool := decide (-2147483648 ≤ n ∧ n ≤ 2147483647)
theorem small_any (w : World) (n : Int) (h : In64 n) : Calls Tryd.prog 67 #[.int .i64 n] w fun e w' => e = .returned (.bool (small32 n)) ∧ w' = w := by
  obtain ⟨h1, h2⟩ := h
  by_cases hs : -2147483648 ≤ n ∧ n ≤ 2147483647
  · have HV := Lib.hid (show small32 n = true from decide_eq_true hs)
    go_enter Tryd.func67, Tryd.ntmps67
    go_wp2_with fail
    go_returns
    exact ⟨by rw [HV.out]; rfl, rfl⟩
  · have HV := Lib.hid (show small32 n = false from decide_eq_false hs)
    go_enter Tryd.func67, Tryd.ntmps67
    go_wp2_with fail
    have HE := Lib.hid (show (n == wrap64 (wrap32 n)) = false by
      rw [beq_eq_false_iff_ne]
      unfold wrap64 wrap32
      omega)
    go_returns
    exact ⟨by rw [HV.out, ← HE.out]; rfl, rfl⟩
end
end Go.Proofs.YtbogcompeefoaaaDoor
namespace Go.Proofs.YtbogcompeefoaaaDoor
open Go.RowKit
set_option linter.unusedVariables false
set_option maxHeartbeats 4000000
section
variable (W0 : World) (gk : Nat) (k : PK) (pl sl : List Int)
set_option maxRecDepth 100000 in
theorem result_any (hk : KOk W0 k pl) (ls : List LineD) (w : World) (h : PS W0 gk k pl sl ls w) (r : Nat) (x : Int) (hr : pl[r]? = some x) (vl : Value) (al : List ArgD) (hs : SlR w 2 ArgR vl al) (ha : ∀ a ∈ al, ArgOk pl a) (hal : al.length ≤ 100) :
    Calls Tryd.prog 43 #[.pointer (some ⟨gk, 0, none⟩), .int .i64 (r : Nat), vl] w fun e w' => ∃ d, RR d ∧ e = .returned (.int .i64 d) ∧ Below w.heap.size w w' := by
  have HC := Lib.hid (cell_any W0 gk k pl sl _ w h hk r x hr)
  have hx := hk.rng r x hr
  have hrn := (List.getElem?_eq_some_iff.1 hr).1
  have hln := hk.ln
  have HS := Lib.hid hs
  obtain ⟨VA, vc, rfl, _, hvc, _⟩ := hs
  unfold maxLen at hvc
  by_cases h5 : x < 5
  · have HV := Lib.hid (show cellV k x = .tuple #[.int .i64 0, .bool false] from if_pos h5)
    rw [HV.out] at HC
    obtain ⟨xn, p, rfl, hxn, hpr, g1, g1l⟩ := h.mach hk hr h5
    obtain ⟨gp, cp, e1, c1, l1⟩ := h.place hr
    obtain ⟨A, c, hb, _⟩ := h.box
    have t2 : w.cell? ⟨gk, 2, none⟩ = some (.slice (some ⟨gp, 0, none⟩) pl.length cp) := by rw [← e1]; exact blk_cell hb rfl
    have hl := blk_lt hb
    have HPl := Lib.hid (fun (r2 : Nat) (x2 : Int) (h2 : pl[r2]? = some x2) => by
      obtain ⟨gp2, cp2, e2, c2, _⟩ := h.place h2
      rw [e1] at e2
      simp only [Value.slice.injEq, Option.some.injEq, Addr.mk.injEq] at e2
      rw [← e2.1.1] at c2
      exact c2 : ∀ (r2 : Nat) (x2 : Int), pl[r2]? = some x2 → w.cell? ⟨gp, r2, none⟩ = some (.int .i64 x2))
    have HAo := Lib.hid ha
    obtain ⟨np, hnp⟩ : ∃ np, np = pl.length := ⟨_, rfl⟩
    rw [← hnp] at t2 hrn hln
    have HNP := Lib.hid hnp
    obtain ⟨m, hm⟩ : ∃ m, m = al.length := ⟨_, rfl⟩
    rw [← hm] at hal ⊢
    have HM := Lib.hid hm
    have HR := Lib.hid hr
    have HT2 := Lib.hid t2
    have HC1 := Lib.hid c1
    clear h hk HV hb e1 hr hnp ha hm
    go_enter Tryd.func43, Tryd.ntmps43
    go_wp2_with fail
    refine HC.out.mono ?_
    rintro e w2 ⟨rfl, rfl⟩
    go_wp2_with fail
    go_loopw [31] (fun i wr => ∃ j : Nat, j ≤ m ∧ i = .int .i64 j ∧ Below w2.heap.size w2 wr) (fun i _ => m - (intOf i).toNat)
    case atStart => exact ⟨0, by omega, rfl, Below.refl _ _⟩
    case round =>
      obtain ⟨j, hj, rfl, hbj⟩ := hrel
      have HB := Lib.hid hbj
      clear hbj
      by_cases hlt : j < m
      · have hlj : j < al.length := by rw [← HM.out]; exact hlt
        obtain ⟨a, haj⟩ : ∃ a, al[j]? = some a := ⟨_, List.getElem?_eq_getElem hlj⟩
        obtain ⟨_, _, hA, _, _, h4⟩ := HS.out.later (by decide) HB.out
        simp only [Value.slice.injEq] at hA
        obtain ⟨rfl, hA2, rfl⟩ := hA
        obtain ⟨lb, lo, cs, rfl, f1, f2, f3, f4, f5⟩ := h4 j a haj
        subst f3
        have q0 : wr.cell? ⟨lb, lo + j * 2, none⟩ = some (.int .i64 a.reg) := f2 0 (by omega)
        have q1 := f2 1 (by omega)
        have hb0 := World.block_lt_of_cell? _ _ q0
        obtain ⟨hr64, hn64, hcase⟩ := HAo.out a (List.mem_of_getElem? haj)
        have HAl := Lib.hid (below_over HB.out (below_alloc (.cells #[.int .i64 a.reg, .int .i64 a.num] 52) (Below.refl wr.heap.size wr)))
        obtain ⟨w3, hw3⟩ : ∃ w3, w3 = wr.alloc (.cells #[.int .i64 a.reg, .int .i64 a.num] 52) := ⟨_, rfl⟩
        have hx3 : w3.heap[wr.heap.size]? = some (.cells #[.int .i64 a.reg, .int .i64 a.num] 52 (0, 0)) := by rw [hw3]; exact blk_new _ _
        rw [← hw3] at HAl
        have y2 := later HT2.out HAl.out
        have y1 := later HC1.out HAl.out
        have y2l := World.block_lt_of_cell? _ _ y2
        have y1l := World.block_lt_of_cell? _ _ y1
        have y3 := blk_cell (i := 0) (v := .int .i64 a.reg) hx3 rfl
        have y3l := blk_lt hx3
        obtain ⟨gx, hgx⟩ : ∃ gx, gx = wr.heap.size := ⟨_, rfl⟩
        rw [← hgx] at y3 y3l
        clear f1 f2 h4 hlj haj hA2 hx3 hn64
        go_upto_region 8 with (fail)
        rw [← hw3, ← hgx]
        clear hw3 hgx q0 q1 hb0
        rcases hcase with hneg | ⟨r2, x2, hreg, hr2⟩
        · clear y1 y2 y1l y2l
          have hge : ¬ (0 ≤ a.reg) := by omega
          have hgd : decide (0 ≤ a.reg) = false := decide_eq_false hge
          have hgd2 : decide (a.reg ≥ 0) = false := decide_eq_false hge
          refine wp_region_over (by kernel_rfl) (by kernel_rfl) ?_
          repeat (go_big_quiet_step (fail))
          refine wpQuiet_nil ?_
          intro w4 kb4
          have HB4 := Lib.hid (below_over HAl.out kb4)
          clear kb4 y3
          go_wp2_with fail
          have hlt := hlt
          go_roundw
          case rel => exact ⟨j + 1, by omega, by go_num, HB4.out⟩
          case measure => simp [intOf]; omega
        · rw [hreg] at y3
          have hr2n : r2 < np := by rw [HNP.out]; exact (List.getElem?_eq_some_iff.1 hr2).1
          have y4 := later (HPl.out r2 x2 hr2) HAl.out
          clear hreg hr2 hr64
          refine wp_region_over (by kernel_rfl) (by kernel_rfl) ?_
          repeat (go_big_quiet_step (fail))
          refine wpQuiet_nil ?_
          intro w4 kb4
          have HB4 := Lib.hid (below_over HAl.out kb4)
          clear kb4 y3 y1 y2 y4
          by_cases he : x2 = (xn : Int)
          · have hb1 : (x2 == (xn : Int)) = true := by simpa using he
            have hb2 : ((xn : Int) == x2) = true := by simpa using he.symm
            clear he
            go_wp2_with fail
            go_returns
            exact ⟨0, by unfold RR; decide, rfl, HB4.out⟩
          · have hb1 : (x2 == (xn : Int)) = false := by simpa using he
            have hb2 : ((xn : Int) == x2) = false := by simpa using fun h => he h.symm
            clear he
            go_wp2_with fail
            have hlt := hlt
            go_roundw
            case rel => exact ⟨j + 1, by omega, by go_num, HB4.out⟩
            case measure => simp [intOf]; omega
      · have e : j = m := by omega
        subst e
        go_wp2_with fail
        go_returns
        exact ⟨p, hpr, rfl, HB.out⟩
  · have HV := Lib.hid (show cellV k x = .tuple #[.int .i64 (k.cells + 8 * (x - 5)), .bool true] from if_neg h5)
    rw [HV.out] at HC
    obtain ⟨at_, hat⟩ : ∃ a, a = k.cells + 8 * (x - 5) := ⟨_, rfl⟩
    rw [← hat] at HC
    clear h HV hk hr hat
    go_enter Tryd.func43, Tryd.ntmps43
    go_wp2_with fail
    refine HC.out.mono ?_
    rintro e w2 ⟨rfl, rfl⟩
    go_wp2_with fail
    go_returns
    exact ⟨0, by unfold RR; decide, rfl, Below.refl _ _⟩
/-- a block's label -/
theorem block_any (hk0 : PowOk W0) (ls : List LineD) (w : World) (h : PS W0 gk k pl sl ls w) (hnum : k.num ≤ 1000) (i : Nat) (hi : i ≤ 100000) :
    Calls Tryd.prog 24 #[.pointer (some ⟨gk, 0, none⟩), .int .i64 (i : Nat)] w fun e w' => e = .returned (.string ⟨⟨labB k.num i⟩⟩) ∧ Below w.heap.size w w' := by
  obtain ⟨A, c, hb, _⟩ := h.box
  have t7 : w.cell? ⟨gk, 7, none⟩ = some (.int .i64 (k.num : Nat)) := blk_cell hb rfl
  have hl := blk_lt hb
  have hP := hk0.below h.bel
  have HI := Lib.hid (fun (w2 : World) (n : Nat) (hn : n ≤ 100000) (hb2 : Below w.heap.size w w2) => by
    refine (Tryd.strconv_Itoa (n : Int) (by omega) (by omega) w2 (hP.below hb2).1).mono ?_
    rintro e w' ⟨h1, q, os, h2⟩
    exact ⟨h1, by rw [h2]; exact Lib.below_grow _ w2 (Nat.le_refl _) q os⟩ : ∀ (w2 : World) (n : Nat), n ≤ 100000 → Below w.heap.size w w2 → Calls Tryd.prog 42 #[.int .i64 (n : Nat)] w2 fun e w' => e = .returned (.string ⟨⟨Lib.itoa (n : Int)⟩⟩) ∧ Below w2.heap.size w2 w')
  have hs1 : (Lib.itoa (k.num : Int)).length ≤ 21 := Lib.itoa_length_le _ (by omega) (by omega)
  have hs2 : (Lib.itoa (i : Int)).length ≤ 21 := Lib.itoa_length_le _ (by omega) (by omega)
  obtain ⟨X1, hX1⟩ : ∃ X : ByteArray, X = ⟨⟨Lib.itoa (k.num : Int)⟩⟩ := ⟨_, rfl⟩
  obtain ⟨X2, hX2⟩ : ∃ X : ByteArray, X = ⟨⟨Lib.itoa (i : Int)⟩⟩ := ⟨_, rfl⟩
  have hz1 : X1.size ≤ 21 := hX1 ▸ hs1
  have hz2 : X2.size ≤ 21 := hX2 ▸ hs2
  have H1 := Lib.hid (HI.out w k.num (by omega) (Below.refl _ _))
  have H2 := Lib.hid (fun w2 h2 => HI.out w2 i hi h2)
  rw [← hX1] at H1
  rw [← hX2] at H2
  have HT := Lib.hid (show ({ data := #[46, 76] } ++ X1 ++ { data := #[95] } ++ X2 : ByteArray) = ⟨⟨labB k.num i⟩⟩ by
    rw [hX1, hX2, show ({ data := #[46, 76] } : ByteArray) = ⟨⟨[46, 76]⟩⟩ from rfl, show ({ data := #[95] } : ByteArray) = ⟨⟨[95]⟩⟩ from rfl, ByteArray.mk_append_mk, ByteArray.mk_append_mk, ByteArray.mk_append_mk]; rfl)
  obtain ⟨num, hnm⟩ : ∃ n : Nat, n = k.num := ⟨_, rfl⟩
  rw [← hnm] at t7 H1 hnum
  clear h hb hP HI hX1 hX2 hs1 hs2 hk0 hnm
  go_enter Tryd.func24, Tryd.ntmps24
  go_wp2_with fail
  refine H1.out.mono ?_
  rintro e w2 ⟨rfl, hb2⟩
  have HB2 := Lib.hid hb2
  clear hb2
  go_wp2_with fail
  refine (H2.out w2 HB2.out).mono ?_
  rintro e w3 ⟨rfl, hb3⟩
  have HB3 := Lib.hid (HB2.out.bt hb3)
  clear hb3
  go_wp2_with fail
  go_returns
  exact ⟨by rw [← HT.out]; rfl, HB3.out⟩
end
end Go.Proofs.YtbogcompeefoaaaDoor
