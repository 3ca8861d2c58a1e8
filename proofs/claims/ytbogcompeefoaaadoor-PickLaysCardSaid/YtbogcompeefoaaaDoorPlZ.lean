/- pick: a block's end (printed by gen_plz.py). No condition. -/
import Derived.Test.YtbogcompeefoaaaDoorPlY
namespace Go.Proofs.YtbogcompeefoaaaDoor
open Go.RowKit
set_option linter.unusedVariables false
set_option maxHeartbeats 4000000
/-- the function that the picker looks at -/
structure FnP (W0 : World) (k : PK) (fb fo nb : Nat) (bs : List BlockD) : Prop where
  ff : k.ff = .pointer (some ⟨fb, fo, none⟩)
  bl : ∃ v, W0.cell? ⟨fb, fo + 5, none⟩ = some v ∧ SlR W0 9 (BlockR W0) v bs
  nbe : bs.length = nb
  nb2 : nb ≤ 2000
  f0 : 0 ≤ k.frame
  f1 : k.frame ≤ 2147483647
  nm1 : k.num ≤ 1000
  pw : PowOk W0
/-- lines laid behind ls0, the last one leads away -/
def PEnd (W0 : World) (gk : Nat) (k : PK) (pl sl : List Int) (nb : Nat) (ls0 : List LineD) (n : Nat) (w : World) : Prop := ls0.length ≤ 100000000 ∧ ∃ s, s.length ≤ n ∧ Seg k.num nb s ∧ PS W0 gk k pl sl (ls0 ++ s) w ∧ ∃ l, s.getLast? = some l ∧ (l.op = 33 ∨ l.op = 38)
/-- the same, the last one returns -/
def PRet (W0 : World) (gk : Nat) (k : PK) (pl sl : List Int) (nb : Nat) (ls0 : List LineD) (n : Nat) (w : World) : Prop := ls0.length ≤ 100000000 ∧ ∃ s, s.length ≤ n ∧ Seg k.num nb s ∧ PS W0 gk k pl sl (ls0 ++ s) w ∧ ∃ l, s.getLast? = some l ∧ l.op = 38
/-- what end does -/
def Ends (W0 : World) (gk : Nat) (k : PK) (pl sl : List Int) (nb : Nat) (ls0 : List LineD) (n : Nat) (w : World) (fall : Prop) (e : Ending) (w' : World) : Prop :=
  e = .returned (.tuple #[]) ∧ KeptL w w' ∧ ((fall ∧ PSeg W0 gk k pl sl nb ls0 n w') ∨ PEnd W0 gk k pl sl nb ls0 (n + 10) w')
theorem PSeg.cells {W0 : World} {gk : Nat} {k : PK} {pl sl : List Int} {nb n : Nat} {ls0 : List LineD} {w : World} (h : PSeg W0 gk k pl sl nb ls0 n w) : w.cell? ⟨gk, 1, none⟩ = some k.ff ∧ w.cell? ⟨gk, 5, none⟩ = some k.me ∧ w.cell? ⟨gk, 10, none⟩ = some (.int .i64 k.frame) := by
  obtain ⟨_, _, _, _, h3⟩ := h
  obtain ⟨A, c, hb, _⟩ := h3.box
  exact ⟨blk_cell hb rfl, blk_cell hb rfl, blk_cell hb rfl⟩
theorem PSeg.ps {W0 : World} {gk : Nat} {k : PK} {pl sl : List Int} {nb n : Nat} {ls0 : List LineD} {w : World} (h : PSeg W0 gk k pl sl nb ls0 n w) : ∃ s, s.length ≤ n ∧ ls0.length ≤ 100000000 ∧ Seg k.num nb s ∧ PS W0 gk k pl sl (ls0 ++ s) w := by
  obtain ⟨h0, s, h1, h2, h3⟩ := h
  exact ⟨s, h1, h0, h2, h3⟩
theorem term_at {W0 w : World} {k : PK} {fb fo nb : Nat} {bs : List BlockD} (hF : FnP W0 k fb fo nb bs) (hb : Below W0.heap.size W0 w) {i : Nat} {B : BlockD} (hB : bs[i]? = some B) :
    ∃ bb bo bc, w.cell? ⟨fb, fo + 5, none⟩ = some (.slice (some ⟨bb, bo, none⟩) nb bc) ∧ ∀ (j : Nat) (v : Value), [(.int .i64 B.term.kind : Value), .int .i64 B.term.op, .int .i64 B.term.a.reg, .int .i64 B.term.a.num, .int .i64 B.term.b.reg, .int .i64 B.term.b.num, .int .i64 B.term.to_, .int .i64 B.term.els][j]? = some v → w.cell? ⟨bb, bo + i * 9 + (1 + j), none⟩ = some v := by
  obtain ⟨v, h1, A, c, rfl, _, _, h4⟩ := hF.bl
  obtain ⟨bb, bo, cs, rfl, e1, e2, vi, rfl, _⟩ := h4 i B hB
  refine ⟨bb, bo, c, by rw [← hF.nbe]; exact later h1 hb, fun j u hj => ?_⟩
  have hlt := (List.getElem?_eq_some_iff.1 hj).1
  have hlt8 : j < 8 := hlt
  have := e2 (1 + j) (by omega)
  rw [Nat.add_comm 1 j] at this ⊢
  exact later (this.trans (by rw [List.getElem?_cons_succ]; exact hj)) hb
section
variable (W0 : World) (gk : Nat) (k : PK) (pl sl : List Int)
set_option maxRecDepth 100000 in
theorem end_ret (hk : KOk W0 k pl) (nb n : Nat) (ls0 : List LineD) (w : World) (h : PSeg W0 gk k pl sl nb ls0 n w) (hn : n ≤ 99998000) (fb fo : Nat) (bs : List BlockD) (hF : FnP W0 k fb fo nb bs) (i : Nat) (B : BlockD) (hB : bs[i]? = some B) (t : TermD) (ht : B.term = t) (hk3 : t.kind ≠ 1) (hk4 : t.kind ≠ 2) (ha : ArgOk pl t.a) :
    Calls Tryd.prog 26 #[.pointer (some ⟨gk, 0, none⟩), .int .i64 (i : Nat)] w fun e w' => e = .returned (.tuple #[]) ∧ KeptL w w' ∧ PRet W0 gk k pl sl nb ls0 (n + 10) w' := by
  have r0 : RR 0 := by unfold RR; decide
  have HFn := Lib.hid hF
  have hi : i < nb := by rw [← hF.nbe]; exact (List.getElem?_eq_some_iff.1 hB).1
  have hnb := hF.nb2
  obtain ⟨bb, bo, bc, b1, b2⟩ := term_at hF h.bel hB
  rw [ht] at b2
  have c0 : w.cell? ⟨bb, bo + i * 9 + 1, none⟩ = some (.int .i64 t.kind) := b2 0 _ rfl
  have c1 := b2 1 _ rfl
  have c2 := b2 2 _ rfl
  have c3 := b2 3 _ rfl
  have c4 := b2 4 _ rfl
  have c5 := b2 5 _ rfl
  have c6 := b2 6 _ rfl
  have c7 := b2 7 _ rfl
  have cl := World.block_lt_of_cell? _ _ c0
  have bl := World.block_lt_of_cell? _ _ b1
  have p1 := h.cells.1
  rw [hF.ff] at p1
  have pl_ := World.block_lt_of_cell? _ _ p1
  obtain ⟨kd, hkd⟩ : ∃ kd, kd = t.kind := ⟨_, rfl⟩
  have HFa := Lib.hid (show ¬ (t.kind = 1 ∧ t.to_ = (i : Int) + 1) from fun h => hk3 h.1)
  have k1 : (t.kind == 1) = false := by simpa using hk3
  have k2 : (t.kind == 2) = false := by simpa using hk4
  by_cases hfr : k.frame > 0
  · have d1 : decide (k.frame > 0) = true := decide_eq_true hfr
    have HA := Lib.hid (below_alloc (.cells #[.int .i64 t.kind, .int .i64 t.op, .int .i64 t.a.reg, .int .i64 t.a.num, .int .i64 t.b.reg, .int .i64 t.b.num, .int .i64 t.to_, .int .i64 t.els] 55) (Below.refl w.heap.size w))
    have HP0 := Lib.hid (h.later HA.out)
    have HK0 := Lib.hid (KeptL.of_below HA.out)
    have HX0 := Lib.hid (blk_new w (.cells #[.int .i64 t.kind, .int .i64 t.op, .int .i64 t.a.reg, .int .i64 t.a.num, .int .i64 t.b.reg, .int .i64 t.b.num, .int .i64 t.to_, .int .i64 t.els] 55))
    obtain ⟨w1, hw1⟩ : ∃ w1, w1 = w.alloc (.cells #[.int .i64 t.kind, .int .i64 t.op, .int .i64 t.a.reg, .int .i64 t.a.num, .int .i64 t.b.reg, .int .i64 t.b.num, .int .i64 t.to_, .int .i64 t.els] 55) := ⟨_, rfl⟩
    rw [← hw1] at HP0 HK0 HX0
    obtain ⟨gx, hgx⟩ : ∃ gx, gx = w.heap.size := ⟨_, rfl⟩
    rw [← hgx] at HX0
    clear HA h
    clear b2 hF hB ht
    clear hk3 hk4 hkd hfr
    have q0 := blk_cell (i := 0) HX0.out rfl
    have q2 := blk_cell (i := 2) HX0.out rfl
    have q3 := blk_cell (i := 3) HX0.out rfl
    have ql := blk_lt HX0.out
    have HGX := Lib.hid hgx
    go_enter Tryd.func26, Tryd.ntmps26
    go_upto_region 1 with (fail)
    rw [← hw1, ← hgx]
    clear hw1 hgx
    clear c0 c1 c2 c3 c4 c5 c6 c7 cl b1 bl p1 pl_
    go_wp2_with fail
    refine (fetch_lays W0 gk k pl sl hk nb (n + 0) ls0 _ HP0.out (by omega) 0 r0 t.a ha).mono ?_
    rintro e w2 ⟨rfl, hp, hkk⟩
    have HP1 := Lib.hid hp
    have HK1 := Lib.hid (HK0.out.trans hkk)
    have HX1 := Lib.hid (hkk.2 _ _ _ _ HX0.out (by decide) (by decide))
    clear hp hkk q0 q2 q3 ql
    have ql := blk_lt HX1.out
    have p2 := HP1.out.cells.2.2
    have p2l := World.block_lt_of_cell? _ _ p2
    go_wp2_with fail
    refine (ins_lays W0 gk k pl sl nb (n + 1) ls0 _ HP1.out (by omega) 14 4 0 k.frame 0 false 0 [] (num_ok (by omega) (Or.inr rfl) (by have := HFn.out.f0; omega) (by have := HFn.out.f1; omega)) (by decide) (by decide)).mono ?_
    rintro e w3 ⟨rfl, hp, hkk⟩
    have HP2 := Lib.hid hp
    have HK2 := Lib.hid (HK1.out.trans hkk)
    have HX2 := Lib.hid (hkk.2 _ _ _ _ HX1.out (by decide) (by decide))
    clear hp hkk  ql
    have ql := blk_lt HX2.out
    clear p2 p2l
    obtain ⟨s, s1, s0, s2, s3⟩ := HP2.out.ps
    have HS2 := Lib.hid s2
    have HI := Lib.hid (ins_push W0 gk k pl sl _ _ s3 38 0 0 0 0 false 0 [] (by rw [List.length_append]; omega))
    clear s2 s3
    go_wp2_with fail
    refine HI.out.mono ?_
    rintro e w9 ⟨rfl, hp, hkk⟩
    have HP9 := Lib.hid hp
    have HK9 := Lib.hid (HK2.out.trans hkk)
    clear hp hkk
    go_wp2_with fail
    go_returns
    exact ⟨rfl, HK9.out, s0, s ++ [_], by rw [List.length_append, List.length_singleton]; omega, HS2.out.append (Seg.one rfl (none_ok (Or.inr rfl)) (show (38 : Int) ≠ 33 by decide) (show (38 : Int) ≠ 34 by decide)), by rw [← List.append_assoc]; exact HP9.out, ⟨_, by rw [List.getLast?_append, List.getLast?_singleton]; rfl, rfl⟩⟩
  · have d1 : decide (k.frame > 0) = false := decide_eq_false hfr
    have HA := Lib.hid (below_alloc (.cells #[.int .i64 t.kind, .int .i64 t.op, .int .i64 t.a.reg, .int .i64 t.a.num, .int .i64 t.b.reg, .int .i64 t.b.num, .int .i64 t.to_, .int .i64 t.els] 55) (Below.refl w.heap.size w))
    have HP0 := Lib.hid (h.later HA.out)
    have HK0 := Lib.hid (KeptL.of_below HA.out)
    have HX0 := Lib.hid (blk_new w (.cells #[.int .i64 t.kind, .int .i64 t.op, .int .i64 t.a.reg, .int .i64 t.a.num, .int .i64 t.b.reg, .int .i64 t.b.num, .int .i64 t.to_, .int .i64 t.els] 55))
    obtain ⟨w1, hw1⟩ : ∃ w1, w1 = w.alloc (.cells #[.int .i64 t.kind, .int .i64 t.op, .int .i64 t.a.reg, .int .i64 t.a.num, .int .i64 t.b.reg, .int .i64 t.b.num, .int .i64 t.to_, .int .i64 t.els] 55) := ⟨_, rfl⟩
    rw [← hw1] at HP0 HK0 HX0
    obtain ⟨gx, hgx⟩ : ∃ gx, gx = w.heap.size := ⟨_, rfl⟩
    rw [← hgx] at HX0
    clear HA h
    clear b2 hF hB ht
    clear hk3 hk4 hkd hfr
    have q0 := blk_cell (i := 0) HX0.out rfl
    have q2 := blk_cell (i := 2) HX0.out rfl
    have q3 := blk_cell (i := 3) HX0.out rfl
    have ql := blk_lt HX0.out
    have HGX := Lib.hid hgx
    go_enter Tryd.func26, Tryd.ntmps26
    go_upto_region 1 with (fail)
    rw [← hw1, ← hgx]
    clear hw1 hgx
    clear c0 c1 c2 c3 c4 c5 c6 c7 cl b1 bl p1 pl_
    go_wp2_with fail
    refine (fetch_lays W0 gk k pl sl hk nb (n + 0) ls0 _ HP0.out (by omega) 0 r0 t.a ha).mono ?_
    rintro e w2 ⟨rfl, hp, hkk⟩
    have HP1 := Lib.hid hp
    have HK1 := Lib.hid (HK0.out.trans hkk)
    have HX1 := Lib.hid (hkk.2 _ _ _ _ HX0.out (by decide) (by decide))
    clear hp hkk q0 q2 q3 ql
    have ql := blk_lt HX1.out
    have p2 := HP1.out.cells.2.2
    have p2l := World.block_lt_of_cell? _ _ p2
    obtain ⟨s, s1, s0, s2, s3⟩ := HP1.out.ps
    have HS2 := Lib.hid s2
    have HI := Lib.hid (ins_push W0 gk k pl sl _ _ s3 38 0 0 0 0 false 0 [] (by rw [List.length_append]; omega))
    clear s2 s3
    go_wp2_with fail
    refine HI.out.mono ?_
    rintro e w9 ⟨rfl, hp, hkk⟩
    have HP9 := Lib.hid hp
    have HK9 := Lib.hid (HK1.out.trans hkk)
    clear hp hkk
    go_wp2_with fail
    go_returns
    exact ⟨rfl, HK9.out, s0, s ++ [_], by rw [List.length_append, List.length_singleton]; omega, HS2.out.append (Seg.one rfl (none_ok (Or.inr rfl)) (show (38 : Int) ≠ 33 by decide) (show (38 : Int) ≠ 34 by decide)), by rw [← List.append_assoc]; exact HP9.out, ⟨_, by rw [List.getLast?_append, List.getLast?_singleton]; rfl, rfl⟩⟩
set_option maxRecDepth 100000 in
theorem end_jump (hk : KOk W0 k pl) (nb n : Nat) (ls0 : List LineD) (w : World) (h : PSeg W0 gk k pl sl nb ls0 n w) (hn : n ≤ 99998000) (fb fo : Nat) (bs : List BlockD) (hF : FnP W0 k fb fo nb bs) (i : Nat) (B : BlockD) (hB : bs[i]? = some B) (t : TermD) (ht : B.term = t) (hk3 : t.kind = 1) (tn : Nat) (hto : t.to_ = (tn : Int)) (htl : tn < nb) :
    Calls Tryd.prog 26 #[.pointer (some ⟨gk, 0, none⟩), .int .i64 (i : Nat)] w (Ends W0 gk k pl sl nb ls0 n w (t.kind = 1 ∧ t.to_ = (i : Int) + 1)) := by
  have r0 : RR 0 := by unfold RR; decide
  have HFn := Lib.hid hF
  have hi : i < nb := by rw [← hF.nbe]; exact (List.getElem?_eq_some_iff.1 hB).1
  have hnb := hF.nb2
  obtain ⟨bb, bo, bc, b1, b2⟩ := term_at hF h.bel hB
  rw [ht] at b2
  have c0 : w.cell? ⟨bb, bo + i * 9 + 1, none⟩ = some (.int .i64 t.kind) := b2 0 _ rfl
  have c1 := b2 1 _ rfl
  have c2 := b2 2 _ rfl
  have c3 := b2 3 _ rfl
  have c4 := b2 4 _ rfl
  have c5 := b2 5 _ rfl
  have c6 := b2 6 _ rfl
  have c7 := b2 7 _ rfl
  have cl := World.block_lt_of_cell? _ _ c0
  have bl := World.block_lt_of_cell? _ _ b1
  have p1 := h.cells.1
  rw [hF.ff] at p1
  have pl_ := World.block_lt_of_cell? _ _ p1
  obtain ⟨kd, hkd⟩ : ∃ kd, kd = t.kind := ⟨_, rfl⟩
  have k1 : (t.kind == 1) = true := by simpa using hk3
  rw [hto] at c6
  by_cases hfall : tn = i + 1
  · have HFa := Lib.hid (show t.kind = 1 ∧ t.to_ = (i : Int) + 1 from ⟨hk3, by omega⟩)
    have HA := Lib.hid (below_alloc (.cells #[.int .i64 t.kind, .int .i64 t.op, .int .i64 t.a.reg, .int .i64 t.a.num, .int .i64 t.b.reg, .int .i64 t.b.num, .int .i64 (tn : Nat), .int .i64 t.els] 55) (Below.refl w.heap.size w))
    have HP0 := Lib.hid (h.later HA.out)
    have HK0 := Lib.hid (KeptL.of_below HA.out)
    have HX0 := Lib.hid (blk_new w (.cells #[.int .i64 t.kind, .int .i64 t.op, .int .i64 t.a.reg, .int .i64 t.a.num, .int .i64 t.b.reg, .int .i64 t.b.num, .int .i64 (tn : Nat), .int .i64 t.els] 55))
    obtain ⟨w1, hw1⟩ : ∃ w1, w1 = w.alloc (.cells #[.int .i64 t.kind, .int .i64 t.op, .int .i64 t.a.reg, .int .i64 t.a.num, .int .i64 t.b.reg, .int .i64 t.b.num, .int .i64 (tn : Nat), .int .i64 t.els] 55) := ⟨_, rfl⟩
    rw [← hw1] at HP0 HK0 HX0
    obtain ⟨gx, hgx⟩ : ∃ gx, gx = w.heap.size := ⟨_, rfl⟩
    rw [← hgx] at HX0
    clear HA h
    clear b2 hF hB ht
    have z1 : ((tn : Int) != (i : Int) + 1) = false := by simp; omega
    clear hk3 hkd hto hfall
    have q0 := blk_cell (i := 0) HX0.out rfl
    have q6 := blk_cell (i := 6) HX0.out rfl
    have ql := blk_lt HX0.out
    have HGX := Lib.hid hgx
    go_enter Tryd.func26, Tryd.ntmps26
    go_upto_region 1 with (fail)
    rw [← hw1, ← hgx]
    clear hw1 hgx
    clear c0 c1 c2 c3 c4 c5 c6 c7 cl b1 bl p1 pl_
    go_wp2_with fail
    go_returns
    exact ⟨rfl, HK0.out, Or.inl ⟨HFa.out, HP0.out⟩⟩
  · have HFa := Lib.hid hfall
    have HA := Lib.hid (below_alloc (.cells #[.int .i64 t.kind, .int .i64 t.op, .int .i64 t.a.reg, .int .i64 t.a.num, .int .i64 t.b.reg, .int .i64 t.b.num, .int .i64 (tn : Nat), .int .i64 t.els] 55) (Below.refl w.heap.size w))
    have HP0 := Lib.hid (h.later HA.out)
    have HK0 := Lib.hid (KeptL.of_below HA.out)
    have HX0 := Lib.hid (blk_new w (.cells #[.int .i64 t.kind, .int .i64 t.op, .int .i64 t.a.reg, .int .i64 t.a.num, .int .i64 t.b.reg, .int .i64 t.b.num, .int .i64 (tn : Nat), .int .i64 t.els] 55))
    obtain ⟨w1, hw1⟩ : ∃ w1, w1 = w.alloc (.cells #[.int .i64 t.kind, .int .i64 t.op, .int .i64 t.a.reg, .int .i64 t.a.num, .int .i64 t.b.reg, .int .i64 t.b.num, .int .i64 (tn : Nat), .int .i64 t.els] 55) := ⟨_, rfl⟩
    rw [← hw1] at HP0 HK0 HX0
    obtain ⟨gx, hgx⟩ : ∃ gx, gx = w.heap.size := ⟨_, rfl⟩
    rw [← hgx] at HX0
    clear HA h
    clear b2 hF hB ht
    have z1 : ((tn : Int) != (i : Int) + 1) = true := by simp; omega
    clear hk3 hkd hto hfall
    have q0 := blk_cell (i := 0) HX0.out rfl
    have q6 := blk_cell (i := 6) HX0.out rfl
    have ql := blk_lt HX0.out
    have HGX := Lib.hid hgx
    go_enter Tryd.func26, Tryd.ntmps26
    go_upto_region 1 with (fail)
    rw [← hw1, ← hgx]
    clear hw1 hgx
    clear c0 c1 c2 c3 c4 c5 c6 c7 cl b1 bl p1 pl_
    obtain ⟨s, s1, s0, s2, s3⟩ := HP0.out.ps
    have HS2 := Lib.hid s2
    have HB := Lib.hid (block_any W0 gk k pl sl HFn.out.pw _ _ s3 HFn.out.nm1 tn (by omega))
    have HS3 := Lib.hid s3
    have HL1 := Lib.hid (show (ls0 ++ s).length ≤ 1000000000 by rw [List.length_append]; omega)
    clear s2 s3
    obtain ⟨X, hX⟩ : ∃ X : ByteArray, X = ⟨⟨labB k.num tn⟩⟩ := ⟨_, rfl⟩
    rw [← hX] at HB
    have HXe := Lib.hid hX
    clear hX
    go_wp2_with fail
    refine HB.out.mono ?_
    rintro e w3 ⟨rfl, hb3⟩
    have HS4 := Lib.hid (HS3.out.later hb3)
    have HK4 := Lib.hid (HK0.out.trans (KeptL.of_below hb3))
    clear hb3 q0 q6 ql
    go_wp2_with fail
    rw [HXe.out]
    refine (ins_push W0 gk k pl sl _ _ HS4.out 33 0 0 0 0 false 0 (labB k.num tn) HL1.out).mono ?_
    rintro e w9 ⟨rfl, hp, hkk⟩
    have HP9 := Lib.hid hp
    have HK9 := Lib.hid (HK4.out.trans hkk)
    clear hp hkk
    go_wp2_with fail
    go_returns
    exact ⟨rfl, HK9.out, Or.inr ⟨s0, s ++ [_], by rw [List.length_append, List.length_singleton]; omega, HS2.out.append (Seg.jump rfl (to_ok (Or.inl rfl) (Or.inr rfl) (labB_ne _ _)) rfl htl rfl), by rw [← List.append_assoc]; exact HP9.out, ⟨_, by rw [List.getLast?_append, List.getLast?_singleton]; rfl, Or.inl rfl⟩⟩⟩
set_option maxRecDepth 100000 in
theorem end_branch (hk : KOk W0 k pl) (nb n : Nat) (ls0 : List LineD) (w : World) (h : PSeg W0 gk k pl sl nb ls0 n w) (hn : n ≤ 99998000) (fb fo : Nat) (bs : List BlockD) (hF : FnP W0 k fb fo nb bs) (i : Nat) (B : BlockD) (hB : bs[i]? = some B) (t : TermD) (ht : B.term = t) (xs : List Bool) (hxs : xs.length = nb) (hme : w.ownsRow W0.heap.size 4 1 k.me nb (xs.map Value.bool)) (hk3 : t.kind = 2) (t1 t2 : Nat) (ht1 : t.to_ = (t1 : Int)) (ht2 : t.els = (t2 : Int)) (hl1 : t1 < nb) (hl2 : t2 < nb) (ho : 16 ≤ t.op ∧ t.op ≤ 21) (ha : ArgOk pl t.a) (hb : ArgOk pl t.b) :
    Calls Tryd.prog 26 #[.pointer (some ⟨gk, 0, none⟩), .int .i64 (i : Nat)] w (Ends W0 gk k pl sl nb ls0 n w (t.kind = 1 ∧ t.to_ = (i : Int) + 1)) := by
  have r0 : RR 0 := by unfold RR; decide
  have HFn := Lib.hid hF
  have hi : i < nb := by rw [← hF.nbe]; exact (List.getElem?_eq_some_iff.1 hB).1
  have hnb := hF.nb2
  obtain ⟨bb, bo, bc, b1, b2⟩ := term_at hF h.bel hB
  rw [ht] at b2
  have c0 : w.cell? ⟨bb, bo + i * 9 + 1, none⟩ = some (.int .i64 t.kind) := b2 0 _ rfl
  have c1 := b2 1 _ rfl
  have c2 := b2 2 _ rfl
  have c3 := b2 3 _ rfl
  have c4 := b2 4 _ rfl
  have c5 := b2 5 _ rfl
  have c6 := b2 6 _ rfl
  have c7 := b2 7 _ rfl
  have cl := World.block_lt_of_cell? _ _ c0
  have bl := World.block_lt_of_cell? _ _ b1
  have p1 := h.cells.1
  rw [hF.ff] at p1
  have pl_ := World.block_lt_of_cell? _ _ p1
  obtain ⟨kd, hkd⟩ : ∃ kd, kd = t.kind := ⟨_, rfl⟩
  have k1 : (t.kind == 1) = false := by rw [hk3]; rfl
  have k2 : (t.kind == 2) = true := by rw [hk3]; rfl
  rw [ht1] at c6
  rw [ht2] at c7
  have HA := Lib.hid (below_alloc (.cells #[.int .i64 t.kind, .int .i64 t.op, .int .i64 t.a.reg, .int .i64 t.a.num, .int .i64 t.b.reg, .int .i64 t.b.num, .int .i64 (t1 : Nat), .int .i64 (t2 : Nat)] 55) (Below.refl w.heap.size w))
  have HP0 := Lib.hid (h.later HA.out)
  have HK0 := Lib.hid (KeptL.of_below HA.out)
  have HX0 := Lib.hid (blk_new w (.cells #[.int .i64 t.kind, .int .i64 t.op, .int .i64 t.a.reg, .int .i64 t.a.num, .int .i64 t.b.reg, .int .i64 t.b.num, .int .i64 (t1 : Nat), .int .i64 (t2 : Nat)] 55))
  obtain ⟨w1, hw1⟩ : ∃ w1, w1 = w.alloc (.cells #[.int .i64 t.kind, .int .i64 t.op, .int .i64 t.a.reg, .int .i64 t.a.num, .int .i64 t.b.reg, .int .i64 t.b.num, .int .i64 (t1 : Nat), .int .i64 (t2 : Nat)] 55) := ⟨_, rfl⟩
  rw [← hw1] at HP0 HK0 HX0
  obtain ⟨gx, hgx⟩ : ∃ gx, gx = w.heap.size := ⟨_, rfl⟩
  rw [← hgx] at HX0
  clear HA h
  clear b2 hF hB ht
  have HME := Lib.hid hme
  clear hk3 hkd ht1 ht2 hme
  have q0 := blk_cell (i := 0) HX0.out rfl
  have q1 := blk_cell (i := 1) HX0.out rfl
  have q2 := blk_cell (i := 2) HX0.out rfl
  have q3 := blk_cell (i := 3) HX0.out rfl
  have q4 := blk_cell (i := 4) HX0.out rfl
  have q5 := blk_cell (i := 5) HX0.out rfl
  have q6 := blk_cell (i := 6) HX0.out rfl
  have q7 := blk_cell (i := 7) HX0.out rfl
  have ql := blk_lt HX0.out
  have HGX := Lib.hid hgx
  go_enter Tryd.func26, Tryd.ntmps26
  go_upto_region 1 with (fail)
  rw [← hw1, ← hgx]
  clear hw1 hgx
  clear c0 c1 c2 c3 c4 c5 c6 c7 cl b1 bl p1 pl_
  go_wp2_with fail
  refine (compare_any W0 gk k pl sl hk nb n ls0 _ HP0.out (by omega) t.op t.a t.b ha hb ho).mono ?_
  rintro e w2 ⟨c, hc, rfl, hp, hkk⟩
  have HP1 := Lib.hid hp
  have HK1 := Lib.hid (HK0.out.trans hkk)
  have HX1 := Lib.hid (hkk.2 _ _ _ _ HX0.out (by decide) (by decide))
  clear hp hkk q0 q1 q2 q3 q4 q5 q6 q7 ql
  have q6 := blk_cell (i := 6) HX1.out rfl
  have q7 := blk_cell (i := 7) HX1.out rfl
  have ql := blk_lt HX1.out
  have HME1 := Lib.hid (HK1.out.own HME.out (by decide) (by decide))
  obtain ⟨s, s1, s0, s2, s3⟩ := HP1.out.ps
  have HS2 := Lib.hid s2
  have HS3 := Lib.hid s3
  have HL1 := Lib.hid (show (ls0 ++ s).length ≤ 100001000 + n by rw [List.length_append]; omega)
  have HB := Lib.hid (fun (W : World) (hb : Below w2.heap.size w2 W) (r : Nat) (hr : r < nb) => block_any W0 gk k pl sl HFn.out.pw _ W (s3.later hb) HFn.out.nm1 r (by omega))
  have hme := HME1.out
  obtain ⟨gm, mc, he, _, _, _, _⟩ := own_form hme (by omega)
  have p5 := HP1.out.cells.2.1
  rw [he] at p5 hme
  obtain ⟨hh, hhc⟩ : ∃ hh, xs[i]? = some hh := ⟨_, List.getElem?_eq_getElem (by omega)⟩
  have p6 : w2.cell? ⟨gm, i, none⟩ = some (.bool hh) := by rw [hme.cellAt i (by omega), List.getElem?_map, hhc]; rfl
  have p5l := World.block_lt_of_cell? _ _ p5
  have p6l := World.block_lt_of_cell? _ _ p6
  have HB1 := Lib.hid (fun W hb => HB.out W hb t1 hl1)
  have HB2 := Lib.hid (fun W hb => HB.out W hb t2 hl2)
  obtain ⟨X, hX⟩ : ∃ X : ByteArray, X = ⟨⟨labB k.num t1⟩⟩ := ⟨_, rfl⟩
  rw [← hX] at HB1
  have HXe := Lib.hid hX
  obtain ⟨Y, hY⟩ : ∃ Y : ByteArray, Y = ⟨⟨labB k.num t2⟩⟩ := ⟨_, rfl⟩
  rw [← hY] at HB2
  have HYe := Lib.hid hY
  have HC9 := Lib.hid hc
  clear hX hY hme he hhc s2 s3 HB hc
  go_upto_region 11 with (fail)
  refine wp_region_over_tail 15 (by kernel_rfl) (by kernel_rfl) ?_
  simp only [List.take_succ_cons, List.take_zero, List.drop_succ_cons, List.drop_zero]
  repeat (go_big_quiet_step ((go_at_call 24; refine calls_over (Nat.le_refl _) (HB1.out _ (over_below _ _ _)))))
  refine wpQuiet_nil ?_
  intro w3 kb3
  have HS4 := Lib.hid (HS3.out.later kb3)
  have HK4 := Lib.hid (HK1.out.trans (KeptL.of_below kb3))
  have HX4 := Lib.hid (blk_below HX1.out kb3)
  rw [HXe.out]
  clear p5 p6 p5l p6l q6 q7 ql kb3
  go_wp2_with fail
  refine (hot_push W0 gk k pl sl _ _ HS4.out 34 0 0 0 0 false c (labB k.num t1) hh (by have := HL1.out; omega)).mono ?_
  rintro e w5 ⟨rfl, hp, hkk⟩
  have HP5 := Lib.hid hp
  have HK5 := Lib.hid (HK4.out.trans hkk)
  have HX5 := Lib.hid (hkk.2 _ _ _ _ HX4.out (by decide) (by decide))
  clear hp hkk
  have q7 := blk_cell (i := 7) HX5.out rfl
  have ql := blk_lt HX5.out
  have HBx := Lib.hid (block_any W0 gk k pl sl HFn.out.pw _ _ HP5.out HFn.out.nm1 t2 (by omega))
  rw [← HYe.out] at HBx
  go_wp2_with fail
  refine HBx.out.mono ?_
  rintro e w6 ⟨rfl, hb6⟩
  have HP6 := Lib.hid (HP5.out.later hb6)
  have HK6 := Lib.hid (HK5.out.trans (KeptL.of_below hb6))
  clear hb6 q7 ql
  go_wp2_with fail
  rw [HYe.out]
  refine (ins_push W0 gk k pl sl _ _ HP6.out 33 0 0 0 0 false 0 (labB k.num t2) (by rw [List.length_append, List.length_singleton]; have := HL1.out; omega)).mono ?_
  rintro e w9 ⟨rfl, hp, hkk⟩
  have HP9 := Lib.hid hp
  have HK9 := Lib.hid (HK6.out.trans hkk)
  clear hp hkk
  go_wp2_with fail
  go_returns
  refine ⟨rfl, HK9.out, Or.inr ⟨s0, s ++ [(⟨[], 34, 0, 0, 0, 0, false, c, labB k.num t1, hh, false⟩ : LineD), ⟨[], 33, 0, 0, 0, 0, false, 0, labB k.num t2, false, false⟩], by rw [List.length_append]; simp only [List.length_cons, List.length_nil]; omega, HS2.out.append (Seg.branch rfl (to_ok (Or.inr (Or.inl rfl)) (Or.inl ⟨rfl, HC9.out.1, HC9.out.2⟩) (labB_ne _ _)) rfl hl1 rfl rfl (to_ok (Or.inl rfl) (Or.inr rfl) (labB_ne _ _)) rfl hl2 rfl), ?_, ?_⟩⟩
  · have e : ls0 ++ (s ++ [(⟨[], 34, 0, 0, 0, 0, false, c, labB k.num t1, hh, false⟩ : LineD), ⟨[], 33, 0, 0, 0, 0, false, 0, labB k.num t2, false, false⟩]) = ls0 ++ s ++ [⟨[], 34, 0, 0, 0, 0, false, c, labB k.num t1, hh, false⟩] ++ [⟨[], 33, 0, 0, 0, 0, false, 0, labB k.num t2, false, false⟩] := by simp
    rw [e]
    exact HP9.out
  · exact ⟨⟨[], 33, 0, 0, 0, 0, false, 0, labB k.num t2, false, false⟩, by rw [List.getLast?_append]; rfl, Or.inl rfl⟩
end
end Go.Proofs.YtbogcompeefoaaaDoor
