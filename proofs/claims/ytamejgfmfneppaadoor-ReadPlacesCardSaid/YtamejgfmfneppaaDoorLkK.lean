/- read.Link: the whole of it. No condition. -/
import Derived.Test.YtamejgfmfneppaaDoorLkJ
import Derived.Test.YtamejgfmfneppaaDoorLkL
namespace Go.Proofs.YtamejgfmfneppaaDoor
open Go.RowKit
set_option linter.unusedVariables false
set_option maxHeartbeats 8000000
set_option maxRecDepth 100000
def startL : List UInt8 := [46, 115, 116, 97, 114, 116]
/-- what Link answers -/
def LinkOut (w0 : World) (p : XProgD) (right : XInsD → Bool) (e : Ending) (w' : World) : Prop :=
  (∃ gi gd N ps1 at_ ps cs st xs ss vc vs, e = .returned (.tuple #[.pointer (some ⟨gi, 0, none⟩), .int .i64 0]) ∧ p.data.foldlM datS (0, []) = .ok (((N : Nat) : Int), ps1) ∧ p.code.foldlM itS (0, ps1, []) = .ok (at_, ps, cs) ∧ lookI cs startL = some st ∧ p.code.foldlM (lnS right ps cs) ([], []) = .ok (xs, ss) ∧
    ImgY w' gi gd N (zsum p.data) vc vs st ∧ RowX w' w0.heap.size vc xs ∧ RowS w' w0.heap.size vs ss ∧ w0.heap.size ≤ gi ∧ Below w0.heap.size w0 w') ∨
  (∃ v er, e = .returned (.tuple #[v, .int .i64 er]) ∧ er ≠ 0 ∧ Below w0.heap.size w0 w' ∧
    (p.data.foldlM datS (0, []) = .error er ∨ ∃ m ps1, p.data.foldlM datS (0, []) = .ok (m, ps1) ∧ (p.code.foldlM itS (0, ps1, []) = .error er ∨ ∃ at_ ps cs, p.code.foldlM itS (0, ps1, []) = .ok (at_, ps, cs) ∧ (lookI cs startL = none ∨ p.code.foldlM (lnS right ps cs) ([], []) = .error er))))
theorem dat_sum : ∀ (l : List XDatumD) (s r : Int × Plc), (∀ d ∈ l, d.kind = 0 ∨ (d.kind = 5 ∧ 0 ≤ d.n)) → l.foldlM datS s = .ok r → r.1 = s.1 + zsum l ∧ (s.1 ≤ 65536 → r.1 ≤ 65536)
  | [], s, r, _, h => by
    simp [List.foldlM] at h
    cases h
    exact ⟨by simp [zsum], fun h => h⟩
  | d :: l, s, r, hk, h => by
    rw [List.foldlM_cons] at h
    cases hd : datS s d with
    | error e => rw [hd] at h; cases h
    | ok s1 =>
      rw [hd] at h
      obtain ⟨h1, h2⟩ := dat_sum l s1 r (fun x hx => hk x (List.mem_cons_of_mem _ hx)) h
      have hs : zsum (d :: l) = (if d.kind = 5 then d.n.toNat else 0) + zsum l := by simp [zsum]
      have hE : ∀ n ps, datE n ps = .ok s1 → s1.1 = n ∧ s1.1 ≤ 65536 := fun n ps h => by
        unfold datE at h
        by_cases hn : n > 65536
        · rw [if_pos hn] at h; cases h
        · rw [if_neg hn] at h; cases h; exact ⟨rfl, by omega⟩
      unfold datS at hd
      rcases hk d List.mem_cons_self with e | ⟨e, e2⟩
      · rw [if_pos e] at hd
        cases hl : lookI s.2 (nmL d.name) with
        | some v => rw [hl] at hd; cases hd
        | none =>
          rw [hl] at hd
          obtain ⟨h3, h4⟩ := hE _ _ hd
          rw [hs, if_neg (by omega)]
          exact ⟨by omega, fun _ => h2 h4⟩
      · rw [if_neg (by omega), if_neg (by omega), if_neg (by omega)] at hd
        by_cases hn : d.n < 0 ∨ 65536 < d.n
        · rw [if_pos hn] at hd; cases hd
        · rw [if_neg hn] at hd
          obtain ⟨h3, h4⟩ := hE _ _ hd
          rw [hs, if_pos e]
          exact ⟨by omega, fun _ => h2 h4⟩
/-- all that Link has in memory -/
structure LnM (w0 w : World) (gk gp gc gi gd gx gy N : Nat) (ps cs : Plc) (vd vco vin1 vin2 : Value) (st : Int) (xs : List XInsD) (ss : List Bool) (vc vs : Value) : Prop where
  lk : LkM w0 w gk gp gc ps cs
  img : ImgY w gi gd N 0 vc vs st
  rx : RowX w w0.heap.size vc xs
  rs : RowS w w0.heap.size vs ss
  px : w.heap[gx]? = some (.cells #[vd, vco] 33 (0, 0))
  py : w.heap[gy]? = some (.cells #[vin1, vin2] 39 (0, 0))
  hi : w0.heap.size ≤ gi
  hd : w0.heap.size ≤ gd
section
variable {w0 w w' : World} {gk gp gc gi gd gx gy N : Nat} {ps cs : Plc} {vd vco vin1 vin2 : Value} {st : Int} {xs : List XInsD} {ss : List Bool} {vc vs : Value}
theorem LnM.later (h : LnM w0 w gk gp gc gi gd gx gy N ps cs vd vco vin1 vin2 st xs ss vc vs) (hb : Below w.heap.size w w') : LnM w0 w' gk gp gc gi gd gx gy N ps cs vd vco vin1 vin2 st xs ss vc vs :=
  ⟨h.lk.later hb, h.img.later hb, own_below h.rx hb, own_below h.rs hb, blk_below h.px hb, blk_below h.py hb, h.hi, h.hd⟩
theorem kpT_set {g j : Nat} {cs : Array Value} {T : TypeId} {fr : Nat × Nat} (h : w.heap[g]? = some (.cells cs T fr)) (v : Value) : KpT T w (w.setCell ⟨g, j, none⟩ v) :=
  ⟨by simp, fun b o hb ho => (Below.heap_setCell _ _ _ b (fun e => by
    have e2 : b = g := e
    subst e2
    rw [h] at hb
    cases hb
    exact ho _ _ rfl)).trans hb⟩
theorem below_setB {B : Nat} {g j : Nat} (h : Below B w0 w) (v : Value) (hB : B ≤ g) : Below B w0 (w.setCell ⟨g, j, none⟩ v) :=
  ⟨h.os, h.tape, h.output, by simpa using h.size, fun k hk => (Below.heap_setCell _ _ _ k (fun e => by have e2 : k = g := e; omega)).trans (h.block k hk)⟩
/-- behind an append to the code, stored -/
theorem LnM.putX (h : LnM w0 w gk gp gc gi gd gx gy N ps cs vd vco vin1 vin2 st xs ss vc vs) {vc' : Value} {x : XInsD} (hb : Below w0.heap.size w w') (hk : KpT 28 w w') (hr : RowX w' w0.heap.size vc' (xs ++ [x])) :
    LnM w0 (w'.setCell ⟨gi, 0, none⟩ vc') gk gp gc gi gd gx gy N ps cs vd vco vin1 vin2 st (xs ++ [x]) ss vc' vs := by
  have hB := h.lk.bel.trans hb
  have hib := hk.cells h.img.box (by decide)
  have k2 := kpT_set (j := 0) hib vc'
  have hb2 := below_setB (j := 0) hB vc' h.hi
  obtain ⟨cz, hz1, hz2⟩ := h.img.dat
  exact ⟨(h.lk.kept hk (by decide) hB).kept k2 (by decide) hb2, ⟨blk_setCell hib vc', cz, k2.cells (hk.cells hz1 (by decide)) (by decide), hz2⟩, k2.own hr (by decide), k2.own (hk.own h.rs (by decide)) (by decide),
    k2.cells (hk.cells h.px (by decide)) (by decide), k2.cells (hk.cells h.py (by decide)) (by decide), h.hi, h.hd⟩
theorem LnM.putT (h : LnM w0 w gk gp gc gi gd gx gy N ps cs vd vco vin1 vin2 st xs ss vc vs) (st' : Int) :
    LnM w0 (w.setCell ⟨gi, 2, none⟩ (.int .i64 st')) gk gp gc gi gd gx gy N ps cs vd vco vin1 vin2 st' xs ss vc vs := by
  have hib := h.img.box
  have k2 := kpT_set (j := 2) hib (.int .i64 st')
  have hb2 := below_setB (j := 2) h.lk.bel (.int .i64 st') h.hi
  obtain ⟨cz, hz1, hz2⟩ := h.img.dat
  exact ⟨h.lk.kept k2 (by decide) hb2, ⟨blk_setCell hib _, cz, k2.cells hz1 (by decide), hz2⟩, k2.own h.rx (by decide), k2.own h.rs (by decide),
    k2.cells h.px (by decide), k2.cells h.py (by decide), h.hi, h.hd⟩
/-- behind an append to the sites, stored -/
theorem LnM.putS (h : LnM w0 w gk gp gc gi gd gx gy N ps cs vd vco vin1 vin2 st xs ss vc vs) {vs' : Value} {x : Bool} (hb : Below w0.heap.size w w') (hk : KpT 4 w w') (hr : RowS w' w0.heap.size vs' (ss ++ [x])) :
    LnM w0 (w'.setCell ⟨gi, 3, none⟩ vs') gk gp gc gi gd gx gy N ps cs vd vco vin1 vin2 st xs (ss ++ [x]) vc vs' := by
  have hB := h.lk.bel.trans hb
  have hib := hk.cells h.img.box (by decide)
  have k2 := kpT_set (j := 3) hib vs'
  have hb2 := below_setB (j := 3) hB vs' h.hi
  obtain ⟨cz, hz1, hz2⟩ := h.img.dat
  exact ⟨(h.lk.kept hk (by decide) hB).kept k2 (by decide) hb2, ⟨blk_setCell hib vs', cz, k2.cells (hk.cells hz1 (by decide)) (by decide), hz2⟩, k2.own (hk.own h.rx (by decide)) (by decide), k2.own hr (by decide),
    k2.cells (hk.cells h.px (by decide)) (by decide), k2.cells (hk.cells h.py (by decide)) (by decide), h.hi, h.hd⟩
end
theorem LnM.setZ {w0 w : World} {gk gp gc gi gd gx gy N : Nat} {ps cs : Plc} {vd vco vin1 vin2 : Value} {st : Int} {xs : List XInsD} {ss : List Bool} {vc vs : Value} (h : LnM w0 w gk gp gc gi gd gx gy N ps cs vd vco vin1 vin2 st xs ss vc vs) {gz j : Nat} {cz : Array Value} (hz : w.heap[gz]? = some (.cells cz 28 (0, 0))) (hne : vc.ownBlock ≠ some gz) (h0 : w0.heap.size ≤ gz) (v : Value) :
    LnM w0 (w.setCell ⟨gz, j, none⟩ v) gk gp gc gi gd gx gy N ps cs vd vco vin1 vin2 st xs ss vc vs := by
  have k2 := kpT_set (j := j) hz v
  have hb2 := below_setB (j := j) h.lk.bel v h0
  obtain ⟨cd, hz1, hz2⟩ := h.img.dat
  exact ⟨h.lk.kept k2 (by decide) hb2, ⟨k2.cells h.img.box (by decide), cd, k2.cells hz1 (by decide), hz2⟩,
    World.ownsRow.kept h.rx ⟨rfl, rfl, rfl, by simp, fun k _ hk => Below.heap_setCell _ _ _ k (fun e => hk (by rw [e]))⟩ (Or.inr hne), k2.own h.rs (by decide),
    k2.cells h.px (by decide), k2.cells h.py (by decide), h.hi, h.hd⟩
theorem Kp2.own {w0 w w' : World} {gi gd B C n : Nat} {T T1 T2 : TypeId} {v : Value} {xs : List Value} {c1 c2 : Array Value} (h : Kp2 w0 w w' gi gd) (h1 : w.heap[gi]? = some (.cells c1 T1 (0, 0))) (h2 : w.heap[gd]? = some (.cells c2 T2 (0, 0))) (hr : w.ownsRow B T C v n xs) (n1 : T ≠ T1) (n2 : T ≠ T2) : w'.ownsRow B T C v n xs := by
  obtain ⟨k1, k2⟩ := hr
  refine ⟨k1, ?_⟩
  rcases k2 with k2 | ⟨g', cap, cur, e, k3, k4, k5⟩
  · exact Or.inl k2
  · refine Or.inr ⟨g', cap, cur, e, k3, (h.blk g' (blk_lt k4) (fun e => ?_) (fun e => ?_)).trans k4, k5⟩
    · subst e; rw [k4] at h1
      simp only [Option.some.injEq, Obj.cells.injEq] at h1
      exact n1 h1.2.1
    · subst e; rw [k4] at h2
      simp only [Option.some.injEq, Obj.cells.injEq] at h2
      exact n2 h2.2.1
theorem obj_new (w : World) (o : Obj) : (w.alloc o).heap[w.heap.size]? = some o := by
  show (w.heap.push o)[w.heap.size]? = some o
  exact Array.getElem?_push_size
theorem LkM.base {w0 w1 w : World} {gk gp gc : Nat} {ps cs : Plc} (h : LkM w1 w gk gp gc ps cs) (hb : Below w0.heap.size w0 w1) : LkM w0 w gk gp gc ps cs :=
  ⟨h.box, h.pm, h.cm, h.ne, Nat.le_trans hb.size h.ok, Nat.le_trans hb.size h.op, Nat.le_trans hb.size h.oc, hb.trans (h.bel.mono hb.size)⟩
theorem datSl_later {w w1 : World} {v : Value} {l : List XDatumD} (h : SlR w 4 (XDatumR w) v l) (hb : Below w.heap.size w w1) : SlR w1 4 (XDatumR w1) v l := by
  obtain ⟨A, cap, h1, h2, h3, h4⟩ := h.later (by decide) hb
  refine ⟨A, cap, h1, h2, h3, fun i x hi => ?_⟩
  obtain ⟨b, o, cs, g1, g2, g3, vd, e, k1, k2, k3, k4, k5⟩ := h4 i x hi
  exact ⟨b, o, cs, g1, g2, g3, vd, e, k1, k2, k3.later (by decide) hb, k4, k5⟩
theorem obj_below {w w' : World} {b : Nat} {o : Obj} (h : w.heap[b]? = some o) (hb : Below w.heap.size w w') : w'.heap[b]? = some o := (hb.block b (Array.getElem?_eq_some_iff.1 h).1).trans h
theorem make_bytes (N : Nat) (hN : N ≤ 65536) : ∃ cz : Array Value, cz.size = N ∧ ∀ W : World, (Instr.makeSlice 23 (.int .i64 0) (.int .i64 (N : Int))).run Tryd.prog W = .ok (.slice (some ⟨W.heap.size, 0, none⟩) 0 N) (W.alloc (.cells cz 5)) := by
  obtain ⟨i0, z0, q1, q2, q3, q4, q5⟩ := info_partsK (C := 1) (B := 1) (show (Tryd.prog.info? 5).map (fun i => (i.zero.map (·.cells.size), i.size, i.bytes)) = some (some 1, 1, 1) by kernel_rfl)
  refine ⟨madeCells z0.cells N, by simp [madeCells], fun W => ?_⟩
  have h := run_make (P := Tryd.prog) W 23 5 i0 z0 Tryd.underlying23 q1 q2 .i64 .i64 0 (N : Int) (by omega) (by omega) (by rw [q5]; omega) (by omega)
  simpa [q4] using h
theorem link_any (w : World) (p : XProgD) (right : XInsD → Bool) (vd vco : Value) (hd : SlR w 4 (XDatumR w) vd p.data) (hc : SlR w 9 XItemR vco p.code) (hdl : p.data.length ≤ 140737488351232) (hcl : p.code.length ≤ 1000000)
    (hk : ∀ d ∈ p.data, d.kind = 0 ∨ (d.kind = 5 ∧ 0 ≤ d.n)) (hR : ∀ x ∈ p.code, nmL x.label = [] → ∀ w', Calls Tryd.prog 9 #[.agg (insV x.ins).toArray] w' (fun e w2 => e = .returned (.bool (right x.ins)) ∧ Below w'.heap.size w' w2)) (A1 A2 : Option Addr) (n1 c1 n2 c2 : Nat) :
    Calls Tryd.prog 5 #[.agg #[vd, vco], .agg #[.slice A1 n1 c1, .slice A2 n2 c2]] w (LinkOut w p right) := by
  have HD := Lib.hid hd
  have HC := Lib.hid hc
  have HDL := Lib.hid hdl
  have HR := Lib.hid hR
  have HKD := Lib.hid hk
  clear hR hk hdl
  obtain ⟨A, cap, rfl, m1, m2, _⟩ := hd
  obtain ⟨A3, cap3, rfl, m3, m4, _⟩ := hc
  clear m1 m2 m3 m4
  have HB1 := Lib.hid (below_alloc (.cells #[.slice A p.data.length cap, .slice A3 p.code.length cap3] 33) (Below.refl w.heap.size w))
  have HB2 := Lib.hid (below_alloc (.cells #[.slice A1 n1 c1, .slice A2 n2 c2] 39) HB1.out)
  have HX0 := Lib.hid (blk_below (blk_new w (.cells #[.slice A p.data.length cap, .slice A3 p.code.length cap3] 33)) (below_alloc (.cells #[.slice A1 n1 c1, .slice A2 n2 c2] 39) (Below.refl _ _)))
  have HY0 := Lib.hid (blk_new (w.alloc (.cells #[.slice A p.data.length cap, .slice A3 p.code.length cap3] 33)) (.cells #[.slice A1 n1 c1, .slice A2 n2 c2] 39))
  go_enter Tryd.func5, Tryd.ntmps5
  have hmm := @run_makeMap Tryd.prog
  go_upto_region 2 with (fail)
  obtain ⟨w1, hw1⟩ : ∃ z, z = (w.alloc (.cells #[.slice A p.data.length cap, .slice A3 p.code.length cap3] 33)).alloc (.cells #[.slice A1 n1 c1, .slice A2 n2 c2] 39) := ⟨_, rfl⟩
  have hsz : w1.heap.size = w.heap.size + 2 := by rw [hw1]; simp
  rw [← hw1] at HB2 HX0 ⊢
  have HY1 : w1.heap[w.heap.size + 1]? = some (.cells #[.slice A1 n1 c1, .slice A2 n2 c2] 39 (0, 0)) := by
    have h := HY0.out
    rw [show (w.alloc (.cells #[.slice A p.data.length cap, .slice A3 p.code.length cap3] 33)).heap.size = w.heap.size + 1 by simp, ← hw1] at h
    exact h
  have HBm := Lib.hid (below_alloc (.cells #[.map (some (w.heap.size + 1 + 1)), .map (some (w.heap.size + 1 + 1 + 1))] 55) (below_alloc (.map #[] 0) (below_alloc (.map #[] 0) (Below.refl w1.heap.size w1))))
  have g1 : ((w1.alloc (.map #[] 0)).alloc (.map #[] 0)).heap.size = w.heap.size + 1 + 1 + 1 + 1 := by simp [hsz]
  have HBX := Lib.hid (blk_new ((w1.alloc (.map #[] 0)).alloc (.map #[] 0)) (.cells #[.map (some (w.heap.size + 1 + 1)), .map (some (w.heap.size + 1 + 1 + 1))] 55))
  have hm1 := obj_below (obj_new w1 (.map #[] 0)) (below_alloc (.cells #[.map (some (w.heap.size + 1 + 1)), .map (some (w.heap.size + 1 + 1 + 1))] 55) (below_alloc (.map #[] 0) (Below.refl _ _)))
  have hm2 := obj_below (obj_new (w1.alloc (.map #[] 0)) (.map #[] 0)) (below_alloc (.cells #[.map (some (w.heap.size + 1 + 1)), .map (some (w.heap.size + 1 + 1 + 1))] 55) (Below.refl _ _))
  rw [hsz] at hm1
  rw [show (w1.alloc (.map #[] 0)).heap.size = w.heap.size + 1 + 1 + 1 by simp [hsz]] at hm2
  have HM1 : (((w1.alloc (.map #[] 0)).alloc (.map #[] 0)).alloc (.cells #[.map (some (w.heap.size + 1 + 1)), .map (some (w.heap.size + 1 + 1 + 1))] 55)).heap[w.heap.size + 1 + 1]? = some (.map #[] 0) := hm1
  have HM2 : (((w1.alloc (.map #[] 0)).alloc (.map #[] 0)).alloc (.cells #[.map (some (w.heap.size + 1 + 1)), .map (some (w.heap.size + 1 + 1 + 1))] 55)).heap[w.heap.size + 1 + 1 + 1]? = some (.map #[] 0) := hm2
  clear hm1 hm2
  rw [g1] at HBX
  obtain ⟨w2, hw2⟩ : ∃ z, z = ((w1.alloc (.map #[] 0)).alloc (.map #[] 0)).alloc (.cells #[.map (some (w.heap.size + 1 + 1)), .map (some (w.heap.size + 1 + 1 + 1))] 55) := ⟨_, rfl⟩
  rw [← hw2] at HBm HBX HM1 HM2 ⊢
  obtain ⟨gk, hgk⟩ : ∃ z, z = w.heap.size + 1 + 1 + 1 + 1 := ⟨_, rfl⟩
  obtain ⟨gc, hgc⟩ : ∃ z, z = w.heap.size + 1 + 1 + 1 := ⟨_, rfl⟩
  obtain ⟨gp, hgp⟩ : ∃ z, z = w.heap.size + 1 + 1 := ⟨_, rfl⟩
  obtain ⟨gy, hgy⟩ : ∃ z, z = w.heap.size + 1 := ⟨_, rfl⟩
  obtain ⟨gx, hgx⟩ : ∃ z, z = w.heap.size := ⟨_, rfl⟩
  have HLK := Lib.hid (show LkM w1 w2 (w.heap.size + 1 + 1 + 1 + 1) (w.heap.size + 1 + 1) (w.heap.size + 1 + 1 + 1) [] [] from
    ⟨HBX.out, ⟨_, _, HM1, MapI.nil _⟩, ⟨_, _, HM2, MapI.nil _⟩, by omega, by omega, by omega, by omega, HBm.out⟩)
  have HX1 := Lib.hid HX0.out
  have HX2 := Lib.hid (blk_below HX0.out HBm.out)
  have HY2 := Lib.hid (blk_below HY1 HBm.out)
  rw [← hgk, ← hgc, ← hgp] at HLK
  rw [← hgk, ← hgc, ← hgp, ← hgy, ← hgx]
  rw [← hgy] at HY2 HY1
  rw [← hgx] at HX2 HX1
  have HYI := Lib.hid HY1
  clear HY1
  clear HX0 HY0 HB1 HBm HBX HM1 HM2 hgk hgc hgp hgy hgx hw2 hw1 hsz g1 hmm
  have x0 := blk_cell (i := 0) HX2.out rfl
  have x1 := blk_cell (i := 1) HX2.out rfl
  have xl := blk_lt HX2.out
  go_wp2_with fail
  refine (labels_any w1 w2 gk gp gc HLK.out p _ _ (datSl_later HD.out HB2.out) (HC.out.later (by decide) HB2.out) HDL.out (by omega)).mono ?_
  rintro e w3 ⟨n, er, rfl, h3⟩
  have H3 := Lib.hid h3
  clear h3 x0 x1 xl HLK
  by_cases he : er = 0
  · subst he
    obtain ⟨ps1, at_, ps, cs, f1, f2, hlk⟩ : ∃ ps1 at_ ps cs, p.data.foldlM datS (0, []) = .ok (n, ps1) ∧ p.code.foldlM itS (0, ps1, []) = .ok (at_, ps, cs) ∧ LkM w1 w3 gk gp gc ps cs := by
      rcases H3.out with ⟨_, h⟩ | ⟨h, _⟩
      · exact h
      · exact absurd rfl h
    have F1 := Lib.hid f1
    have F2 := Lib.hid f2
    have HX3 := Lib.hid (blk_below HX1.out hlk.bel)
    have HY3 := Lib.hid (blk_below HYI.out hlk.bel)
    have HLK := Lib.hid (hlk.base HB2.out)
    obtain ⟨hs1, hs2⟩ := dat_sum p.data _ _ HKD.out f1
    have hs3 := hs2 (by decide)
    obtain ⟨N, hN⟩ : ∃ N : Nat, n = (N : Int) := ⟨zsum p.data, by simpa using hs1⟩
    subst hN
    have HZS := Lib.hid (show zsum p.data = N by simp at hs1; omega)
    have HN := Lib.hid (show N ≤ 65536 by simp at hs3; omega)
    clear f1 f2 hlk hs1 hs2 hs3 HX1 HYI HX2 HY2 H3
    obtain ⟨cz, hcz, hms⟩ := make_bytes N HN.out
    have HCZ := Lib.hid hcz
    clear hcz
    go_upto_region 6 with (fail)
    have HBa := Lib.hid (below_alloc (.cells #[.slice none 0 0, .slice (some ⟨w3.heap.size, 0, none⟩) 0 N, .int .i64 0, .slice none 0 0] 43) (below_alloc (.cells cz 5) (Below.refl w3.heap.size w3)))
    have d1 := blk_below (blk_new w3 (.cells cz 5)) (below_alloc (.cells #[.slice none 0 0, .slice (some ⟨w3.heap.size, 0, none⟩) 0 N, .int .i64 0, .slice none 0 0] 43) (Below.refl _ _))
    have d2 := blk_new (w3.alloc (.cells cz 5)) (.cells #[.slice none 0 0, .slice (some ⟨w3.heap.size, 0, none⟩) 0 N, .int .i64 0, .slice none 0 0] 43)
    rw [show (w3.alloc (.cells cz 5)).heap.size = w3.heap.size + 1 by simp] at d2
    have h34 : w.heap.size ≤ w3.heap.size := HLK.out.bel.size
    obtain ⟨w4, hw4⟩ : ∃ z, z = (w3.alloc (.cells cz 5)).alloc (.cells #[.slice none 0 0, .slice (some ⟨w3.heap.size, 0, none⟩) 0 N, .int .i64 0, .slice none 0 0] 43) := ⟨_, rfl⟩
    rw [← hw4] at HBa d1 d2 ⊢
    have HM4 := Lib.hid (show LnM w w4 gk gp gc (w3.heap.size + 1) w3.heap.size gx gy N ps cs (.slice A p.data.length cap) (.slice A3 p.code.length cap3) (.slice A1 n1 c1) (.slice A2 n2 c2) 0 [] [] (.slice none 0 0) (.slice none 0 0) from
      ⟨HLK.out.later HBa.out, ⟨d2, cz, d1, HCZ.out⟩, World.ownsRow_nil _ _ _ _, World.ownsRow_nil _ _ _ _, blk_below HX3.out HBa.out, blk_below HY3.out HBa.out, by omega, h34⟩)
    obtain ⟨gi, hgi⟩ : ∃ z, z = w3.heap.size + 1 := ⟨_, rfl⟩
    obtain ⟨gd, hgd⟩ : ∃ z, z = w3.heap.size := ⟨_, rfl⟩
    rw [← hgi, ← hgd] at HM4 ⊢
    clear hgi hgd d1 d2 hw4 HBa h34 HLK HX3 HY3 hms HCZ cz
    obtain ⟨ec, ck, hmc, hme⟩ := HM4.out.lk.cm
    have t1 := blk_cell (i := 1) HM4.out.lk.box rfl
    have tl := blk_lt HM4.out.lk.box
    have hlk := run_lookI (P := Tryd.prog) Tryd.underlying53 Tryd.underlying9 (w := w4) (fun w => rfl) hmc hme startL
    rw [show (⟨⟨startL⟩⟩ : ByteArray) = ⟨#[46, 115, 116, 97, 114, 116]⟩ from rfl] at hlk
    cases hst : lookI cs startL with
    | none =>
      have HST := Lib.hid hst
      rw [hst] at hlk
      clear hst
      go_wp2_with fail
      go_returns
      exact Or.inr ⟨_, 31, rfl, by decide, by first | exact HM4.out.lk.bel | exact Below.drew HM4.out.lk.bel, Or.inr ⟨N, ps1, F1.out, Or.inr ⟨at_, ps, cs, F2.out, Or.inl HST.out⟩⟩⟩
    | some st =>
      have HST := Lib.hid hst
      rw [hst] at hlk
      clear hst
      go_upto_region 9 with (fail)
      clear hlk t1 tl hmc hme ec ck
      have y2 := blk_cell (i := 2) HM4.out.img.box rfl
      have y2f : w4.frozen? ⟨gi, 2, none⟩ = false := blk_free HM4.out.img.box
      have yl := blk_lt HM4.out.img.box
      have x1 := blk_cell (i := 1) HM4.out.px rfl
      have xl := blk_lt HM4.out.px
      go_upto_region 10 with (fail)
      have HM5 := Lib.hid (HM4.out.putT st)
      clear y2 y2f yl x1 xl
      obtain ⟨w5, hw5⟩ : ∃ z, z = w4.setCell ⟨gi, 2, none⟩ (.int .i64 st) := ⟨_, rfl⟩
      rw [← hw5] at HM5 ⊢
      have x1 := blk_cell (i := 1) HM5.out.px rfl
      have xl := blk_lt HM5.out.px
      clear hw5 HM4
      go_wp2_with fail
      clear x1 xl
      go_loopw [53] (fun i wr => ∃ (j : Nat) (xs : List XInsD) (ss : List Bool) (vc vs : Value), j ≤ p.code.length ∧ i = .int .i64 (j : Nat) ∧ xs.length ≤ j ∧ ss.length ≤ j ∧ (p.code.take j).foldlM (lnS right ps cs) ([], []) = .ok (xs, ss) ∧ LnM w wr gk gp gc gi gd gx gy N ps cs (.slice A p.data.length cap) (.slice A3 p.code.length cap3) (.slice A1 n1 c1) (.slice A2 n2 c2) st xs ss vc vs) (fun i _ => p.code.length - (intOf i).toNat)
      case atStart => exact ⟨0, [], [], _, _, by omega, rfl, by simp, by simp, rfl, HM5.out⟩
      case round =>
        rename World => wr
        obtain ⟨j, xs, ss, vc, vs, hj, rfl, hxl, hsl, hf, hm⟩ := hrel
        have HF := Lib.hid hf
        have HM := Lib.hid hm
        have HXL := Lib.hid hxl
        have HSL := Lib.hid hsl
        clear hf hm hxl hsl HM5
        by_cases hlt : j < p.code.length
        · obtain ⟨x, hx⟩ : ∃ x, p.code[j]? = some x := ⟨_, List.getElem?_eq_getElem hlt⟩
          obtain ⟨A9, cap9, e9, _, _, hic⟩ := HC.out
          simp only [Value.slice.injEq] at e9
          obtain ⟨rfl, _, rfl⟩ := e9
          obtain ⟨b, o, css, hAe, e1, e2, e3, k1⟩ := hic j x hx
          clear k1 hic
          subst hAe
          subst e3
          have HRx := Lib.hid (HR.out x (List.mem_of_getElem? hx))
          have HS := Lib.hid (fun s' h => foldlM_snoc (lnS right ps cs) hx ([], []) s' h)
          have HSd := Lib.hid (HS.out (xs, ss) HF.out)
          have r0 := later (e2 0 (by omega)) HM.out.lk.bel
          have r1 := later (e2 1 (by omega)) HM.out.lk.bel
          have r2 := later (e2 2 (by omega)) HM.out.lk.bel
          have r3 := later (e2 3 (by omega)) HM.out.lk.bel
          have r4 := later (e2 4 (by omega)) HM.out.lk.bel
          have r5 := later (e2 5 (by omega)) HM.out.lk.bel
          have r6 := later (e2 6 (by omega)) HM.out.lk.bel
          have r7 := later (e2 7 (by omega)) HM.out.lk.bel
          have r8 := later (e2 8 (by omega)) HM.out.lk.bel
          rw [Nat.add_zero] at r0
          have rl := World.block_lt_of_cell? _ _ r0
          have HBd := Lib.hid (below_alloc (.cells #[.string x.label, .int .i64 x.ins.op, .int .i64 x.ins.dst, .int .i64 x.ins.src, .int .i64 x.ins.imm, .int .i64 x.ins.size, .bool x.ins.signed, .int .i64 x.ins.cond, .string x.ins.to_] 30) (Below.refl wr.heap.size wr))
          have HXd := Lib.hid (blk_new wr (.cells #[.string x.label, .int .i64 x.ins.op, .int .i64 x.ins.dst, .int .i64 x.ins.src, .int .i64 x.ins.imm, .int .i64 x.ins.size, .bool x.ins.signed, .int .i64 x.ins.cond, .string x.ins.to_] 30))
          clear e1 e2 hx HS
          go_upto_region 13 with (fail)
          obtain ⟨wd, hwd⟩ : ∃ z, z = wr.alloc (.cells #[.string x.label, .int .i64 x.ins.op, .int .i64 x.ins.dst, .int .i64 x.ins.src, .int .i64 x.ins.imm, .int .i64 x.ins.size, .bool x.ins.signed, .int .i64 x.ins.cond, .string x.ins.to_] 30) := ⟨_, rfl⟩
          obtain ⟨gq, hgq⟩ : ∃ z, z = wr.heap.size := ⟨_, rfl⟩
          rw [← hwd] at HBd HXd ⊢
          rw [← hgq] at HXd ⊢
          have HMd := Lib.hid (HM.out.later HBd.out)
          have q0 := blk_cell (i := 0) HXd.out rfl
          have ql := blk_lt HXd.out
          clear hwd hgq r0 r1 r2 r3 r4 r5 r6 r7 r8 rl HBd HM
          by_cases hlb : nmL x.label = []
          · have dX : x.label.toList.isEmpty = true := by rw [Lib.toList_data]; show (nmL x.label).isEmpty = true; rw [hlb]; rfl
            have HLB := Lib.hid hlb
            clear hlb
            have q1 := blk_cell (i := 1) HXd.out rfl
            have q2 := blk_cell (i := 2) HXd.out rfl
            have q3 := blk_cell (i := 3) HXd.out rfl
            have q4 := blk_cell (i := 4) HXd.out rfl
            have q5 := blk_cell (i := 5) HXd.out rfl
            have q6 := blk_cell (i := 6) HXd.out rfl
            have q7 := blk_cell (i := 7) HXd.out rfl
            have q8 := blk_cell (i := 8) HXd.out rfl
            have HBz := Lib.hid (below_alloc (.cells #[.int .i64 x.ins.op, .int .i64 x.ins.dst, .int .i64 x.ins.src, .int .i64 x.ins.imm, .int .i64 x.ins.size, .bool x.ins.signed, .int .i64 x.ins.cond, .string x.ins.to_] 28) (Below.refl wd.heap.size wd))
            have HXz := Lib.hid (blk_new wd (.cells #[.int .i64 x.ins.op, .int .i64 x.ins.dst, .int .i64 x.ins.src, .int .i64 x.ins.imm, .int .i64 x.ins.size, .bool x.ins.signed, .int .i64 x.ins.cond, .string x.ins.to_] 28))
            go_upto_region 15 with (fail)
            obtain ⟨wz, hwz⟩ : ∃ z, z = wd.alloc (.cells #[.int .i64 x.ins.op, .int .i64 x.ins.dst, .int .i64 x.ins.src, .int .i64 x.ins.imm, .int .i64 x.ins.size, .bool x.ins.signed, .int .i64 x.ins.cond, .string x.ins.to_] 28) := ⟨_, rfl⟩
            obtain ⟨gz, hgz⟩ : ∃ z, z = wd.heap.size := ⟨_, rfl⟩
            rw [← hwz] at HBz HXz ⊢
            rw [← hgz] at HXz ⊢
            have HMz := Lib.hid (HMd.out.later HBz.out)
            have HXL2 := Lib.hid (show gi < wz.heap.size from blk_lt HMz.out.img.box)
            have HNE := Lib.hid (show vc.ownBlock ≠ some gz from fun e => by
              have h := (World.ownsRow.lt HMd.out.rx gz e).2
              omega)
            have HGZ := Lib.hid (show w.heap.size ≤ gz by rw [hgz]; exact HMd.out.lk.bel.size)
            clear hwz hgz q0 q1 q2 q3 q4 q5 q6 q7 q8 ql HBz HMd HXd
            have z0 := blk_cell (i := 0) HXz.out rfl
            have z1 := blk_cell (i := 1) HXz.out rfl
            have z2 := blk_cell (i := 2) HXz.out rfl
            have z3 := blk_cell (i := 3) HXz.out rfl
            have z4 := blk_cell (i := 4) HXz.out rfl
            have z5 := blk_cell (i := 5) HXz.out rfl
            have z6 := blk_cell (i := 6) HXz.out rfl
            have z7 := blk_cell (i := 7) HXz.out rfl
            have zl := blk_lt HXz.out
            go_wp2_with fail
            refine (HRx.out HLB.out wz).mono ?_
            rintro e w6 ⟨rfl, hb6⟩
            have HM6 := Lib.hid (HMz.out.later hb6)
            have HX6 := Lib.hid (blk_below HXz.out hb6)
            clear z0 z1 z2 z3 z4 z5 z6 z7 zl hb6 HMz HXz
            cases hri : right x.ins with
            | false =>
              have HE := Lib.hid (show lnS right ps cs (xs, ss) x = .error 30 by unfold lnS; rw [if_neg (by simp [HLB.out]), if_pos hri])
              clear hri
              go_wp2_with fail
              go_returns
              refine Or.inr ⟨_, 30, rfl, by decide, by first | exact HM6.out.lk.bel | exact Below.drew HM6.out.lk.bel, Or.inr ⟨N, ps1, F1.out, Or.inr ⟨at_, ps, cs, F2.out, Or.inr (foldlM_err (lnS right ps cs) (k := j + 1) ?_)⟩⟩⟩
              rw [HSd.out, HE.out]
            | true =>
              have HRI := Lib.hid hri
              clear hri
              obtain ⟨ec, ck, hmc, hme⟩ := HM6.out.lk.cm
              obtain ⟨ep, cp, hmp, hmpe⟩ := HM6.out.lk.pm
              have t1 := blk_cell (i := 1) HM6.out.lk.box rfl
              have t0 := blk_cell (i := 0) HM6.out.lk.box rfl
              have tl := blk_lt HM6.out.lk.box
              have z0 := blk_cell (i := 0) HX6.out rfl
              have z7 := blk_cell (i := 7) HX6.out rfl
              have zl := blk_lt HX6.out
              have HLK := Lib.hid (fun (W : World) (hW : W.heap[gc]? = some (.map ec ck)) => run_lookI (P := Tryd.prog) Tryd.underlying53 Tryd.underlying9 (w := W) (fun w => rfl) hW hme (nmL x.ins.to_))
              have HLP := Lib.hid (fun (W : World) (hW : W.heap[gp]? = some (.map ep cp)) => run_lookI (P := Tryd.prog) Tryd.underlying52 Tryd.underlying9 (w := W) (fun w => rfl) hW hmpe (nmL x.ins.to_))
              have hdn : (⟨⟨nmL x.ins.to_⟩⟩ : ByteArray) = x.ins.to_ := rfl
              rw [hdn] at HLK HLP
              clear hdn
              obtain ⟨tv, htv⟩ : ∃ tv, tv = (lookI cs (nmL x.ins.to_)).getD 0 := ⟨_, rfl⟩
              obtain ⟨tb, htb⟩ : ∃ tb, tb = (lookI cs (nmL x.ins.to_)).isSome := ⟨_, rfl⟩
              rw [← htv, ← htb] at HLK
              have HTV := Lib.hid htv
              have HTB := Lib.hid htb
              clear htv htb
              go_upto_region 17 with (fail)
              refine upto_begin 6 (fun w' => w'.cell? ⟨gk, 1, none⟩ = some (.map (some gc)) ∧ w'.cell? ⟨gz, 7, none⟩ = some (.string x.ins.to_)) (by kernel_rfl) ?_ (fun hU0 => ?_)
              · exact ⟨t1, z7⟩
              first | refine upto_run 0 (v := ?_) hU0 (by kernel_rfl) rfl (by kernel_rfl) (by kernel_rfl) (by kernel_rfl) (by kernel_rfl) (fun _ _ _ h => h) (Or.inl ⟨by rfl, ?_⟩) ?_ | fail
              rotate_left
              focus first | (intro w _; go_simp; with_reducible rfl) | (intro w _; go_simp; done) | (intro w _; go_simp; rw [if_neg (by omega)]) | fail
              try simp only [Act.put, List.setIfInBounds_toArray, List.set_cons_zero, List.set_cons_succ]
              first | refine upto_run 1 (v := ?_) hU0 (by kernel_rfl) rfl (by kernel_rfl) (by kernel_rfl) (by kernel_rfl) (by kernel_rfl) (fun _ _ _ h => h) (Or.inl ⟨by rfl, ?_⟩) ?_ | fail
              rotate_left
              focus first | (intro w _; go_simp; with_reducible rfl) | (intro w _; go_simp; done) | (intro w _; go_simp; rw [if_neg (by omega)]) | fail
              try simp only [Act.put, List.setIfInBounds_toArray, List.set_cons_zero, List.set_cons_succ]
              first | refine upto_run 2 (v := ?_) hU0 (by kernel_rfl) rfl (by kernel_rfl) (by kernel_rfl) (by kernel_rfl) (by kernel_rfl) (fun _ _ _ h => h) (Or.inl ⟨by rfl, ?_⟩) ?_ | fail
              rotate_left
              focus first | (intro w _; go_simp; with_reducible rfl) | (intro w _; go_simp; done) | (intro w _; go_simp; rw [if_neg (by omega)]) | fail
              try simp only [Act.put, List.setIfInBounds_toArray, List.set_cons_zero, List.set_cons_succ]
              first | refine upto_run 4 (v := ?_) hU0 (by kernel_rfl) rfl (by kernel_rfl) (by kernel_rfl) (by kernel_rfl) (by kernel_rfl) (fun _ _ _ h => h) (Or.inl ⟨by rfl, ?_⟩) ?_ | fail
              rotate_left
              focus first | (intro w _; go_simp; with_reducible rfl) | (intro w _; go_simp; done) | (intro w _; go_simp; rw [if_neg (by omega)]) | fail
              try simp only [Act.put, List.setIfInBounds_toArray, List.set_cons_zero, List.set_cons_succ]
              first | refine upto_read 3 (v := ?_) hU0 (by kernel_rfl) rfl (by kernel_rfl) (by kernel_rfl) (by kernel_rfl) (by kernel_rfl) (by kernel_rfl) (fun _ _ _ h => h) (Or.inl ⟨by rfl, ?_⟩) ?_ | fail
              rotate_left
              focus first | (intro w hSw; (try dsimp only at hSw); go_simp; with_reducible rfl) | (intro w hSw; (try dsimp only at hSw); go_simp; done) | fail
              try simp only [Act.put, List.setIfInBounds_toArray, List.set_cons_zero, List.set_cons_succ]
              first | refine upto_read 5 (v := ?_) hU0 (by kernel_rfl) rfl (by kernel_rfl) (by kernel_rfl) (by kernel_rfl) (by kernel_rfl) (by kernel_rfl) (fun _ _ _ h => h) (Or.inl ⟨by rfl, ?_⟩) ?_ | fail
              rotate_left
              focus first | (intro w hSw; (try dsimp only at hSw); go_simp; with_reducible rfl) | (intro w hSw; (try dsimp only at hSw); go_simp; done) | fail
              try simp only [Act.put, List.setIfInBounds_toArray, List.set_cons_zero, List.set_cons_succ]
              first | refine upto_next 6 rfl (by kernel_rfl) (fun K hK => ?_) | fail
              have hlk := HLK.out w6 hmc
              have hlk2 := HLK.out w6.drew hmc
              go_simp
              first | refine hK.out _ _ ?_ (fun hU1 => ?_) | (go_wp2_with fail; refine hK.out _ _ ?_ (fun hU1 => ?_)) | fail
              · exact Or.inl (by kernel_rfl)
              clear hK K
              clear hU0
              try simp only [Act.put, List.setIfInBounds_toArray, List.set_cons_zero, List.set_cons_succ]
              first | refine upto_run 7 (v := ?_) hU1 (by kernel_rfl) rfl (by kernel_rfl) (by kernel_rfl) (by kernel_rfl) (by kernel_rfl) (fun _ _ _ h => h) (Or.inl ⟨by rfl, ?_⟩) ?_ | fail
              rotate_left
              focus first | (intro w _; go_simp; with_reducible rfl) | (intro w _; go_simp; done) | (intro w _; go_simp; rw [if_neg (by omega)]) | fail
              try simp only [Act.put, List.setIfInBounds_toArray, List.set_cons_zero, List.set_cons_succ]
              first | refine upto_run 8 (v := ?_) hU1 (by kernel_rfl) rfl (by kernel_rfl) (by kernel_rfl) (by kernel_rfl) (by kernel_rfl) (fun _ _ _ h => h) (Or.inl ⟨by rfl, ?_⟩) ?_ | fail
              rotate_left
              focus first | (intro w _; go_simp; with_reducible rfl) | (intro w _; go_simp; done) | (intro w _; go_simp; rw [if_neg (by omega)]) | fail
              try simp only [Act.put, List.setIfInBounds_toArray, List.set_cons_zero, List.set_cons_succ]
              first | refine upto_run 9 (v := ?_) hU1 (by kernel_rfl) rfl (by kernel_rfl) (by kernel_rfl) (by kernel_rfl) (by kernel_rfl) (fun _ _ _ h => h) (Or.inl ⟨by rfl, ?_⟩) ?_ | fail
              rotate_left
              focus first | (intro w _; go_simp; with_reducible rfl) | (intro w _; go_simp; done) | (intro w _; go_simp; rw [if_neg (by omega)]) | fail
              try simp only [Act.put, List.setIfInBounds_toArray, List.set_cons_zero, List.set_cons_succ]
              first | refine upto_run 10 (v := ?_) hU1 (by kernel_rfl) rfl (by kernel_rfl) (by kernel_rfl) (by kernel_rfl) (by kernel_rfl) (fun _ _ _ h => h) (Or.inl ⟨by rfl, ?_⟩) ?_ | fail
              rotate_left
              focus first | (intro w _; go_simp; with_reducible rfl) | (intro w _; go_simp; done) | (intro w _; go_simp; rw [if_neg (by omega)]) | fail
              try simp only [Act.put, List.setIfInBounds_toArray, List.set_cons_zero, List.set_cons_succ]
              first | refine upto_run 11 (v := ?_) hU1 (by kernel_rfl) rfl (by kernel_rfl) (by kernel_rfl) (by kernel_rfl) (by kernel_rfl) (fun _ _ _ h => h) (Or.inl ⟨by rfl, ?_⟩) ?_ | fail
              rotate_left
              focus first | (intro w _; go_simp; with_reducible rfl) | (intro w _; go_simp; done) | (intro w _; go_simp; rw [if_neg (by omega)]) | fail
              try simp only [Act.put, List.setIfInBounds_toArray, List.set_cons_zero, List.set_cons_succ]
              refine upto_done (by kernel_rfl) ?_ _
              clear hlk hlk2
              by_cases h6 : x.ins.op = 6
              · have b6 : (x.ins.op == 6) = true := by rw [h6]; rfl
                have H6 := Lib.hid h6
                clear h6
                cases hlp : lookI ps (nmL x.ins.to_) with
                | none =>
                  rw [hlp] at HLP
                  have HE := Lib.hid (show lnS right ps cs (xs, ss) x = .error 31 by unfold lnS; rw [if_neg (by simp [HLB.out]), if_neg (by simp [HRI.out]), if_pos H6.out]; simp only [hlp])
                  clear hlp
                  go_upto_region 19 with (fail)
                  refine upto_begin 6 (fun w' => w'.cell? ⟨gk, 0, none⟩ = some (.map (some gp)) ∧ w'.cell? ⟨gz, 7, none⟩ = some (.string x.ins.to_)) (by kernel_rfl) ?_ (fun hU0 => ?_)
                  · exact ⟨t0, z7⟩
                  first | refine upto_run 0 (v := ?_) hU0 (by kernel_rfl) rfl (by kernel_rfl) (by kernel_rfl) (by kernel_rfl) (by kernel_rfl) (fun _ _ _ h => h) (Or.inl ⟨by rfl, ?_⟩) ?_ | fail
                  rotate_left
                  focus first | (intro w _; go_simp; with_reducible rfl) | (intro w _; go_simp; done) | (intro w _; go_simp; rw [if_neg (by omega)]) | fail
                  try simp only [Act.put, List.setIfInBounds_toArray, List.set_cons_zero, List.set_cons_succ]
                  first | refine upto_run 1 (v := ?_) hU0 (by kernel_rfl) rfl (by kernel_rfl) (by kernel_rfl) (by kernel_rfl) (by kernel_rfl) (fun _ _ _ h => h) (Or.inl ⟨by rfl, ?_⟩) ?_ | fail
                  rotate_left
                  focus first | (intro w _; go_simp; with_reducible rfl) | (intro w _; go_simp; done) | (intro w _; go_simp; rw [if_neg (by omega)]) | fail
                  try simp only [Act.put, List.setIfInBounds_toArray, List.set_cons_zero, List.set_cons_succ]
                  first | refine upto_run 2 (v := ?_) hU0 (by kernel_rfl) rfl (by kernel_rfl) (by kernel_rfl) (by kernel_rfl) (by kernel_rfl) (fun _ _ _ h => h) (Or.inl ⟨by rfl, ?_⟩) ?_ | fail
                  rotate_left
                  focus first | (intro w _; go_simp; with_reducible rfl) | (intro w _; go_simp; done) | (intro w _; go_simp; rw [if_neg (by omega)]) | fail
                  try simp only [Act.put, List.setIfInBounds_toArray, List.set_cons_zero, List.set_cons_succ]
                  first | refine upto_run 4 (v := ?_) hU0 (by kernel_rfl) rfl (by kernel_rfl) (by kernel_rfl) (by kernel_rfl) (by kernel_rfl) (fun _ _ _ h => h) (Or.inl ⟨by rfl, ?_⟩) ?_ | fail
                  rotate_left
                  focus first | (intro w _; go_simp; with_reducible rfl) | (intro w _; go_simp; done) | (intro w _; go_simp; rw [if_neg (by omega)]) | fail
                  try simp only [Act.put, List.setIfInBounds_toArray, List.set_cons_zero, List.set_cons_succ]
                  first | refine upto_read 3 (v := ?_) hU0 (by kernel_rfl) rfl (by kernel_rfl) (by kernel_rfl) (by kernel_rfl) (by kernel_rfl) (by kernel_rfl) (fun _ _ _ h => h) (Or.inl ⟨by rfl, ?_⟩) ?_ | fail
                  rotate_left
                  focus first | (intro w hSw; (try dsimp only at hSw); go_simp; with_reducible rfl) | (intro w hSw; (try dsimp only at hSw); go_simp; done) | fail
                  try simp only [Act.put, List.setIfInBounds_toArray, List.set_cons_zero, List.set_cons_succ]
                  first | refine upto_read 5 (v := ?_) hU0 (by kernel_rfl) rfl (by kernel_rfl) (by kernel_rfl) (by kernel_rfl) (by kernel_rfl) (by kernel_rfl) (fun _ _ _ h => h) (Or.inl ⟨by rfl, ?_⟩) ?_ | fail
                  rotate_left
                  focus first | (intro w hSw; (try dsimp only at hSw); go_simp; with_reducible rfl) | (intro w hSw; (try dsimp only at hSw); go_simp; done) | fail
                  try simp only [Act.put, List.setIfInBounds_toArray, List.set_cons_zero, List.set_cons_succ]
                  first | refine upto_next 6 rfl (by kernel_rfl) (fun K hK => ?_) | fail
                  have hlp := HLP.out w6 hmp
                  have hlp2 := HLP.out w6.drew hmp
                  have hlp3 := HLP.out w6.drew.drew hmp
                  go_simp
                  first | refine hK.out _ _ ?_ (fun hU1 => ?_) | (go_wp2_with fail; refine hK.out _ _ ?_ (fun hU1 => ?_)) | fail
                  · exact Or.inl (by kernel_rfl)
                  clear hK K
                  clear hU0
                  try simp only [Act.put, List.setIfInBounds_toArray, List.set_cons_zero, List.set_cons_succ]
                  first | refine upto_run 7 (v := ?_) hU1 (by kernel_rfl) rfl (by kernel_rfl) (by kernel_rfl) (by kernel_rfl) (by kernel_rfl) (fun _ _ _ h => h) (Or.inl ⟨by rfl, ?_⟩) ?_ | fail
                  rotate_left
                  focus first | (intro w _; go_simp; with_reducible rfl) | (intro w _; go_simp; done) | (intro w _; go_simp; rw [if_neg (by omega)]) | fail
                  try simp only [Act.put, List.setIfInBounds_toArray, List.set_cons_zero, List.set_cons_succ]
                  first | refine upto_run 8 (v := ?_) hU1 (by kernel_rfl) rfl (by kernel_rfl) (by kernel_rfl) (by kernel_rfl) (by kernel_rfl) (fun _ _ _ h => h) (Or.inl ⟨by rfl, ?_⟩) ?_ | fail
                  rotate_left
                  focus first | (intro w _; go_simp; with_reducible rfl) | (intro w _; go_simp; done) | (intro w _; go_simp; rw [if_neg (by omega)]) | fail
                  try simp only [Act.put, List.setIfInBounds_toArray, List.set_cons_zero, List.set_cons_succ]
                  first | refine upto_run 9 (v := ?_) hU1 (by kernel_rfl) rfl (by kernel_rfl) (by kernel_rfl) (by kernel_rfl) (by kernel_rfl) (fun _ _ _ h => h) (Or.inl ⟨by rfl, ?_⟩) ?_ | fail
                  rotate_left
                  focus first | (intro w _; go_simp; with_reducible rfl) | (intro w _; go_simp; done) | (intro w _; go_simp; rw [if_neg (by omega)]) | fail
                  try simp only [Act.put, List.setIfInBounds_toArray, List.set_cons_zero, List.set_cons_succ]
                  first | refine upto_run 10 (v := ?_) hU1 (by kernel_rfl) rfl (by kernel_rfl) (by kernel_rfl) (by kernel_rfl) (by kernel_rfl) (fun _ _ _ h => h) (Or.inl ⟨by rfl, ?_⟩) ?_ | fail
                  rotate_left
                  focus first | (intro w _; go_simp; with_reducible rfl) | (intro w _; go_simp; done) | (intro w _; go_simp; rw [if_neg (by omega)]) | fail
                  try simp only [Act.put, List.setIfInBounds_toArray, List.set_cons_zero, List.set_cons_succ]
                  first | refine upto_run 11 (v := ?_) hU1 (by kernel_rfl) rfl (by kernel_rfl) (by kernel_rfl) (by kernel_rfl) (by kernel_rfl) (fun _ _ _ h => h) (Or.inl ⟨by rfl, ?_⟩) ?_ | fail
                  rotate_left
                  focus first | (intro w _; go_simp; with_reducible rfl) | (intro w _; go_simp; done) | (intro w _; go_simp; rw [if_neg (by omega)]) | fail
                  try simp only [Act.put, List.setIfInBounds_toArray, List.set_cons_zero, List.set_cons_succ]
                  refine upto_done (by kernel_rfl) ?_ _
                  go_wp2_with fail
                  go_returns
                  refine Or.inr ⟨_, 31, rfl, by decide, by first | exact HM6.out.lk.bel | exact Below.drew HM6.out.lk.bel | exact Below.drew (Below.drew HM6.out.lk.bel), Or.inr ⟨N, ps1, F1.out, Or.inr ⟨at_, ps, cs, F2.out, Or.inr (foldlM_err (lnS right ps cs) (k := j + 1) ?_)⟩⟩⟩
                  rw [HSd.out, HE.out]
                | some a =>
                  rw [hlp] at HLP
                  have HE := Lib.hid (show lnS right ps cs (xs, ss) x = lnPut (xs, ss) { x.ins with imm := a } by unfold lnS; rw [if_neg (by simp [HLB.out]), if_neg (by simp [HRI.out]), if_pos H6.out]; simp only [hlp])
                  clear hlp
                  go_upto_region 19 with (fail)
                  refine upto_begin 6 (fun w' => w'.cell? ⟨gk, 0, none⟩ = some (.map (some gp)) ∧ w'.cell? ⟨gz, 7, none⟩ = some (.string x.ins.to_)) (by kernel_rfl) ?_ (fun hU0 => ?_)
                  · exact ⟨t0, z7⟩
                  first | refine upto_run 0 (v := ?_) hU0 (by kernel_rfl) rfl (by kernel_rfl) (by kernel_rfl) (by kernel_rfl) (by kernel_rfl) (fun _ _ _ h => h) (Or.inl ⟨by rfl, ?_⟩) ?_ | fail
                  rotate_left
                  focus first | (intro w _; go_simp; with_reducible rfl) | (intro w _; go_simp; done) | (intro w _; go_simp; rw [if_neg (by omega)]) | fail
                  try simp only [Act.put, List.setIfInBounds_toArray, List.set_cons_zero, List.set_cons_succ]
                  first | refine upto_run 1 (v := ?_) hU0 (by kernel_rfl) rfl (by kernel_rfl) (by kernel_rfl) (by kernel_rfl) (by kernel_rfl) (fun _ _ _ h => h) (Or.inl ⟨by rfl, ?_⟩) ?_ | fail
                  rotate_left
                  focus first | (intro w _; go_simp; with_reducible rfl) | (intro w _; go_simp; done) | (intro w _; go_simp; rw [if_neg (by omega)]) | fail
                  try simp only [Act.put, List.setIfInBounds_toArray, List.set_cons_zero, List.set_cons_succ]
                  first | refine upto_run 2 (v := ?_) hU0 (by kernel_rfl) rfl (by kernel_rfl) (by kernel_rfl) (by kernel_rfl) (by kernel_rfl) (fun _ _ _ h => h) (Or.inl ⟨by rfl, ?_⟩) ?_ | fail
                  rotate_left
                  focus first | (intro w _; go_simp; with_reducible rfl) | (intro w _; go_simp; done) | (intro w _; go_simp; rw [if_neg (by omega)]) | fail
                  try simp only [Act.put, List.setIfInBounds_toArray, List.set_cons_zero, List.set_cons_succ]
                  first | refine upto_run 4 (v := ?_) hU0 (by kernel_rfl) rfl (by kernel_rfl) (by kernel_rfl) (by kernel_rfl) (by kernel_rfl) (fun _ _ _ h => h) (Or.inl ⟨by rfl, ?_⟩) ?_ | fail
                  rotate_left
                  focus first | (intro w _; go_simp; with_reducible rfl) | (intro w _; go_simp; done) | (intro w _; go_simp; rw [if_neg (by omega)]) | fail
                  try simp only [Act.put, List.setIfInBounds_toArray, List.set_cons_zero, List.set_cons_succ]
                  first | refine upto_read 3 (v := ?_) hU0 (by kernel_rfl) rfl (by kernel_rfl) (by kernel_rfl) (by kernel_rfl) (by kernel_rfl) (by kernel_rfl) (fun _ _ _ h => h) (Or.inl ⟨by rfl, ?_⟩) ?_ | fail
                  rotate_left
                  focus first | (intro w hSw; (try dsimp only at hSw); go_simp; with_reducible rfl) | (intro w hSw; (try dsimp only at hSw); go_simp; done) | fail
                  try simp only [Act.put, List.setIfInBounds_toArray, List.set_cons_zero, List.set_cons_succ]
                  first | refine upto_read 5 (v := ?_) hU0 (by kernel_rfl) rfl (by kernel_rfl) (by kernel_rfl) (by kernel_rfl) (by kernel_rfl) (by kernel_rfl) (fun _ _ _ h => h) (Or.inl ⟨by rfl, ?_⟩) ?_ | fail
                  rotate_left
                  focus first | (intro w hSw; (try dsimp only at hSw); go_simp; with_reducible rfl) | (intro w hSw; (try dsimp only at hSw); go_simp; done) | fail
                  try simp only [Act.put, List.setIfInBounds_toArray, List.set_cons_zero, List.set_cons_succ]
                  first | refine upto_next 6 rfl (by kernel_rfl) (fun K hK => ?_) | fail
                  have hlp := HLP.out w6 hmp
                  have hlp2 := HLP.out w6.drew hmp
                  have hlp3 := HLP.out w6.drew.drew hmp
                  go_simp
                  first | refine hK.out _ _ ?_ (fun hU1 => ?_) | (go_wp2_with fail; refine hK.out _ _ ?_ (fun hU1 => ?_)) | fail
                  · exact Or.inl (by kernel_rfl)
                  clear hK K
                  clear hU0
                  try simp only [Act.put, List.setIfInBounds_toArray, List.set_cons_zero, List.set_cons_succ]
                  first | refine upto_run 7 (v := ?_) hU1 (by kernel_rfl) rfl (by kernel_rfl) (by kernel_rfl) (by kernel_rfl) (by kernel_rfl) (fun _ _ _ h => h) (Or.inl ⟨by rfl, ?_⟩) ?_ | fail
                  rotate_left
                  focus first | (intro w _; go_simp; with_reducible rfl) | (intro w _; go_simp; done) | (intro w _; go_simp; rw [if_neg (by omega)]) | fail
                  try simp only [Act.put, List.setIfInBounds_toArray, List.set_cons_zero, List.set_cons_succ]
                  first | refine upto_run 8 (v := ?_) hU1 (by kernel_rfl) rfl (by kernel_rfl) (by kernel_rfl) (by kernel_rfl) (by kernel_rfl) (fun _ _ _ h => h) (Or.inl ⟨by rfl, ?_⟩) ?_ | fail
                  rotate_left
                  focus first | (intro w _; go_simp; with_reducible rfl) | (intro w _; go_simp; done) | (intro w _; go_simp; rw [if_neg (by omega)]) | fail
                  try simp only [Act.put, List.setIfInBounds_toArray, List.set_cons_zero, List.set_cons_succ]
                  first | refine upto_run 9 (v := ?_) hU1 (by kernel_rfl) rfl (by kernel_rfl) (by kernel_rfl) (by kernel_rfl) (by kernel_rfl) (fun _ _ _ h => h) (Or.inl ⟨by rfl, ?_⟩) ?_ | fail
                  rotate_left
                  focus first | (intro w _; go_simp; with_reducible rfl) | (intro w _; go_simp; done) | (intro w _; go_simp; rw [if_neg (by omega)]) | fail
                  try simp only [Act.put, List.setIfInBounds_toArray, List.set_cons_zero, List.set_cons_succ]
                  first | refine upto_run 10 (v := ?_) hU1 (by kernel_rfl) rfl (by kernel_rfl) (by kernel_rfl) (by kernel_rfl) (by kernel_rfl) (fun _ _ _ h => h) (Or.inl ⟨by rfl, ?_⟩) ?_ | fail
                  rotate_left
                  focus first | (intro w _; go_simp; with_reducible rfl) | (intro w _; go_simp; done) | (intro w _; go_simp; rw [if_neg (by omega)]) | fail
                  try simp only [Act.put, List.setIfInBounds_toArray, List.set_cons_zero, List.set_cons_succ]
                  first | refine upto_run 11 (v := ?_) hU1 (by kernel_rfl) rfl (by kernel_rfl) (by kernel_rfl) (by kernel_rfl) (by kernel_rfl) (fun _ _ _ h => h) (Or.inl ⟨by rfl, ?_⟩) ?_ | fail
                  rotate_left
                  focus first | (intro w _; go_simp; with_reducible rfl) | (intro w _; go_simp; done) | (intro w _; go_simp; rw [if_neg (by omega)]) | fail
                  try simp only [Act.put, List.setIfInBounds_toArray, List.set_cons_zero, List.set_cons_succ]
                  refine upto_done (by kernel_rfl) ?_ _
                  have z3 := blk_cell (i := 3) HX6.out rfl
                  have z3f : w6.frozen? ⟨gz, 3, none⟩ = false := blk_free HX6.out
                  go_upto_region 27 with (fail)
                  obtain ⟨wt, hwt⟩ : ∃ z, z = (w6.setCell ⟨gz, 3, none⟩ (.int .i64 a)).drew.drew := ⟨_, rfl⟩
                  have HMt := Lib.hid ((HM6.out.setZ (gz := gz) (j := 3) HX6.out HNE.out HGZ.out (.int .i64 a)).later (Below.drew (Below.drew (Below.refl _ _))))
                  obtain ⟨xk, hxk⟩ : ∃ z, z = { x.ins with imm := a } := ⟨_, rfl⟩
                  have HXt := Lib.hid (show (w6.setCell ⟨gz, 3, none⟩ (.int .i64 a)).drew.drew.heap[gz]? = some (.cells #[.int .i64 xk.op, .int .i64 xk.dst, .int .i64 xk.src, .int .i64 xk.imm, .int .i64 xk.size, .bool xk.signed, .int .i64 xk.cond, .string xk.to_] 28 (0, 0)) by subst hxk; exact blk_setCell (w := w6) HX6.out _)
                  rw [← hxk] at HE
                  rw [← hwt] at HMt HXt ⊢
                  clear hwt hxk hlp hlp2 hlp3 z0 z3 z3f z7 zl t0 t1 tl
                  obtain ⟨Av, cv, hvc⟩ := HMt.out.rx.slice
                  obtain ⟨As, cs9, hvs⟩ := HMt.out.rs.slice
                  subst hvc hvs
                  obtain ⟨nx, hnx⟩ : ∃ nx, nx = xs.length := ⟨_, rfl⟩
                  obtain ⟨ns, hns⟩ : ∃ ns, ns = ss.length := ⟨_, rfl⟩
                  rw [← hnx, ← hns] at HMt
                  rw [← hnx] at HNE
                  have HNX := Lib.hid hnx
                  have hnl : ss.length ≤ 1000000000 := by have := HSL.out; omega
                  have hnl2 : xs.length ≤ 1000000000 := by have := HXL.out; omega
                  have HNL := Lib.hid hnl
                  have HNL2 := Lib.hid hnl2
                  clear hnl hnl2 hns hnx
                  have y0 := blk_cell (i := 0) HMt.out.img.box rfl
                  have y3 := blk_cell (i := 3) HMt.out.img.box rfl
                  have yl := blk_lt HMt.out.img.box
                  by_cases hx0 : xs = []
                  · have hn0 : nx = 0 := by rw [HNX.out, hx0]; rfl
                    subst hn0
                    have HLC := Lib.hid (show lastCall xs = false by rw [hx0]; rfl)
                    clear hx0
                    have hPS := RowS.push (HMt.out.later (Below.drew (Below.refl _ _))).rs HMt.out.lk.bel.size false wt.drew.heap.size rfl HNL.out
                    obtain ⟨vs2, w7, hr, hrs, hb7, hk7⟩ := hPS
                    obtain ⟨As2, cs2, hvs2⟩ := hrs.slice
                    rw [List.length_append, List.length_singleton] at hvs2
                    subst hvs2
                    have HRr := hr
                    have hbA : Below wt.heap.size wt (wt.drew.alloc (.cells #[.bool false] 4)) := below_alloc _ (Below.drew (Below.refl _ _))
                    have HK7 := Lib.hid hk7
                    have HB7 := Lib.hid hb7
                    have HS7 := Lib.hid hrs
                    have H7 := Lib.hid (hk7.cells HMt.out.img.box (by decide))
                    have f0 := blk_cell (i := 0) H7.out rfl
                    have f3 := blk_cell (i := 3) H7.out rfl
                    have f3f : w7.frozen? ⟨gi, 3, none⟩ = false := blk_free H7.out
                    have fl := blk_lt H7.out
                    clear hr hrs hb7 hk7
                    refine upto_begin 31 (fun w' => w'.cell? ⟨gi, 3, none⟩ = some (.slice As ns cs9) ∧ w'.cell? ⟨gi, 0, none⟩ = some (.slice Av 0 cv)) (by kernel_rfl) ?_ (fun hU0 => ?_)
                    · exact ⟨y3, y0⟩
                    first | refine upto_run 0 (v := ?_) hU0 (by kernel_rfl) rfl (by kernel_rfl) (by kernel_rfl) (by kernel_rfl) (by kernel_rfl) (fun _ _ _ h => h) (Or.inl ⟨by rfl, ?_⟩) ?_ | fail
                    rotate_left
                    focus first | (intro w _; go_simp; with_reducible rfl) | (intro w _; go_simp; done) | (intro w _; go_simp; rw [if_neg (by omega)]) | fail
                    try simp only [Act.put, List.setIfInBounds_toArray, List.set_cons_zero, List.set_cons_succ]
                    first | refine upto_run 1 (v := ?_) hU0 (by kernel_rfl) rfl (by kernel_rfl) (by kernel_rfl) (by kernel_rfl) (by kernel_rfl) (fun _ _ _ h => h) (Or.inl ⟨by rfl, ?_⟩) ?_ | fail
                    rotate_left
                    focus first | (intro w _; go_simp; with_reducible rfl) | (intro w _; go_simp; done) | (intro w _; go_simp; rw [if_neg (by omega)]) | fail
                    try simp only [Act.put, List.setIfInBounds_toArray, List.set_cons_zero, List.set_cons_succ]
                    first | refine upto_run 2 (v := ?_) hU0 (by kernel_rfl) rfl (by kernel_rfl) (by kernel_rfl) (by kernel_rfl) (by kernel_rfl) (fun _ _ _ h => h) (Or.inl ⟨by rfl, ?_⟩) ?_ | fail
                    rotate_left
                    focus first | (intro w _; go_simp; with_reducible rfl) | (intro w _; go_simp; done) | (intro w _; go_simp; rw [if_neg (by omega)]) | fail
                    try simp only [Act.put, List.setIfInBounds_toArray, List.set_cons_zero, List.set_cons_succ]
                    first | refine upto_run 3 (v := ?_) hU0 (by kernel_rfl) rfl (by kernel_rfl) (by kernel_rfl) (by kernel_rfl) (by kernel_rfl) (fun _ _ _ h => h) (Or.inl ⟨by rfl, ?_⟩) ?_ | fail
                    rotate_left
                    focus first | (intro w _; go_simp; with_reducible rfl) | (intro w _; go_simp; done) | (intro w _; go_simp; rw [if_neg (by omega)]) | fail
                    try simp only [Act.put, List.setIfInBounds_toArray, List.set_cons_zero, List.set_cons_succ]
                    first | refine upto_read 4 (v := ?_) hU0 (by kernel_rfl) rfl (by kernel_rfl) (by kernel_rfl) (by kernel_rfl) (by kernel_rfl) (by kernel_rfl) (fun _ _ _ h => h) (Or.inl ⟨by rfl, ?_⟩) ?_ | fail
                    rotate_left
                    focus first | (intro w hSw; (try dsimp only at hSw); go_simp; with_reducible rfl) | (intro w hSw; (try dsimp only at hSw); go_simp; done) | fail
                    try simp only [Act.put, List.setIfInBounds_toArray, List.set_cons_zero, List.set_cons_succ]
                    first | refine upto_run 5 (v := ?_) hU0 (by kernel_rfl) rfl (by kernel_rfl) (by kernel_rfl) (by kernel_rfl) (by kernel_rfl) (fun _ _ _ h => h) (Or.inl ⟨by rfl, ?_⟩) ?_ | fail
                    rotate_left
                    focus first | (intro w _; go_simp; with_reducible rfl) | (intro w _; go_simp; done) | (intro w _; go_simp; rw [if_neg (by omega)]) | fail
                    try simp only [Act.put, List.setIfInBounds_toArray, List.set_cons_zero, List.set_cons_succ]
                    first | refine upto_run 6 (v := ?_) hU0 (by kernel_rfl) rfl (by kernel_rfl) (by kernel_rfl) (by kernel_rfl) (by kernel_rfl) (fun _ _ _ h => h) (Or.inl ⟨by rfl, ?_⟩) ?_ | fail
                    rotate_left
                    focus first | (intro w _; go_simp; with_reducible rfl) | (intro w _; go_simp; done) | (intro w _; go_simp; rw [if_neg (by omega)]) | fail
                    try simp only [Act.put, List.setIfInBounds_toArray, List.set_cons_zero, List.set_cons_succ]
                    first | refine upto_run 7 (v := ?_) hU0 (by kernel_rfl) rfl (by kernel_rfl) (by kernel_rfl) (by kernel_rfl) (by kernel_rfl) (fun _ _ _ h => h) (Or.inl ⟨by rfl, ?_⟩) ?_ | fail
                    rotate_left
                    focus first | (intro w _; go_simp; with_reducible rfl) | (intro w _; go_simp; done) | (intro w _; go_simp; rw [if_neg (by omega)]) | fail
                    try simp only [Act.put, List.setIfInBounds_toArray, List.set_cons_zero, List.set_cons_succ]
                    first | refine upto_read 8 (v := ?_) hU0 (by kernel_rfl) rfl (by kernel_rfl) (by kernel_rfl) (by kernel_rfl) (by kernel_rfl) (by kernel_rfl) (fun _ _ _ h => h) (Or.inl ⟨by rfl, ?_⟩) ?_ | fail
                    rotate_left
                    focus first | (intro w hSw; (try dsimp only at hSw); go_simp; with_reducible rfl) | (intro w hSw; (try dsimp only at hSw); go_simp; done) | fail
                    try simp only [Act.put, List.setIfInBounds_toArray, List.set_cons_zero, List.set_cons_succ]
                    first | refine upto_run 9 (v := ?_) hU0 (by kernel_rfl) rfl (by kernel_rfl) (by kernel_rfl) (by kernel_rfl) (by kernel_rfl) (fun _ _ _ h => h) (Or.inl ⟨by rfl, ?_⟩) ?_ | fail
                    rotate_left
                    focus first | (intro w _; go_simp; with_reducible rfl) | (intro w _; go_simp; done) | (intro w _; go_simp; rw [if_neg (by omega)]) | fail
                    try simp only [Act.put, List.setIfInBounds_toArray, List.set_cons_zero, List.set_cons_succ]
                    first | refine upto_run 10 (v := ?_) hU0 (by kernel_rfl) rfl (by kernel_rfl) (by kernel_rfl) (by kernel_rfl) (by kernel_rfl) (fun _ _ _ h => h) (Or.inl ⟨by rfl, ?_⟩) ?_ | fail
                    rotate_left
                    focus first | (intro w _; go_simp; with_reducible rfl) | (intro w _; go_simp; done) | (intro w _; go_simp; rw [if_neg (by omega)]) | fail
                    try simp only [Act.put, List.setIfInBounds_toArray, List.set_cons_zero, List.set_cons_succ]
                    first | refine upto_run 11 (v := ?_) hU0 (by kernel_rfl) rfl (by kernel_rfl) (by kernel_rfl) (by kernel_rfl) (by kernel_rfl) (fun _ _ _ h => h) (Or.inl ⟨by rfl, ?_⟩) ?_ | fail
                    rotate_left
                    focus first | (intro w _; go_simp; with_reducible rfl) | (intro w _; go_simp; done) | (intro w _; go_simp; rw [if_neg (by omega)]) | fail
                    try simp only [Act.put, List.setIfInBounds_toArray, List.set_cons_zero, List.set_cons_succ]
                    refine upto_run 12 (v := undef) hU0 (by kernel_rfl) rfl (by kernel_rfl) (by kernel_rfl) (by kernel_rfl) (by kernel_rfl) (fun _ _ _ h => h) (Or.inr ⟨by rfl, rfl⟩) ?_
                    try simp only [Act.put, List.setIfInBounds_toArray, List.set_cons_zero, List.set_cons_succ]
                    refine upto_run 13 (v := undef) hU0 (by kernel_rfl) rfl (by kernel_rfl) (by kernel_rfl) (by kernel_rfl) (by kernel_rfl) (fun _ _ _ h => h) (Or.inr ⟨by rfl, rfl⟩) ?_
                    try simp only [Act.put, List.setIfInBounds_toArray, List.set_cons_zero, List.set_cons_succ]
                    refine upto_run 14 (v := undef) hU0 (by kernel_rfl) rfl (by kernel_rfl) (by kernel_rfl) (by kernel_rfl) (by kernel_rfl) (fun _ _ _ h => h) (Or.inr ⟨by rfl, rfl⟩) ?_
                    try simp only [Act.put, List.setIfInBounds_toArray, List.set_cons_zero, List.set_cons_succ]
                    refine upto_run 15 (v := undef) hU0 (by kernel_rfl) rfl (by kernel_rfl) (by kernel_rfl) (by kernel_rfl) (by kernel_rfl) (fun _ _ _ h => h) (Or.inr ⟨by rfl, rfl⟩) ?_
                    try simp only [Act.put, List.setIfInBounds_toArray, List.set_cons_zero, List.set_cons_succ]
                    refine upto_run 16 (v := undef) hU0 (by kernel_rfl) rfl (by kernel_rfl) (by kernel_rfl) (by kernel_rfl) (by kernel_rfl) (fun _ _ _ h => h) (Or.inr ⟨by rfl, rfl⟩) ?_
                    try simp only [Act.put, List.setIfInBounds_toArray, List.set_cons_zero, List.set_cons_succ]
                    refine upto_run 17 (v := undef) hU0 (by kernel_rfl) rfl (by kernel_rfl) (by kernel_rfl) (by kernel_rfl) (by kernel_rfl) (fun _ _ _ h => h) (Or.inr ⟨by rfl, rfl⟩) ?_
                    try simp only [Act.put, List.setIfInBounds_toArray, List.set_cons_zero, List.set_cons_succ]
                    refine upto_run 18 (v := undef) hU0 (by kernel_rfl) rfl (by kernel_rfl) (by kernel_rfl) (by kernel_rfl) (by kernel_rfl) (fun _ _ _ h => h) (Or.inr ⟨by rfl, rfl⟩) ?_
                    try simp only [Act.put, List.setIfInBounds_toArray, List.set_cons_zero, List.set_cons_succ]
                    refine upto_run 19 (v := undef) hU0 (by kernel_rfl) rfl (by kernel_rfl) (by kernel_rfl) (by kernel_rfl) (by kernel_rfl) (fun _ _ _ h => h) (Or.inr ⟨by rfl, rfl⟩) ?_
                    try simp only [Act.put, List.setIfInBounds_toArray, List.set_cons_zero, List.set_cons_succ]
                    refine upto_run 20 (v := undef) hU0 (by kernel_rfl) rfl (by kernel_rfl) (by kernel_rfl) (by kernel_rfl) (by kernel_rfl) (fun _ _ _ h => h) (Or.inr ⟨by rfl, rfl⟩) ?_
                    try simp only [Act.put, List.setIfInBounds_toArray, List.set_cons_zero, List.set_cons_succ]
                    refine upto_run 21 (v := undef) hU0 (by kernel_rfl) rfl (by kernel_rfl) (by kernel_rfl) (by kernel_rfl) (by kernel_rfl) (fun _ _ _ h => h) (Or.inr ⟨by rfl, rfl⟩) ?_
                    try simp only [Act.put, List.setIfInBounds_toArray, List.set_cons_zero, List.set_cons_succ]
                    refine upto_run 22 (v := undef) hU0 (by kernel_rfl) rfl (by kernel_rfl) (by kernel_rfl) (by kernel_rfl) (by kernel_rfl) (fun _ _ _ h => h) (Or.inr ⟨by rfl, rfl⟩) ?_
                    try simp only [Act.put, List.setIfInBounds_toArray, List.set_cons_zero, List.set_cons_succ]
                    refine upto_run 23 (v := undef) hU0 (by kernel_rfl) rfl (by kernel_rfl) (by kernel_rfl) (by kernel_rfl) (by kernel_rfl) (fun _ _ _ h => h) (Or.inr ⟨by rfl, rfl⟩) ?_
                    try simp only [Act.put, List.setIfInBounds_toArray, List.set_cons_zero, List.set_cons_succ]
                    refine upto_run 24 (v := undef) hU0 (by kernel_rfl) rfl (by kernel_rfl) (by kernel_rfl) (by kernel_rfl) (by kernel_rfl) (fun _ _ _ h => h) (Or.inr ⟨by rfl, rfl⟩) ?_
                    try simp only [Act.put, List.setIfInBounds_toArray, List.set_cons_zero, List.set_cons_succ]
                    refine upto_run 25 (v := undef) hU0 (by kernel_rfl) rfl (by kernel_rfl) (by kernel_rfl) (by kernel_rfl) (by kernel_rfl) (fun _ _ _ h => h) (Or.inr ⟨by rfl, rfl⟩) ?_
                    try simp only [Act.put, List.setIfInBounds_toArray, List.set_cons_zero, List.set_cons_succ]
                    first | refine upto_run 26 (v := ?_) hU0 (by kernel_rfl) rfl (by kernel_rfl) (by kernel_rfl) (by kernel_rfl) (by kernel_rfl) (fun _ _ _ h => h) (Or.inl ⟨by rfl, ?_⟩) ?_ | fail
                    rotate_left
                    focus first | (intro w _; go_simp; with_reducible rfl) | (intro w _; go_simp; done) | (intro w _; go_simp; rw [if_neg (by omega)]) | fail
                    try simp only [Act.put, List.setIfInBounds_toArray, List.set_cons_zero, List.set_cons_succ]
                    first | refine upto_next 27 rfl (by kernel_rfl) (fun K hK => ?_) | fail
                    go_simp
                    first | refine hK.out _ _ ?_ (fun hU1 => ?_) | (go_wp2_with fail; refine hK.out _ _ ?_ (fun hU1 => ?_)) | fail
                    · exact Or.inr ⟨later y3 hbA, later y0 hbA⟩
                    clear hK K
                    clear hU0
                    try simp only [Act.put, List.setIfInBounds_toArray, List.set_cons_zero, List.set_cons_succ]
                    first | refine upto_next 28 rfl (by kernel_rfl) (fun K hK => ?_) | fail
                    refine step_append_run2 rfl (.tmp 105) (.tmp 128) 41 41 rfl _ _ _ _ rfl rfl HRr ?_
                    first | refine hK.out _ _ ?_ (fun hU2 => ?_) | (go_wp2_with fail; refine hK.out _ _ ?_ (fun hU2 => ?_)) | fail
                    · exact Or.inr ⟨f3, f0⟩
                    clear hK K
                    clear hU1
                    try simp only [Act.put, List.setIfInBounds_toArray, List.set_cons_zero, List.set_cons_succ]
                    first | refine upto_run 29 (v := ?_) hU2 (by kernel_rfl) rfl (by kernel_rfl) (by kernel_rfl) (by kernel_rfl) (by kernel_rfl) (fun _ _ _ h => h) (Or.inl ⟨by rfl, ?_⟩) ?_ | fail
                    rotate_left
                    focus first | (intro w _; go_simp; with_reducible rfl) | (intro w _; go_simp; done) | (intro w _; go_simp; rw [if_neg (by omega)]) | fail
                    try simp only [Act.put, List.setIfInBounds_toArray, List.set_cons_zero, List.set_cons_succ]
                    first | refine upto_run 30 (v := ?_) hU2 (by kernel_rfl) rfl (by kernel_rfl) (by kernel_rfl) (by kernel_rfl) (by kernel_rfl) (fun _ _ _ h => h) (Or.inl ⟨by rfl, ?_⟩) ?_ | fail
                    rotate_left
                    focus first | (intro w _; go_simp; with_reducible rfl) | (intro w _; go_simp; done) | (intro w _; go_simp; rw [if_neg (by omega)]) | fail
                    try simp only [Act.put, List.setIfInBounds_toArray, List.set_cons_zero, List.set_cons_succ]
                    first | refine upto_next 31 rfl (by kernel_rfl) (fun K hK => ?_) | fail
                    go_simp
                    first | refine hK.out _ _ ?_ (fun hU3 => ?_) | (go_wp2_with fail; refine hK.out _ _ ?_ (fun hU3 => ?_)) | fail
                    · exact Or.inl (by kernel_rfl)
                    clear hK K
                    clear hU2
                    try simp only [Act.put, List.setIfInBounds_toArray, List.set_cons_zero, List.set_cons_succ]
                    refine upto_done (by kernel_rfl) ?_ _
                    have HM8 := Lib.hid ((HMt.out.later (Below.drew (Below.refl _ _))).putS HB7.out HK7.out HS7.out)
                    have HZ8 := Lib.hid ((kpT_set (j := 3) H7.out (.slice As2 (ss.length + 1) cs2)).cells (HK7.out.cells (show (wt.drew).heap[gz]? = _ from blk_below HXt.out (Below.drew (Below.refl _ _))) (by decide)) (by decide))
                    obtain ⟨w8, hw8⟩ : ∃ z, z = w7.setCell ⟨gi, 3, none⟩ (.slice As2 (ss.length + 1) cs2) := ⟨_, rfl⟩
                    rw [← hw8] at HM8 HZ8 ⊢
                    clear hw8 f0 f3 f3f fl y0 y3 yl HRr hbA HK7 HB7 HS7 H7 HMt HXt
                    have hPX := RowX.push (HM8.out.later (Below.drew (Below.refl _ _))).rx HM8.out.lk.bel.size xk w8.drew.heap.size rfl HNL2.out
                    obtain ⟨vc2, w9, hr, hrs, hb9, hk9, hg9⟩ := hPX
                    have HZ9 := Lib.hid ((hg9.block gz (show gz < w8.drew.heap.size from blk_lt HZ8.out) (fun e => HNE.out e.symm)).trans (show w8.drew.heap[gz]? = _ from HZ8.out))
                    obtain ⟨Av2, cv2, hvc2⟩ := hrs.slice
                    rw [List.length_append, List.length_singleton] at hvc2
                    subst hvc2
                    have HRr := hr
                    have hbA : Below w8.heap.size w8 (w8.drew.alloc (.cells #[.int .i64 xk.op, .int .i64 xk.dst, .int .i64 xk.src, .int .i64 xk.imm, .int .i64 xk.size, .bool xk.signed, .int .i64 xk.cond, .string xk.to_] 28)) := below_alloc _ (Below.drew (Below.refl _ _))
                    have HM9 := Lib.hid ((HM8.out.later (Below.drew (Below.refl _ _))).putX hb9 hk9 hrs)
                    have H9 := Lib.hid (hk9.cells (show w8.drew.heap[gi]? = _ from HM8.out.img.box) (by decide))
                    have y0 := blk_cell (i := 0) HM8.out.img.box rfl
                    have f0 := blk_cell (i := 0) H9.out rfl
                    have f0f : w9.frozen? ⟨gi, 0, none⟩ = false := blk_free H9.out
                    have fl := blk_lt H9.out
                    have yl := blk_lt HM8.out.img.box
                    have z0 := blk_cell (i := 0) HZ8.out rfl
                    have z1 := blk_cell (i := 1) HZ8.out rfl
                    have z2 := blk_cell (i := 2) HZ8.out rfl
                    have z3 := blk_cell (i := 3) HZ8.out rfl
                    have z4 := blk_cell (i := 4) HZ8.out rfl
                    have z5 := blk_cell (i := 5) HZ8.out rfl
                    have z6 := blk_cell (i := 6) HZ8.out rfl
                    have z7 := blk_cell (i := 7) HZ8.out rfl
                    have zl := blk_lt HZ8.out
                    clear hr hrs hb9 hk9 hg9
                    go_upto_region 28 with (fail)
                    refine upto_begin 10 (fun w' => w'.cell? ⟨gi, 0, none⟩ = some (.slice Av 0 cv) ∧ w'.cell? ⟨gz, 0, none⟩ = some (.int .i64 xk.op) ∧ w'.cell? ⟨gz, 1, none⟩ = some (.int .i64 xk.dst) ∧ w'.cell? ⟨gz, 2, none⟩ = some (.int .i64 xk.src) ∧ w'.cell? ⟨gz, 3, none⟩ = some (.int .i64 xk.imm) ∧ w'.cell? ⟨gz, 4, none⟩ = some (.int .i64 xk.size) ∧ w'.cell? ⟨gz, 5, none⟩ = some (.bool xk.signed) ∧ w'.cell? ⟨gz, 6, none⟩ = some (.int .i64 xk.cond) ∧ w'.cell? ⟨gz, 7, none⟩ = some (.string xk.to_)) (by kernel_rfl) ?_ (fun hU0 => ?_)
                    · exact ⟨y0, z0, z1, z2, z3, z4, z5, z6, z7⟩
                    first | refine upto_run 0 (v := ?_) hU0 (by kernel_rfl) rfl (by kernel_rfl) (by kernel_rfl) (by kernel_rfl) (by kernel_rfl) (fun _ _ _ h => h) (Or.inl ⟨by rfl, ?_⟩) ?_ | fail
                    rotate_left
                    focus first | (intro w _; go_simp; with_reducible rfl) | (intro w _; go_simp; done) | (intro w _; go_simp; rw [if_neg (by omega)]) | fail
                    try simp only [Act.put, List.setIfInBounds_toArray, List.set_cons_zero, List.set_cons_succ]
                    first | refine upto_run 1 (v := ?_) hU0 (by kernel_rfl) rfl (by kernel_rfl) (by kernel_rfl) (by kernel_rfl) (by kernel_rfl) (fun _ _ _ h => h) (Or.inl ⟨by rfl, ?_⟩) ?_ | fail
                    rotate_left
                    focus first | (intro w _; go_simp; with_reducible rfl) | (intro w _; go_simp; done) | (intro w _; go_simp; rw [if_neg (by omega)]) | fail
                    try simp only [Act.put, List.setIfInBounds_toArray, List.set_cons_zero, List.set_cons_succ]
                    first | refine upto_run 2 (v := ?_) hU0 (by kernel_rfl) rfl (by kernel_rfl) (by kernel_rfl) (by kernel_rfl) (by kernel_rfl) (fun _ _ _ h => h) (Or.inl ⟨by rfl, ?_⟩) ?_ | fail
                    rotate_left
                    focus first | (intro w _; go_simp; with_reducible rfl) | (intro w _; go_simp; done) | (intro w _; go_simp; rw [if_neg (by omega)]) | fail
                    try simp only [Act.put, List.setIfInBounds_toArray, List.set_cons_zero, List.set_cons_succ]
                    first | refine upto_run 3 (v := ?_) hU0 (by kernel_rfl) rfl (by kernel_rfl) (by kernel_rfl) (by kernel_rfl) (by kernel_rfl) (fun _ _ _ h => h) (Or.inl ⟨by rfl, ?_⟩) ?_ | fail
                    rotate_left
                    focus first | (intro w _; go_simp; with_reducible rfl) | (intro w _; go_simp; done) | (intro w _; go_simp; rw [if_neg (by omega)]) | fail
                    try simp only [Act.put, List.setIfInBounds_toArray, List.set_cons_zero, List.set_cons_succ]
                    first | refine upto_read 4 (v := ?_) hU0 (by kernel_rfl) rfl (by kernel_rfl) (by kernel_rfl) (by kernel_rfl) (by kernel_rfl) (by kernel_rfl) (fun _ _ _ h => h) (Or.inl ⟨by rfl, ?_⟩) ?_ | fail
                    rotate_left
                    focus first | (intro w hSw; (try dsimp only at hSw); go_simp; with_reducible rfl) | (intro w hSw; (try dsimp only at hSw); go_simp; done) | fail
                    try simp only [Act.put, List.setIfInBounds_toArray, List.set_cons_zero, List.set_cons_succ]
                    first | refine upto_read 5 (v := ?_) hU0 (by kernel_rfl) rfl (by kernel_rfl) (by kernel_rfl) (by kernel_rfl) (by kernel_rfl) (by kernel_rfl) (fun _ _ _ h => h) (Or.inl ⟨by rfl, ?_⟩) ?_ | fail
                    rotate_left
                    focus first | (intro w hSw; (try dsimp only at hSw); go_simp; with_reducible rfl) | (intro w hSw; (try dsimp only at hSw); go_simp; done) | fail
                    try simp only [Act.put, List.setIfInBounds_toArray, List.set_cons_zero, List.set_cons_succ]
                    first | refine upto_next 6 rfl (by kernel_rfl) (fun K hK => ?_) | fail
                    go_simp
                    first | refine hK.out _ _ ?_ (fun hU1 => ?_) | (go_wp2_with fail; refine hK.out _ _ ?_ (fun hU1 => ?_)) | fail
                    · exact Or.inr ⟨later y0 hbA, later z0 hbA, later z1 hbA, later z2 hbA, later z3 hbA, later z4 hbA, later z5 hbA, later z6 hbA, later z7 hbA⟩
                    clear hK K
                    clear hU0
                    try simp only [Act.put, List.setIfInBounds_toArray, List.set_cons_zero, List.set_cons_succ]
                    first | refine upto_next 7 rfl (by kernel_rfl) (fun K hK => ?_) | fail
                    refine step_append_run2 rfl (.tmp 136) (.tmp 138) 40 40 rfl _ _ _ _ rfl rfl HRr ?_
                    first | refine hK.out _ _ ?_ (fun hU2 => ?_) | (go_wp2_with fail; refine hK.out _ _ ?_ (fun hU2 => ?_)) | fail
                    · exact Or.inr ⟨f0, blk_cell HZ9.out rfl, blk_cell HZ9.out rfl, blk_cell HZ9.out rfl, blk_cell HZ9.out rfl, blk_cell HZ9.out rfl, blk_cell HZ9.out rfl, blk_cell HZ9.out rfl, blk_cell HZ9.out rfl⟩
                    clear hK K
                    clear hU1
                    try simp only [Act.put, List.setIfInBounds_toArray, List.set_cons_zero, List.set_cons_succ]
                    first | refine upto_run 8 (v := ?_) hU2 (by kernel_rfl) rfl (by kernel_rfl) (by kernel_rfl) (by kernel_rfl) (by kernel_rfl) (fun _ _ _ h => h) (Or.inl ⟨by rfl, ?_⟩) ?_ | fail
                    rotate_left
                    focus first | (intro w _; go_simp; with_reducible rfl) | (intro w _; go_simp; done) | (intro w _; go_simp; rw [if_neg (by omega)]) | fail
                    try simp only [Act.put, List.setIfInBounds_toArray, List.set_cons_zero, List.set_cons_succ]
                    first | refine upto_run 9 (v := ?_) hU2 (by kernel_rfl) rfl (by kernel_rfl) (by kernel_rfl) (by kernel_rfl) (by kernel_rfl) (fun _ _ _ h => h) (Or.inl ⟨by rfl, ?_⟩) ?_ | fail
                    rotate_left
                    focus first | (intro w _; go_simp; with_reducible rfl) | (intro w _; go_simp; done) | (intro w _; go_simp; rw [if_neg (by omega)]) | fail
                    try simp only [Act.put, List.setIfInBounds_toArray, List.set_cons_zero, List.set_cons_succ]
                    first | refine upto_next 10 rfl (by kernel_rfl) (fun K hK => ?_) | fail
                    go_simp
                    first | refine hK.out _ _ ?_ (fun hU3 => ?_) | (go_wp2_with fail; refine hK.out _ _ ?_ (fun hU3 => ?_)) | fail
                    · exact Or.inl (by kernel_rfl)
                    clear hK K
                    clear hU2
                    try simp only [Act.put, List.setIfInBounds_toArray, List.set_cons_zero, List.set_cons_succ]
                    refine upto_done (by kernel_rfl) ?_ _
                    clear f0 f0f fl yl y0 z0 z1 z2 z3 z4 z5 z6 z7 zl HRr hbA
                    go_wp2_with fail
                    go_roundw
                    case rel =>
                      refine ⟨j + 1, xs ++ [xk], ss ++ [false], _, _, by omega, by go_num, by have := HXL.out; simp; omega, by have := HSL.out; simp; omega, ?_, HM9.out⟩
                      rw [HSd.out, HE.out]
                      unfold lnPut
                      rw [HLC.out]
                    case measure => simp [intOf]; omega
                  · obtain ⟨k, hk⟩ : ∃ k, nx = k + 1 := ⟨nx - 1, by
                      have h1 : xs.length ≠ 0 := fun e => hx0 (List.eq_nil_of_length_eq_zero e)
                      have := HNX.out
                      omega⟩
                    subst hk
                    obtain ⟨l, hl⟩ : ∃ l, xs[k]? = some l := ⟨_, List.getElem?_eq_getElem (by have := HNX.out; omega)⟩
                    have HL := Lib.hid hl
                    have HLC := Lib.hid (lastCall_at HNX.out.symm hl)
                    obtain ⟨gv, rfl, yo, hkc⟩ := RowX.last HMt.out.rx HNX.out.symm hl
                    have HPS := Lib.hid (fun (W : World) (hb : Below wt.heap.size wt W) => RowS.push (HMt.out.later hb).rs (HMt.out.later hb).lk.bel.size (callsB l.op) W.heap.size rfl HNL.out)
                    have yol := World.block_lt_of_cell? _ _ yo
                    have hkb : k ≤ 1000000000 := by have h1 := HNX.out; have h2 := HNL2.out; omega
                    clear hl hx0
                    refine upto_begin 31 (fun w' => w'.cell? ⟨gi, 3, none⟩ = some (.slice As ns cs9) ∧ w'.cell? ⟨gi, 0, none⟩ = some (.slice (some ⟨gv, 0, none⟩) (k + 1) cv) ∧ w'.cell? ⟨gv, k * 8, none⟩ = some (.int .i64 l.op)) (by kernel_rfl) ?_ (fun hU0 => ?_)
                    · exact ⟨y3, y0, yo⟩
                    first | refine upto_run 0 (v := ?_) hU0 (by kernel_rfl) rfl (by kernel_rfl) (by kernel_rfl) (by kernel_rfl) (by kernel_rfl) (fun _ _ _ h => h) (Or.inl ⟨by rfl, ?_⟩) ?_ | fail
                    rotate_left
                    focus first | (intro w _; go_simp; with_reducible rfl) | (intro w _; go_simp; done) | (intro w _; go_simp; rw [if_neg (by omega)]) | fail
                    try simp only [Act.put, List.setIfInBounds_toArray, List.set_cons_zero, List.set_cons_succ]
                    first | refine upto_run 1 (v := ?_) hU0 (by kernel_rfl) rfl (by kernel_rfl) (by kernel_rfl) (by kernel_rfl) (by kernel_rfl) (fun _ _ _ h => h) (Or.inl ⟨by rfl, ?_⟩) ?_ | fail
                    rotate_left
                    focus first | (intro w _; go_simp; with_reducible rfl) | (intro w _; go_simp; done) | (intro w _; go_simp; rw [if_neg (by omega)]) | fail
                    try simp only [Act.put, List.setIfInBounds_toArray, List.set_cons_zero, List.set_cons_succ]
                    first | refine upto_run 2 (v := ?_) hU0 (by kernel_rfl) rfl (by kernel_rfl) (by kernel_rfl) (by kernel_rfl) (by kernel_rfl) (fun _ _ _ h => h) (Or.inl ⟨by rfl, ?_⟩) ?_ | fail
                    rotate_left
                    focus first | (intro w _; go_simp; with_reducible rfl) | (intro w _; go_simp; done) | (intro w _; go_simp; rw [if_neg (by omega)]) | fail
                    try simp only [Act.put, List.setIfInBounds_toArray, List.set_cons_zero, List.set_cons_succ]
                    first | refine upto_run 3 (v := ?_) hU0 (by kernel_rfl) rfl (by kernel_rfl) (by kernel_rfl) (by kernel_rfl) (by kernel_rfl) (fun _ _ _ h => h) (Or.inl ⟨by rfl, ?_⟩) ?_ | fail
                    rotate_left
                    focus first | (intro w _; go_simp; with_reducible rfl) | (intro w _; go_simp; done) | (intro w _; go_simp; rw [if_neg (by omega)]) | fail
                    try simp only [Act.put, List.setIfInBounds_toArray, List.set_cons_zero, List.set_cons_succ]
                    first | refine upto_read 4 (v := ?_) hU0 (by kernel_rfl) rfl (by kernel_rfl) (by kernel_rfl) (by kernel_rfl) (by kernel_rfl) (by kernel_rfl) (fun _ _ _ h => h) (Or.inl ⟨by rfl, ?_⟩) ?_ | fail
                    rotate_left
                    focus first | (intro w hSw; (try dsimp only at hSw); go_simp; with_reducible rfl) | (intro w hSw; (try dsimp only at hSw); go_simp; done) | fail
                    try simp only [Act.put, List.setIfInBounds_toArray, List.set_cons_zero, List.set_cons_succ]
                    first | refine upto_run 5 (v := ?_) hU0 (by kernel_rfl) rfl (by kernel_rfl) (by kernel_rfl) (by kernel_rfl) (by kernel_rfl) (fun _ _ _ h => h) (Or.inl ⟨by rfl, ?_⟩) ?_ | fail
                    rotate_left
                    focus first | (intro w _; go_simp; with_reducible rfl) | (intro w _; go_simp; done) | (intro w _; go_simp; rw [if_neg (by omega)]) | fail
                    try simp only [Act.put, List.setIfInBounds_toArray, List.set_cons_zero, List.set_cons_succ]
                    first | refine upto_run 6 (v := ?_) hU0 (by kernel_rfl) rfl (by kernel_rfl) (by kernel_rfl) (by kernel_rfl) (by kernel_rfl) (fun _ _ _ h => h) (Or.inl ⟨by rfl, ?_⟩) ?_ | fail
                    rotate_left
                    focus first | (intro w _; go_simp; with_reducible rfl) | (intro w _; go_simp; done) | (intro w _; go_simp; rw [if_neg (by omega)]) | fail
                    try simp only [Act.put, List.setIfInBounds_toArray, List.set_cons_zero, List.set_cons_succ]
                    first | refine upto_run 7 (v := ?_) hU0 (by kernel_rfl) rfl (by kernel_rfl) (by kernel_rfl) (by kernel_rfl) (by kernel_rfl) (fun _ _ _ h => h) (Or.inl ⟨by rfl, ?_⟩) ?_ | fail
                    rotate_left
                    focus first | (intro w _; go_simp; with_reducible rfl) | (intro w _; go_simp; done) | (intro w _; go_simp; rw [if_neg (by omega)]) | fail
                    try simp only [Act.put, List.setIfInBounds_toArray, List.set_cons_zero, List.set_cons_succ]
                    first | refine upto_read 8 (v := ?_) hU0 (by kernel_rfl) rfl (by kernel_rfl) (by kernel_rfl) (by kernel_rfl) (by kernel_rfl) (by kernel_rfl) (fun _ _ _ h => h) (Or.inl ⟨by rfl, ?_⟩) ?_ | fail
                    rotate_left
                    focus first | (intro w hSw; (try dsimp only at hSw); go_simp; with_reducible rfl) | (intro w hSw; (try dsimp only at hSw); go_simp; done) | fail
                    try simp only [Act.put, List.setIfInBounds_toArray, List.set_cons_zero, List.set_cons_succ]
                    first | refine upto_run 9 (v := ?_) hU0 (by kernel_rfl) rfl (by kernel_rfl) (by kernel_rfl) (by kernel_rfl) (by kernel_rfl) (fun _ _ _ h => h) (Or.inl ⟨by rfl, ?_⟩) ?_ | fail
                    rotate_left
                    focus first | (intro w _; go_simp; with_reducible rfl) | (intro w _; go_simp; done) | (intro w _; go_simp; rw [if_neg (by omega)]) | fail
                    try simp only [Act.put, List.setIfInBounds_toArray, List.set_cons_zero, List.set_cons_succ]
                    first | refine upto_run 10 (v := ?_) hU0 (by kernel_rfl) rfl (by kernel_rfl) (by kernel_rfl) (by kernel_rfl) (by kernel_rfl) (fun _ _ _ h => h) (Or.inl ⟨by rfl, ?_⟩) ?_ | fail
                    rotate_left
                    focus first | (intro w _; go_simp; with_reducible rfl) | (intro w _; go_simp; done) | (intro w _; go_simp; rw [if_neg (by omega)]) | fail
                    try simp only [Act.put, List.setIfInBounds_toArray, List.set_cons_zero, List.set_cons_succ]
                    first | refine upto_run 11 (v := ?_) hU0 (by kernel_rfl) rfl (by kernel_rfl) (by kernel_rfl) (by kernel_rfl) (by kernel_rfl) (fun _ _ _ h => h) (Or.inl ⟨by rfl, ?_⟩) ?_ | fail
                    rotate_left
                    focus first | (intro w _; go_simp; with_reducible rfl) | (intro w _; go_simp; done) | (intro w _; go_simp; rw [if_neg (by omega)]) | fail
                    try simp only [Act.put, List.setIfInBounds_toArray, List.set_cons_zero, List.set_cons_succ]
                    first | refine upto_run 12 (v := ?_) hU0 (by kernel_rfl) rfl (by kernel_rfl) (by kernel_rfl) (by kernel_rfl) (by kernel_rfl) (fun _ _ _ h => h) (Or.inl ⟨by rfl, ?_⟩) ?_ | fail
                    rotate_left
                    focus first | (intro w _; go_simp; with_reducible rfl) | (intro w _; go_simp; done) | (intro w _; go_simp; rw [if_neg (by omega)]) | fail
                    try simp only [Act.put, List.setIfInBounds_toArray, List.set_cons_zero, List.set_cons_succ]
                    first | refine upto_run 13 (v := ?_) hU0 (by kernel_rfl) rfl (by kernel_rfl) (by kernel_rfl) (by kernel_rfl) (by kernel_rfl) (fun _ _ _ h => h) (Or.inl ⟨by rfl, ?_⟩) ?_ | fail
                    rotate_left
                    focus first | (intro w _; go_simp; with_reducible rfl) | (intro w _; go_simp; done) | (intro w _; go_simp; rw [if_neg (by omega)]) | fail
                    try simp only [Act.put, List.setIfInBounds_toArray, List.set_cons_zero, List.set_cons_succ]
                    first | refine upto_run 14 (v := ?_) hU0 (by kernel_rfl) rfl (by kernel_rfl) (by kernel_rfl) (by kernel_rfl) (by kernel_rfl) (fun _ _ _ h => h) (Or.inl ⟨by rfl, ?_⟩) ?_ | fail
                    rotate_left
                    focus first | (intro w _; go_simp; with_reducible rfl) | (intro w _; go_simp; done) | (intro w _; go_simp; rw [if_neg (by omega)]) | fail
                    try simp only [Act.put, List.setIfInBounds_toArray, List.set_cons_zero, List.set_cons_succ]
                    first | refine upto_read 15 (v := ?_) hU0 (by kernel_rfl) rfl (by kernel_rfl) (by kernel_rfl) (by kernel_rfl) (by kernel_rfl) (by kernel_rfl) (fun _ _ _ h => h) (Or.inl ⟨by rfl, ?_⟩) ?_ | fail
                    rotate_left
                    focus first | (intro w hSw; (try dsimp only at hSw); go_simp; with_reducible rfl) | (intro w hSw; (try dsimp only at hSw); go_simp; done) | fail
                    try simp only [Act.put, List.setIfInBounds_toArray, List.set_cons_zero, List.set_cons_succ]
                    first | refine upto_run 16 (v := ?_) hU0 (by kernel_rfl) rfl (by kernel_rfl) (by kernel_rfl) (by kernel_rfl) (by kernel_rfl) (fun _ _ _ h => h) (Or.inl ⟨by rfl, ?_⟩) ?_ | fail
                    rotate_left
                    focus first | (intro w _; go_simp; with_reducible rfl) | (intro w _; go_simp; done) | (intro w _; go_simp; rw [if_neg (by omega)]) | fail
                    try simp only [Act.put, List.setIfInBounds_toArray, List.set_cons_zero, List.set_cons_succ]
                    first | refine upto_run 17 (v := ?_) hU0 (by kernel_rfl) rfl (by kernel_rfl) (by kernel_rfl) (by kernel_rfl) (by kernel_rfl) (fun _ _ _ h => h) (Or.inl ⟨by rfl, ?_⟩) ?_ | fail
                    rotate_left
                    focus first | (intro w _; go_simp; with_reducible rfl) | (intro w _; go_simp; done) | (intro w _; go_simp; rw [if_neg (by omega)]) | fail
                    try simp only [Act.put, List.setIfInBounds_toArray, List.set_cons_zero, List.set_cons_succ]
                    first | refine upto_run 18 (v := ?_) hU0 (by kernel_rfl) rfl (by kernel_rfl) (by kernel_rfl) (by kernel_rfl) (by kernel_rfl) (fun _ _ _ h => h) (Or.inl ⟨by rfl, ?_⟩) ?_ | fail
                    rotate_left
                    focus first | (intro w _; go_simp; with_reducible rfl) | (intro w _; go_simp; done) | (intro w _; go_simp; rw [if_neg (by omega)]) | fail
                    try simp only [Act.put, List.setIfInBounds_toArray, List.set_cons_zero, List.set_cons_succ]
                    first | refine upto_read 19 (v := ?_) hU0 (by kernel_rfl) rfl (by kernel_rfl) (by kernel_rfl) (by kernel_rfl) (by kernel_rfl) (by kernel_rfl) (fun _ _ _ h => h) (Or.inl ⟨by rfl, ?_⟩) ?_ | fail
                    rotate_left
                    focus first | (intro w hSw; (try dsimp only at hSw); go_simp; with_reducible rfl) | (intro w hSw; (try dsimp only at hSw); go_simp; done) | fail
                    try simp only [Act.put, List.setIfInBounds_toArray, List.set_cons_zero, List.set_cons_succ]
                    first | refine upto_run 20 (v := ?_) hU0 (by kernel_rfl) rfl (by kernel_rfl) (by kernel_rfl) (by kernel_rfl) (by kernel_rfl) (fun _ _ _ h => h) (Or.inl ⟨by rfl, ?_⟩) ?_ | fail
                    rotate_left
                    focus first | (intro w _; go_simp; with_reducible rfl) | (intro w _; go_simp; done) | (intro w _; go_simp; rw [if_neg (by omega)]) | fail
                    try simp only [Act.put, List.setIfInBounds_toArray, List.set_cons_zero, List.set_cons_succ]
                    first | refine upto_run 21 (v := .int .i64 (k : Int)) hU0 (by kernel_rfl) rfl (by kernel_rfl) (by kernel_rfl) (by kernel_rfl) (by kernel_rfl) (fun _ _ _ h => h) (Or.inl ⟨by rfl, ?_⟩) ?_ | fail
                    · intro w _
                      have hw := IntWalk.i64_in (k : Int) (by omega)
                      go_simp
                      try rw [hw]
                    try simp only [Act.put, List.setIfInBounds_toArray, List.set_cons_zero, List.set_cons_succ]
                    first | refine upto_run 22 (v := .pointer (some ⟨gv, k * 8, none⟩)) hU0 (by kernel_rfl) rfl (by kernel_rfl) (by kernel_rfl) (by kernel_rfl) (by kernel_rfl) (fun _ _ _ h => h) (Or.inl ⟨by rfl, ?_⟩) ?_ | fail
                    · intro w _
                      have hw := IntWalk.i64_in (k : Int) (by omega)
                      go_simp
                      intro h9
                      omega
                    try simp only [Act.put, List.setIfInBounds_toArray, List.set_cons_zero, List.set_cons_succ]
                    first | refine upto_run 23 (v := ?_) hU0 (by kernel_rfl) rfl (by kernel_rfl) (by kernel_rfl) (by kernel_rfl) (by kernel_rfl) (fun _ _ _ h => h) (Or.inl ⟨by rfl, ?_⟩) ?_ | fail
                    rotate_left
                    focus first | (intro w _; go_simp; with_reducible rfl) | (intro w _; go_simp; done) | (intro w _; go_simp; rw [if_neg (by omega)]) | fail
                    try simp only [Act.put, List.setIfInBounds_toArray, List.set_cons_zero, List.set_cons_succ]
                    first | refine upto_read 24 (v := ?_) hU0 (by kernel_rfl) rfl (by kernel_rfl) (by kernel_rfl) (by kernel_rfl) (by kernel_rfl) (by kernel_rfl) (fun _ _ _ h => h) (Or.inl ⟨by rfl, ?_⟩) ?_ | fail
                    rotate_left
                    focus first | (intro w hSw; (try dsimp only at hSw); go_simp; with_reducible rfl) | (intro w hSw; (try dsimp only at hSw); go_simp; done) | fail
                    try simp only [Act.put, List.setIfInBounds_toArray, List.set_cons_zero, List.set_cons_succ]
                    first | refine upto_next 25 rfl (by kernel_rfl) (fun K hK => ?_) | fail
                    go_simp
                    refine (calls_any _ l.op).mono ?_
                    rintro e wc ⟨rfl, hbc⟩
                    have hbW : Below wt.heap.size wt wc := by first | exact hbc | exact Below.trans (Below.drew (Below.refl _ _)) hbc
                    obtain ⟨vs2, w7, hr, hrs, hb7, hk7⟩ := HPS.out wc hbW
                    obtain ⟨As2, cs2, hvs2⟩ := hrs.slice
                    rw [List.length_append, List.length_singleton] at hvs2
                    subst hvs2
                    have HRr := hr
                    have hbA : Below wt.heap.size wt (wc.alloc (.cells #[.bool (callsB l.op)] 4)) := below_alloc _ hbW
                    have HK7 := Lib.hid hk7
                    have HB7 := Lib.hid hb7
                    have HS7 := Lib.hid hrs
                    have HBW := Lib.hid hbW
                    have H7 := Lib.hid (hk7.cells (HMt.out.later hbW).img.box (by decide))
                    have f0 := blk_cell (i := 0) H7.out rfl
                    have f3 := blk_cell (i := 3) H7.out rfl
                    have f3f : w7.frozen? ⟨gi, 3, none⟩ = false := blk_free H7.out
                    have fl := blk_lt H7.out
                    have fo : w7.cell? ⟨gv, k * 8, none⟩ = some (.int .i64 l.op) := by
                      obtain ⟨g9, h1, h2, _⟩ := RowX.last (hk7.own (HMt.out.later hbW).rx (by decide)) HNX.out.symm HL.out
                      cases h1
                      exact h2
                    clear hr hrs hb7 hk7
                    try go_simp
                    first | refine hK.out _ _ ?_ (fun hU1 => ?_) | (go_wp2_with fail; refine hK.out _ _ ?_ (fun hU1 => ?_)) | fail
                    · exact Or.inr ⟨later y3 hbW, later y0 hbW, later yo hbW⟩
                    clear hK K
                    clear hU0
                    try simp only [Act.put, List.setIfInBounds_toArray, List.set_cons_zero, List.set_cons_succ]
                    first | refine upto_run 26 (v := ?_) hU1 (by kernel_rfl) rfl (by kernel_rfl) (by kernel_rfl) (by kernel_rfl) (by kernel_rfl) (fun _ _ _ h => h) (Or.inl ⟨by rfl, ?_⟩) ?_ | fail
                    rotate_left
                    focus first | (intro w _; go_simp; with_reducible rfl) | (intro w _; go_simp; done) | (intro w _; go_simp; rw [if_neg (by omega)]) | fail
                    try simp only [Act.put, List.setIfInBounds_toArray, List.set_cons_zero, List.set_cons_succ]
                    first | refine upto_next 27 rfl (by kernel_rfl) (fun K hK => ?_) | fail
                    go_simp
                    first | refine hK.out _ _ ?_ (fun hU2 => ?_) | (go_wp2_with fail; refine hK.out _ _ ?_ (fun hU2 => ?_)) | fail
                    · exact Or.inr ⟨later y3 hbA, later y0 hbA, later yo hbA⟩
                    clear hK K
                    clear hU1
                    try simp only [Act.put, List.setIfInBounds_toArray, List.set_cons_zero, List.set_cons_succ]
                    first | refine upto_next 28 rfl (by kernel_rfl) (fun K hK => ?_) | fail
                    refine step_append_run2 rfl (.tmp 105) (.tmp 128) 41 41 rfl _ _ _ _ rfl rfl HRr ?_
                    first | refine hK.out _ _ ?_ (fun hU3 => ?_) | (go_wp2_with fail; refine hK.out _ _ ?_ (fun hU3 => ?_)) | fail
                    · exact Or.inr ⟨f3, f0, fo⟩
                    clear hK K
                    clear hU2
                    try simp only [Act.put, List.setIfInBounds_toArray, List.set_cons_zero, List.set_cons_succ]
                    first | refine upto_run 29 (v := ?_) hU3 (by kernel_rfl) rfl (by kernel_rfl) (by kernel_rfl) (by kernel_rfl) (by kernel_rfl) (fun _ _ _ h => h) (Or.inl ⟨by rfl, ?_⟩) ?_ | fail
                    rotate_left
                    focus first | (intro w _; go_simp; with_reducible rfl) | (intro w _; go_simp; done) | (intro w _; go_simp; rw [if_neg (by omega)]) | fail
                    try simp only [Act.put, List.setIfInBounds_toArray, List.set_cons_zero, List.set_cons_succ]
                    first | refine upto_run 30 (v := ?_) hU3 (by kernel_rfl) rfl (by kernel_rfl) (by kernel_rfl) (by kernel_rfl) (by kernel_rfl) (fun _ _ _ h => h) (Or.inl ⟨by rfl, ?_⟩) ?_ | fail
                    rotate_left
                    focus first | (intro w _; go_simp; with_reducible rfl) | (intro w _; go_simp; done) | (intro w _; go_simp; rw [if_neg (by omega)]) | fail
                    try simp only [Act.put, List.setIfInBounds_toArray, List.set_cons_zero, List.set_cons_succ]
                    first | refine upto_next 31 rfl (by kernel_rfl) (fun K hK => ?_) | fail
                    go_simp
                    first | refine hK.out _ _ ?_ (fun hU4 => ?_) | (go_wp2_with fail; refine hK.out _ _ ?_ (fun hU4 => ?_)) | fail
                    · exact Or.inl (by kernel_rfl)
                    clear hK K
                    clear hU3
                    try simp only [Act.put, List.setIfInBounds_toArray, List.set_cons_zero, List.set_cons_succ]
                    refine upto_done (by kernel_rfl) ?_ _
                    clear yo yol fo hbc hbW
                    have HM8 := Lib.hid ((HMt.out.later (HBW.out)).putS HB7.out HK7.out HS7.out)
                    have HZ8 := Lib.hid ((kpT_set (j := 3) H7.out (.slice As2 (ss.length + 1) cs2)).cells (HK7.out.cells (show (wc).heap[gz]? = _ from blk_below HXt.out (HBW.out)) (by decide)) (by decide))
                    obtain ⟨w8, hw8⟩ : ∃ z, z = w7.setCell ⟨gi, 3, none⟩ (.slice As2 (ss.length + 1) cs2) := ⟨_, rfl⟩
                    rw [← hw8] at HM8 HZ8 ⊢
                    clear hw8 f0 f3 f3f fl y0 y3 yl HRr hbA HK7 HB7 HS7 H7 HMt HXt
                    have hPX := RowX.push (HM8.out.later (Below.drew (Below.refl _ _))).rx HM8.out.lk.bel.size xk w8.drew.heap.size rfl HNL2.out
                    obtain ⟨vc2, w9, hr, hrs, hb9, hk9, hg9⟩ := hPX
                    have HZ9 := Lib.hid ((hg9.block gz (show gz < w8.drew.heap.size from blk_lt HZ8.out) (fun e => HNE.out e.symm)).trans (show w8.drew.heap[gz]? = _ from HZ8.out))
                    obtain ⟨Av2, cv2, hvc2⟩ := hrs.slice
                    rw [List.length_append, List.length_singleton] at hvc2
                    subst hvc2
                    have HRr := hr
                    have hbA : Below w8.heap.size w8 (w8.drew.alloc (.cells #[.int .i64 xk.op, .int .i64 xk.dst, .int .i64 xk.src, .int .i64 xk.imm, .int .i64 xk.size, .bool xk.signed, .int .i64 xk.cond, .string xk.to_] 28)) := below_alloc _ (Below.drew (Below.refl _ _))
                    have HM9 := Lib.hid ((HM8.out.later (Below.drew (Below.refl _ _))).putX hb9 hk9 hrs)
                    have H9 := Lib.hid (hk9.cells (show w8.drew.heap[gi]? = _ from HM8.out.img.box) (by decide))
                    have y0 := blk_cell (i := 0) HM8.out.img.box rfl
                    have f0 := blk_cell (i := 0) H9.out rfl
                    have f0f : w9.frozen? ⟨gi, 0, none⟩ = false := blk_free H9.out
                    have fl := blk_lt H9.out
                    have yl := blk_lt HM8.out.img.box
                    have z0 := blk_cell (i := 0) HZ8.out rfl
                    have z1 := blk_cell (i := 1) HZ8.out rfl
                    have z2 := blk_cell (i := 2) HZ8.out rfl
                    have z3 := blk_cell (i := 3) HZ8.out rfl
                    have z4 := blk_cell (i := 4) HZ8.out rfl
                    have z5 := blk_cell (i := 5) HZ8.out rfl
                    have z6 := blk_cell (i := 6) HZ8.out rfl
                    have z7 := blk_cell (i := 7) HZ8.out rfl
                    have zl := blk_lt HZ8.out
                    clear hr hrs hb9 hk9 hg9
                    go_upto_region 28 with (fail)
                    refine upto_begin 10 (fun w' => w'.cell? ⟨gi, 0, none⟩ = some (.slice (some ⟨gv, 0, none⟩) (k + 1) cv) ∧ w'.cell? ⟨gz, 0, none⟩ = some (.int .i64 xk.op) ∧ w'.cell? ⟨gz, 1, none⟩ = some (.int .i64 xk.dst) ∧ w'.cell? ⟨gz, 2, none⟩ = some (.int .i64 xk.src) ∧ w'.cell? ⟨gz, 3, none⟩ = some (.int .i64 xk.imm) ∧ w'.cell? ⟨gz, 4, none⟩ = some (.int .i64 xk.size) ∧ w'.cell? ⟨gz, 5, none⟩ = some (.bool xk.signed) ∧ w'.cell? ⟨gz, 6, none⟩ = some (.int .i64 xk.cond) ∧ w'.cell? ⟨gz, 7, none⟩ = some (.string xk.to_)) (by kernel_rfl) ?_ (fun hU0 => ?_)
                    · exact ⟨y0, z0, z1, z2, z3, z4, z5, z6, z7⟩
                    first | refine upto_run 0 (v := ?_) hU0 (by kernel_rfl) rfl (by kernel_rfl) (by kernel_rfl) (by kernel_rfl) (by kernel_rfl) (fun _ _ _ h => h) (Or.inl ⟨by rfl, ?_⟩) ?_ | fail
                    rotate_left
                    focus first | (intro w _; go_simp; with_reducible rfl) | (intro w _; go_simp; done) | (intro w _; go_simp; rw [if_neg (by omega)]) | fail
                    try simp only [Act.put, List.setIfInBounds_toArray, List.set_cons_zero, List.set_cons_succ]
                    first | refine upto_run 1 (v := ?_) hU0 (by kernel_rfl) rfl (by kernel_rfl) (by kernel_rfl) (by kernel_rfl) (by kernel_rfl) (fun _ _ _ h => h) (Or.inl ⟨by rfl, ?_⟩) ?_ | fail
                    rotate_left
                    focus first | (intro w _; go_simp; with_reducible rfl) | (intro w _; go_simp; done) | (intro w _; go_simp; rw [if_neg (by omega)]) | fail
                    try simp only [Act.put, List.setIfInBounds_toArray, List.set_cons_zero, List.set_cons_succ]
                    first | refine upto_run 2 (v := ?_) hU0 (by kernel_rfl) rfl (by kernel_rfl) (by kernel_rfl) (by kernel_rfl) (by kernel_rfl) (fun _ _ _ h => h) (Or.inl ⟨by rfl, ?_⟩) ?_ | fail
                    rotate_left
                    focus first | (intro w _; go_simp; with_reducible rfl) | (intro w _; go_simp; done) | (intro w _; go_simp; rw [if_neg (by omega)]) | fail
                    try simp only [Act.put, List.setIfInBounds_toArray, List.set_cons_zero, List.set_cons_succ]
                    first | refine upto_run 3 (v := ?_) hU0 (by kernel_rfl) rfl (by kernel_rfl) (by kernel_rfl) (by kernel_rfl) (by kernel_rfl) (fun _ _ _ h => h) (Or.inl ⟨by rfl, ?_⟩) ?_ | fail
                    rotate_left
                    focus first | (intro w _; go_simp; with_reducible rfl) | (intro w _; go_simp; done) | (intro w _; go_simp; rw [if_neg (by omega)]) | fail
                    try simp only [Act.put, List.setIfInBounds_toArray, List.set_cons_zero, List.set_cons_succ]
                    first | refine upto_read 4 (v := ?_) hU0 (by kernel_rfl) rfl (by kernel_rfl) (by kernel_rfl) (by kernel_rfl) (by kernel_rfl) (by kernel_rfl) (fun _ _ _ h => h) (Or.inl ⟨by rfl, ?_⟩) ?_ | fail
                    rotate_left
                    focus first | (intro w hSw; (try dsimp only at hSw); go_simp; with_reducible rfl) | (intro w hSw; (try dsimp only at hSw); go_simp; done) | fail
                    try simp only [Act.put, List.setIfInBounds_toArray, List.set_cons_zero, List.set_cons_succ]
                    first | refine upto_read 5 (v := ?_) hU0 (by kernel_rfl) rfl (by kernel_rfl) (by kernel_rfl) (by kernel_rfl) (by kernel_rfl) (by kernel_rfl) (fun _ _ _ h => h) (Or.inl ⟨by rfl, ?_⟩) ?_ | fail
                    rotate_left
                    focus first | (intro w hSw; (try dsimp only at hSw); go_simp; with_reducible rfl) | (intro w hSw; (try dsimp only at hSw); go_simp; done) | fail
                    try simp only [Act.put, List.setIfInBounds_toArray, List.set_cons_zero, List.set_cons_succ]
                    first | refine upto_next 6 rfl (by kernel_rfl) (fun K hK => ?_) | fail
                    go_simp
                    first | refine hK.out _ _ ?_ (fun hU1 => ?_) | (go_wp2_with fail; refine hK.out _ _ ?_ (fun hU1 => ?_)) | fail
                    · exact Or.inr ⟨later y0 hbA, later z0 hbA, later z1 hbA, later z2 hbA, later z3 hbA, later z4 hbA, later z5 hbA, later z6 hbA, later z7 hbA⟩
                    clear hK K
                    clear hU0
                    try simp only [Act.put, List.setIfInBounds_toArray, List.set_cons_zero, List.set_cons_succ]
                    first | refine upto_next 7 rfl (by kernel_rfl) (fun K hK => ?_) | fail
                    refine step_append_run2 rfl (.tmp 136) (.tmp 138) 40 40 rfl _ _ _ _ rfl rfl HRr ?_
                    first | refine hK.out _ _ ?_ (fun hU2 => ?_) | (go_wp2_with fail; refine hK.out _ _ ?_ (fun hU2 => ?_)) | fail
                    · exact Or.inr ⟨f0, blk_cell HZ9.out rfl, blk_cell HZ9.out rfl, blk_cell HZ9.out rfl, blk_cell HZ9.out rfl, blk_cell HZ9.out rfl, blk_cell HZ9.out rfl, blk_cell HZ9.out rfl, blk_cell HZ9.out rfl⟩
                    clear hK K
                    clear hU1
                    try simp only [Act.put, List.setIfInBounds_toArray, List.set_cons_zero, List.set_cons_succ]
                    first | refine upto_run 8 (v := ?_) hU2 (by kernel_rfl) rfl (by kernel_rfl) (by kernel_rfl) (by kernel_rfl) (by kernel_rfl) (fun _ _ _ h => h) (Or.inl ⟨by rfl, ?_⟩) ?_ | fail
                    rotate_left
                    focus first | (intro w _; go_simp; with_reducible rfl) | (intro w _; go_simp; done) | (intro w _; go_simp; rw [if_neg (by omega)]) | fail
                    try simp only [Act.put, List.setIfInBounds_toArray, List.set_cons_zero, List.set_cons_succ]
                    first | refine upto_run 9 (v := ?_) hU2 (by kernel_rfl) rfl (by kernel_rfl) (by kernel_rfl) (by kernel_rfl) (by kernel_rfl) (fun _ _ _ h => h) (Or.inl ⟨by rfl, ?_⟩) ?_ | fail
                    rotate_left
                    focus first | (intro w _; go_simp; with_reducible rfl) | (intro w _; go_simp; done) | (intro w _; go_simp; rw [if_neg (by omega)]) | fail
                    try simp only [Act.put, List.setIfInBounds_toArray, List.set_cons_zero, List.set_cons_succ]
                    first | refine upto_next 10 rfl (by kernel_rfl) (fun K hK => ?_) | fail
                    go_simp
                    first | refine hK.out _ _ ?_ (fun hU3 => ?_) | (go_wp2_with fail; refine hK.out _ _ ?_ (fun hU3 => ?_)) | fail
                    · exact Or.inl (by kernel_rfl)
                    clear hK K
                    clear hU2
                    try simp only [Act.put, List.setIfInBounds_toArray, List.set_cons_zero, List.set_cons_succ]
                    refine upto_done (by kernel_rfl) ?_ _
                    clear f0 f0f fl yl y0 z0 z1 z2 z3 z4 z5 z6 z7 zl HRr hbA
                    go_wp2_with fail
                    go_roundw
                    case rel =>
                      refine ⟨j + 1, xs ++ [xk], ss ++ [callsB l.op], _, _, by omega, by go_num, by have := HXL.out; simp; omega, by have := HSL.out; simp; omega, ?_, HM9.out⟩
                      rw [HSd.out, HE.out]
                      unfold lnPut
                      rw [HLC.out]
                    case measure => simp [intOf]; omega
              · have b6 : (x.ins.op == 6) = false := by simpa using h6
                have H6 := Lib.hid h6
                go_wp2_with fail
                refine (jumps_any _ x.ins.op h6).mono ?_
                rintro e wj ⟨rfl, hbj⟩
                have HBj : Below w6.heap.size w6 wj := by first | exact hbj | exact Below.trans (Below.drew (Below.refl _ _)) hbj
                have HMj := Lib.hid (HM6.out.later HBj)
                have HXj := Lib.hid (blk_below HX6.out HBj)
                clear h6 hbj HBj z0 z7 zl t0 t1 tl
                by_cases hju : x.ins.op = 33 ∨ x.ins.op = 34 ∨ x.ins.op = 35
                · have bj : decide (x.ins.op = 33 ∨ x.ins.op = 34 ∨ x.ins.op = 35) = true := decide_eq_true hju
                  rw [bj]
                  clear bj
                  have HJU := Lib.hid hju
                  clear hju
                  cases hlc : lookI cs (nmL x.ins.to_) with
                  | none =>
                    have hb : tb = false := by rw [HTB.out, hlc]; rfl
                    subst hb
                    have HE := Lib.hid (show lnS right ps cs (xs, ss) x = .error 31 by unfold lnS; rw [if_neg (by simp [HLB.out]), if_neg (by simp [HRI.out]), if_neg H6.out, if_pos HJU.out]; simp only [hlc])
                    clear hlc
                    go_wp2_with fail
                    go_returns
                    refine Or.inr ⟨_, 31, rfl, by decide, by first | exact HMj.out.lk.bel | exact Below.drew HMj.out.lk.bel | exact Below.drew (Below.drew HMj.out.lk.bel), Or.inr ⟨N, ps1, F1.out, Or.inr ⟨at_, ps, cs, F2.out, Or.inr (foldlM_err (lnS right ps cs) (k := j + 1) ?_)⟩⟩⟩
                    rw [HSd.out, HE.out]
                  | some a =>
                    have hb : tb = true := by rw [HTB.out, hlc]; rfl
                    have hv : tv = a := by rw [HTV.out, hlc]; rfl
                    subst hb
                    subst hv
                    have HE := Lib.hid (show lnS right ps cs (xs, ss) x = lnPut (xs, ss) { x.ins with imm := tv } by unfold lnS; rw [if_neg (by simp [HLB.out]), if_neg (by simp [HRI.out]), if_neg H6.out, if_pos HJU.out]; simp only [hlc])
                    clear hlc
                    have z3 := blk_cell (i := 3) HXj.out rfl
                    have z3f : wj.frozen? ⟨gz, 3, none⟩ = false := blk_free HXj.out
                    have zl := blk_lt HXj.out
                    go_upto_region 27 with (fail)
                    obtain ⟨xk, hxk⟩ : ∃ z, z = { x.ins with imm := tv } := ⟨_, rfl⟩
                    have HMt := Lib.hid (HMj.out.setZ (gz := gz) (j := 3) HXj.out HNE.out HGZ.out (.int .i64 tv))
                    have HXt := Lib.hid (show (wj.setCell ⟨gz, 3, none⟩ (.int .i64 tv)).heap[gz]? = some (.cells #[.int .i64 xk.op, .int .i64 xk.dst, .int .i64 xk.src, .int .i64 xk.imm, .int .i64 xk.size, .bool xk.signed, .int .i64 xk.cond, .string xk.to_] 28 (0, 0)) by subst hxk; exact blk_setCell (w := wj) HXj.out _)
                    obtain ⟨wt, hwt⟩ : ∃ z, z = wj.setCell ⟨gz, 3, none⟩ (.int .i64 tv) := ⟨_, rfl⟩
                    rw [← hxk] at HE
                    rw [← hwt] at HMt HXt ⊢
                    clear hwt hxk z3 z3f zl
                    obtain ⟨Av, cv, hvc⟩ := HMt.out.rx.slice
                    obtain ⟨As, cs9, hvs⟩ := HMt.out.rs.slice
                    subst hvc hvs
                    obtain ⟨nx, hnx⟩ : ∃ nx, nx = xs.length := ⟨_, rfl⟩
                    obtain ⟨ns, hns⟩ : ∃ ns, ns = ss.length := ⟨_, rfl⟩
                    rw [← hnx, ← hns] at HMt
                    rw [← hnx] at HNE
                    have HNX := Lib.hid hnx
                    have hnl : ss.length ≤ 1000000000 := by have := HSL.out; omega
                    have hnl2 : xs.length ≤ 1000000000 := by have := HXL.out; omega
                    have HNL := Lib.hid hnl
                    have HNL2 := Lib.hid hnl2
                    clear hnl hnl2 hns hnx
                    have y0 := blk_cell (i := 0) HMt.out.img.box rfl
                    have y3 := blk_cell (i := 3) HMt.out.img.box rfl
                    have yl := blk_lt HMt.out.img.box
                    by_cases hx0 : xs = []
                    · have hn0 : nx = 0 := by rw [HNX.out, hx0]; rfl
                      subst hn0
                      have HLC := Lib.hid (show lastCall xs = false by rw [hx0]; rfl)
                      clear hx0
                      have hPS := RowS.push (HMt.out.later (Below.drew (Below.refl _ _))).rs HMt.out.lk.bel.size false wt.drew.heap.size rfl HNL.out
                      obtain ⟨vs2, w7, hr, hrs, hb7, hk7⟩ := hPS
                      obtain ⟨As2, cs2, hvs2⟩ := hrs.slice
                      rw [List.length_append, List.length_singleton] at hvs2
                      subst hvs2
                      have HRr := hr
                      have hbA : Below wt.heap.size wt (wt.drew.alloc (.cells #[.bool false] 4)) := below_alloc _ (Below.drew (Below.refl _ _))
                      have HK7 := Lib.hid hk7
                      have HB7 := Lib.hid hb7
                      have HS7 := Lib.hid hrs
                      have H7 := Lib.hid (hk7.cells HMt.out.img.box (by decide))
                      have f0 := blk_cell (i := 0) H7.out rfl
                      have f3 := blk_cell (i := 3) H7.out rfl
                      have f3f : w7.frozen? ⟨gi, 3, none⟩ = false := blk_free H7.out
                      have fl := blk_lt H7.out
                      clear hr hrs hb7 hk7
                      refine upto_begin 31 (fun w' => w'.cell? ⟨gi, 3, none⟩ = some (.slice As ns cs9) ∧ w'.cell? ⟨gi, 0, none⟩ = some (.slice Av 0 cv)) (by kernel_rfl) ?_ (fun hU0 => ?_)
                      · exact ⟨y3, y0⟩
                      first | refine upto_run 0 (v := ?_) hU0 (by kernel_rfl) rfl (by kernel_rfl) (by kernel_rfl) (by kernel_rfl) (by kernel_rfl) (fun _ _ _ h => h) (Or.inl ⟨by rfl, ?_⟩) ?_ | fail
                      rotate_left
                      focus first | (intro w _; go_simp; with_reducible rfl) | (intro w _; go_simp; done) | (intro w _; go_simp; rw [if_neg (by omega)]) | fail
                      try simp only [Act.put, List.setIfInBounds_toArray, List.set_cons_zero, List.set_cons_succ]
                      first | refine upto_run 1 (v := ?_) hU0 (by kernel_rfl) rfl (by kernel_rfl) (by kernel_rfl) (by kernel_rfl) (by kernel_rfl) (fun _ _ _ h => h) (Or.inl ⟨by rfl, ?_⟩) ?_ | fail
                      rotate_left
                      focus first | (intro w _; go_simp; with_reducible rfl) | (intro w _; go_simp; done) | (intro w _; go_simp; rw [if_neg (by omega)]) | fail
                      try simp only [Act.put, List.setIfInBounds_toArray, List.set_cons_zero, List.set_cons_succ]
                      first | refine upto_run 2 (v := ?_) hU0 (by kernel_rfl) rfl (by kernel_rfl) (by kernel_rfl) (by kernel_rfl) (by kernel_rfl) (fun _ _ _ h => h) (Or.inl ⟨by rfl, ?_⟩) ?_ | fail
                      rotate_left
                      focus first | (intro w _; go_simp; with_reducible rfl) | (intro w _; go_simp; done) | (intro w _; go_simp; rw [if_neg (by omega)]) | fail
                      try simp only [Act.put, List.setIfInBounds_toArray, List.set_cons_zero, List.set_cons_succ]
                      first | refine upto_run 3 (v := ?_) hU0 (by kernel_rfl) rfl (by kernel_rfl) (by kernel_rfl) (by kernel_rfl) (by kernel_rfl) (fun _ _ _ h => h) (Or.inl ⟨by rfl, ?_⟩) ?_ | fail
                      rotate_left
                      focus first | (intro w _; go_simp; with_reducible rfl) | (intro w _; go_simp; done) | (intro w _; go_simp; rw [if_neg (by omega)]) | fail
                      try simp only [Act.put, List.setIfInBounds_toArray, List.set_cons_zero, List.set_cons_succ]
                      first | refine upto_read 4 (v := ?_) hU0 (by kernel_rfl) rfl (by kernel_rfl) (by kernel_rfl) (by kernel_rfl) (by kernel_rfl) (by kernel_rfl) (fun _ _ _ h => h) (Or.inl ⟨by rfl, ?_⟩) ?_ | fail
                      rotate_left
                      focus first | (intro w hSw; (try dsimp only at hSw); go_simp; with_reducible rfl) | (intro w hSw; (try dsimp only at hSw); go_simp; done) | fail
                      try simp only [Act.put, List.setIfInBounds_toArray, List.set_cons_zero, List.set_cons_succ]
                      first | refine upto_run 5 (v := ?_) hU0 (by kernel_rfl) rfl (by kernel_rfl) (by kernel_rfl) (by kernel_rfl) (by kernel_rfl) (fun _ _ _ h => h) (Or.inl ⟨by rfl, ?_⟩) ?_ | fail
                      rotate_left
                      focus first | (intro w _; go_simp; with_reducible rfl) | (intro w _; go_simp; done) | (intro w _; go_simp; rw [if_neg (by omega)]) | fail
                      try simp only [Act.put, List.setIfInBounds_toArray, List.set_cons_zero, List.set_cons_succ]
                      first | refine upto_run 6 (v := ?_) hU0 (by kernel_rfl) rfl (by kernel_rfl) (by kernel_rfl) (by kernel_rfl) (by kernel_rfl) (fun _ _ _ h => h) (Or.inl ⟨by rfl, ?_⟩) ?_ | fail
                      rotate_left
                      focus first | (intro w _; go_simp; with_reducible rfl) | (intro w _; go_simp; done) | (intro w _; go_simp; rw [if_neg (by omega)]) | fail
                      try simp only [Act.put, List.setIfInBounds_toArray, List.set_cons_zero, List.set_cons_succ]
                      first | refine upto_run 7 (v := ?_) hU0 (by kernel_rfl) rfl (by kernel_rfl) (by kernel_rfl) (by kernel_rfl) (by kernel_rfl) (fun _ _ _ h => h) (Or.inl ⟨by rfl, ?_⟩) ?_ | fail
                      rotate_left
                      focus first | (intro w _; go_simp; with_reducible rfl) | (intro w _; go_simp; done) | (intro w _; go_simp; rw [if_neg (by omega)]) | fail
                      try simp only [Act.put, List.setIfInBounds_toArray, List.set_cons_zero, List.set_cons_succ]
                      first | refine upto_read 8 (v := ?_) hU0 (by kernel_rfl) rfl (by kernel_rfl) (by kernel_rfl) (by kernel_rfl) (by kernel_rfl) (by kernel_rfl) (fun _ _ _ h => h) (Or.inl ⟨by rfl, ?_⟩) ?_ | fail
                      rotate_left
                      focus first | (intro w hSw; (try dsimp only at hSw); go_simp; with_reducible rfl) | (intro w hSw; (try dsimp only at hSw); go_simp; done) | fail
                      try simp only [Act.put, List.setIfInBounds_toArray, List.set_cons_zero, List.set_cons_succ]
                      first | refine upto_run 9 (v := ?_) hU0 (by kernel_rfl) rfl (by kernel_rfl) (by kernel_rfl) (by kernel_rfl) (by kernel_rfl) (fun _ _ _ h => h) (Or.inl ⟨by rfl, ?_⟩) ?_ | fail
                      rotate_left
                      focus first | (intro w _; go_simp; with_reducible rfl) | (intro w _; go_simp; done) | (intro w _; go_simp; rw [if_neg (by omega)]) | fail
                      try simp only [Act.put, List.setIfInBounds_toArray, List.set_cons_zero, List.set_cons_succ]
                      first | refine upto_run 10 (v := ?_) hU0 (by kernel_rfl) rfl (by kernel_rfl) (by kernel_rfl) (by kernel_rfl) (by kernel_rfl) (fun _ _ _ h => h) (Or.inl ⟨by rfl, ?_⟩) ?_ | fail
                      rotate_left
                      focus first | (intro w _; go_simp; with_reducible rfl) | (intro w _; go_simp; done) | (intro w _; go_simp; rw [if_neg (by omega)]) | fail
                      try simp only [Act.put, List.setIfInBounds_toArray, List.set_cons_zero, List.set_cons_succ]
                      first | refine upto_run 11 (v := ?_) hU0 (by kernel_rfl) rfl (by kernel_rfl) (by kernel_rfl) (by kernel_rfl) (by kernel_rfl) (fun _ _ _ h => h) (Or.inl ⟨by rfl, ?_⟩) ?_ | fail
                      rotate_left
                      focus first | (intro w _; go_simp; with_reducible rfl) | (intro w _; go_simp; done) | (intro w _; go_simp; rw [if_neg (by omega)]) | fail
                      try simp only [Act.put, List.setIfInBounds_toArray, List.set_cons_zero, List.set_cons_succ]
                      refine upto_run 12 (v := undef) hU0 (by kernel_rfl) rfl (by kernel_rfl) (by kernel_rfl) (by kernel_rfl) (by kernel_rfl) (fun _ _ _ h => h) (Or.inr ⟨by rfl, rfl⟩) ?_
                      try simp only [Act.put, List.setIfInBounds_toArray, List.set_cons_zero, List.set_cons_succ]
                      refine upto_run 13 (v := undef) hU0 (by kernel_rfl) rfl (by kernel_rfl) (by kernel_rfl) (by kernel_rfl) (by kernel_rfl) (fun _ _ _ h => h) (Or.inr ⟨by rfl, rfl⟩) ?_
                      try simp only [Act.put, List.setIfInBounds_toArray, List.set_cons_zero, List.set_cons_succ]
                      refine upto_run 14 (v := undef) hU0 (by kernel_rfl) rfl (by kernel_rfl) (by kernel_rfl) (by kernel_rfl) (by kernel_rfl) (fun _ _ _ h => h) (Or.inr ⟨by rfl, rfl⟩) ?_
                      try simp only [Act.put, List.setIfInBounds_toArray, List.set_cons_zero, List.set_cons_succ]
                      refine upto_run 15 (v := undef) hU0 (by kernel_rfl) rfl (by kernel_rfl) (by kernel_rfl) (by kernel_rfl) (by kernel_rfl) (fun _ _ _ h => h) (Or.inr ⟨by rfl, rfl⟩) ?_
                      try simp only [Act.put, List.setIfInBounds_toArray, List.set_cons_zero, List.set_cons_succ]
                      refine upto_run 16 (v := undef) hU0 (by kernel_rfl) rfl (by kernel_rfl) (by kernel_rfl) (by kernel_rfl) (by kernel_rfl) (fun _ _ _ h => h) (Or.inr ⟨by rfl, rfl⟩) ?_
                      try simp only [Act.put, List.setIfInBounds_toArray, List.set_cons_zero, List.set_cons_succ]
                      refine upto_run 17 (v := undef) hU0 (by kernel_rfl) rfl (by kernel_rfl) (by kernel_rfl) (by kernel_rfl) (by kernel_rfl) (fun _ _ _ h => h) (Or.inr ⟨by rfl, rfl⟩) ?_
                      try simp only [Act.put, List.setIfInBounds_toArray, List.set_cons_zero, List.set_cons_succ]
                      refine upto_run 18 (v := undef) hU0 (by kernel_rfl) rfl (by kernel_rfl) (by kernel_rfl) (by kernel_rfl) (by kernel_rfl) (fun _ _ _ h => h) (Or.inr ⟨by rfl, rfl⟩) ?_
                      try simp only [Act.put, List.setIfInBounds_toArray, List.set_cons_zero, List.set_cons_succ]
                      refine upto_run 19 (v := undef) hU0 (by kernel_rfl) rfl (by kernel_rfl) (by kernel_rfl) (by kernel_rfl) (by kernel_rfl) (fun _ _ _ h => h) (Or.inr ⟨by rfl, rfl⟩) ?_
                      try simp only [Act.put, List.setIfInBounds_toArray, List.set_cons_zero, List.set_cons_succ]
                      refine upto_run 20 (v := undef) hU0 (by kernel_rfl) rfl (by kernel_rfl) (by kernel_rfl) (by kernel_rfl) (by kernel_rfl) (fun _ _ _ h => h) (Or.inr ⟨by rfl, rfl⟩) ?_
                      try simp only [Act.put, List.setIfInBounds_toArray, List.set_cons_zero, List.set_cons_succ]
                      refine upto_run 21 (v := undef) hU0 (by kernel_rfl) rfl (by kernel_rfl) (by kernel_rfl) (by kernel_rfl) (by kernel_rfl) (fun _ _ _ h => h) (Or.inr ⟨by rfl, rfl⟩) ?_
                      try simp only [Act.put, List.setIfInBounds_toArray, List.set_cons_zero, List.set_cons_succ]
                      refine upto_run 22 (v := undef) hU0 (by kernel_rfl) rfl (by kernel_rfl) (by kernel_rfl) (by kernel_rfl) (by kernel_rfl) (fun _ _ _ h => h) (Or.inr ⟨by rfl, rfl⟩) ?_
                      try simp only [Act.put, List.setIfInBounds_toArray, List.set_cons_zero, List.set_cons_succ]
                      refine upto_run 23 (v := undef) hU0 (by kernel_rfl) rfl (by kernel_rfl) (by kernel_rfl) (by kernel_rfl) (by kernel_rfl) (fun _ _ _ h => h) (Or.inr ⟨by rfl, rfl⟩) ?_
                      try simp only [Act.put, List.setIfInBounds_toArray, List.set_cons_zero, List.set_cons_succ]
                      refine upto_run 24 (v := undef) hU0 (by kernel_rfl) rfl (by kernel_rfl) (by kernel_rfl) (by kernel_rfl) (by kernel_rfl) (fun _ _ _ h => h) (Or.inr ⟨by rfl, rfl⟩) ?_
                      try simp only [Act.put, List.setIfInBounds_toArray, List.set_cons_zero, List.set_cons_succ]
                      refine upto_run 25 (v := undef) hU0 (by kernel_rfl) rfl (by kernel_rfl) (by kernel_rfl) (by kernel_rfl) (by kernel_rfl) (fun _ _ _ h => h) (Or.inr ⟨by rfl, rfl⟩) ?_
                      try simp only [Act.put, List.setIfInBounds_toArray, List.set_cons_zero, List.set_cons_succ]
                      first | refine upto_run 26 (v := ?_) hU0 (by kernel_rfl) rfl (by kernel_rfl) (by kernel_rfl) (by kernel_rfl) (by kernel_rfl) (fun _ _ _ h => h) (Or.inl ⟨by rfl, ?_⟩) ?_ | fail
                      rotate_left
                      focus first | (intro w _; go_simp; with_reducible rfl) | (intro w _; go_simp; done) | (intro w _; go_simp; rw [if_neg (by omega)]) | fail
                      try simp only [Act.put, List.setIfInBounds_toArray, List.set_cons_zero, List.set_cons_succ]
                      first | refine upto_next 27 rfl (by kernel_rfl) (fun K hK => ?_) | fail
                      go_simp
                      first | refine hK.out _ _ ?_ (fun hU1 => ?_) | (go_wp2_with fail; refine hK.out _ _ ?_ (fun hU1 => ?_)) | fail
                      · exact Or.inr ⟨later y3 hbA, later y0 hbA⟩
                      clear hK K
                      clear hU0
                      try simp only [Act.put, List.setIfInBounds_toArray, List.set_cons_zero, List.set_cons_succ]
                      first | refine upto_next 28 rfl (by kernel_rfl) (fun K hK => ?_) | fail
                      refine step_append_run2 rfl (.tmp 105) (.tmp 128) 41 41 rfl _ _ _ _ rfl rfl HRr ?_
                      first | refine hK.out _ _ ?_ (fun hU2 => ?_) | (go_wp2_with fail; refine hK.out _ _ ?_ (fun hU2 => ?_)) | fail
                      · exact Or.inr ⟨f3, f0⟩
                      clear hK K
                      clear hU1
                      try simp only [Act.put, List.setIfInBounds_toArray, List.set_cons_zero, List.set_cons_succ]
                      first | refine upto_run 29 (v := ?_) hU2 (by kernel_rfl) rfl (by kernel_rfl) (by kernel_rfl) (by kernel_rfl) (by kernel_rfl) (fun _ _ _ h => h) (Or.inl ⟨by rfl, ?_⟩) ?_ | fail
                      rotate_left
                      focus first | (intro w _; go_simp; with_reducible rfl) | (intro w _; go_simp; done) | (intro w _; go_simp; rw [if_neg (by omega)]) | fail
                      try simp only [Act.put, List.setIfInBounds_toArray, List.set_cons_zero, List.set_cons_succ]
                      first | refine upto_run 30 (v := ?_) hU2 (by kernel_rfl) rfl (by kernel_rfl) (by kernel_rfl) (by kernel_rfl) (by kernel_rfl) (fun _ _ _ h => h) (Or.inl ⟨by rfl, ?_⟩) ?_ | fail
                      rotate_left
                      focus first | (intro w _; go_simp; with_reducible rfl) | (intro w _; go_simp; done) | (intro w _; go_simp; rw [if_neg (by omega)]) | fail
                      try simp only [Act.put, List.setIfInBounds_toArray, List.set_cons_zero, List.set_cons_succ]
                      first | refine upto_next 31 rfl (by kernel_rfl) (fun K hK => ?_) | fail
                      go_simp
                      first | refine hK.out _ _ ?_ (fun hU3 => ?_) | (go_wp2_with fail; refine hK.out _ _ ?_ (fun hU3 => ?_)) | fail
                      · exact Or.inl (by kernel_rfl)
                      clear hK K
                      clear hU2
                      try simp only [Act.put, List.setIfInBounds_toArray, List.set_cons_zero, List.set_cons_succ]
                      refine upto_done (by kernel_rfl) ?_ _
                      have HM8 := Lib.hid ((HMt.out.later (Below.drew (Below.refl _ _))).putS HB7.out HK7.out HS7.out)
                      have HZ8 := Lib.hid ((kpT_set (j := 3) H7.out (.slice As2 (ss.length + 1) cs2)).cells (HK7.out.cells (show (wt.drew).heap[gz]? = _ from blk_below HXt.out (Below.drew (Below.refl _ _))) (by decide)) (by decide))
                      obtain ⟨w8, hw8⟩ : ∃ z, z = w7.setCell ⟨gi, 3, none⟩ (.slice As2 (ss.length + 1) cs2) := ⟨_, rfl⟩
                      rw [← hw8] at HM8 HZ8 ⊢
                      clear hw8 f0 f3 f3f fl y0 y3 yl HRr hbA HK7 HB7 HS7 H7 HMt HXt
                      have hPX := RowX.push (HM8.out.later (Below.drew (Below.refl _ _))).rx HM8.out.lk.bel.size xk w8.drew.heap.size rfl HNL2.out
                      obtain ⟨vc2, w9, hr, hrs, hb9, hk9, hg9⟩ := hPX
                      have HZ9 := Lib.hid ((hg9.block gz (show gz < w8.drew.heap.size from blk_lt HZ8.out) (fun e => HNE.out e.symm)).trans (show w8.drew.heap[gz]? = _ from HZ8.out))
                      obtain ⟨Av2, cv2, hvc2⟩ := hrs.slice
                      rw [List.length_append, List.length_singleton] at hvc2
                      subst hvc2
                      have HRr := hr
                      have hbA : Below w8.heap.size w8 (w8.drew.alloc (.cells #[.int .i64 xk.op, .int .i64 xk.dst, .int .i64 xk.src, .int .i64 xk.imm, .int .i64 xk.size, .bool xk.signed, .int .i64 xk.cond, .string xk.to_] 28)) := below_alloc _ (Below.drew (Below.refl _ _))
                      have HM9 := Lib.hid ((HM8.out.later (Below.drew (Below.refl _ _))).putX hb9 hk9 hrs)
                      have H9 := Lib.hid (hk9.cells (show w8.drew.heap[gi]? = _ from HM8.out.img.box) (by decide))
                      have y0 := blk_cell (i := 0) HM8.out.img.box rfl
                      have f0 := blk_cell (i := 0) H9.out rfl
                      have f0f : w9.frozen? ⟨gi, 0, none⟩ = false := blk_free H9.out
                      have fl := blk_lt H9.out
                      have yl := blk_lt HM8.out.img.box
                      have z0 := blk_cell (i := 0) HZ8.out rfl
                      have z1 := blk_cell (i := 1) HZ8.out rfl
                      have z2 := blk_cell (i := 2) HZ8.out rfl
                      have z3 := blk_cell (i := 3) HZ8.out rfl
                      have z4 := blk_cell (i := 4) HZ8.out rfl
                      have z5 := blk_cell (i := 5) HZ8.out rfl
                      have z6 := blk_cell (i := 6) HZ8.out rfl
                      have z7 := blk_cell (i := 7) HZ8.out rfl
                      have zl := blk_lt HZ8.out
                      clear hr hrs hb9 hk9 hg9
                      go_upto_region 28 with (fail)
                      refine upto_begin 10 (fun w' => w'.cell? ⟨gi, 0, none⟩ = some (.slice Av 0 cv) ∧ w'.cell? ⟨gz, 0, none⟩ = some (.int .i64 xk.op) ∧ w'.cell? ⟨gz, 1, none⟩ = some (.int .i64 xk.dst) ∧ w'.cell? ⟨gz, 2, none⟩ = some (.int .i64 xk.src) ∧ w'.cell? ⟨gz, 3, none⟩ = some (.int .i64 xk.imm) ∧ w'.cell? ⟨gz, 4, none⟩ = some (.int .i64 xk.size) ∧ w'.cell? ⟨gz, 5, none⟩ = some (.bool xk.signed) ∧ w'.cell? ⟨gz, 6, none⟩ = some (.int .i64 xk.cond) ∧ w'.cell? ⟨gz, 7, none⟩ = some (.string xk.to_)) (by kernel_rfl) ?_ (fun hU0 => ?_)
                      · exact ⟨y0, z0, z1, z2, z3, z4, z5, z6, z7⟩
                      first | refine upto_run 0 (v := ?_) hU0 (by kernel_rfl) rfl (by kernel_rfl) (by kernel_rfl) (by kernel_rfl) (by kernel_rfl) (fun _ _ _ h => h) (Or.inl ⟨by rfl, ?_⟩) ?_ | fail
                      rotate_left
                      focus first | (intro w _; go_simp; with_reducible rfl) | (intro w _; go_simp; done) | (intro w _; go_simp; rw [if_neg (by omega)]) | fail
                      try simp only [Act.put, List.setIfInBounds_toArray, List.set_cons_zero, List.set_cons_succ]
                      first | refine upto_run 1 (v := ?_) hU0 (by kernel_rfl) rfl (by kernel_rfl) (by kernel_rfl) (by kernel_rfl) (by kernel_rfl) (fun _ _ _ h => h) (Or.inl ⟨by rfl, ?_⟩) ?_ | fail
                      rotate_left
                      focus first | (intro w _; go_simp; with_reducible rfl) | (intro w _; go_simp; done) | (intro w _; go_simp; rw [if_neg (by omega)]) | fail
                      try simp only [Act.put, List.setIfInBounds_toArray, List.set_cons_zero, List.set_cons_succ]
                      first | refine upto_run 2 (v := ?_) hU0 (by kernel_rfl) rfl (by kernel_rfl) (by kernel_rfl) (by kernel_rfl) (by kernel_rfl) (fun _ _ _ h => h) (Or.inl ⟨by rfl, ?_⟩) ?_ | fail
                      rotate_left
                      focus first | (intro w _; go_simp; with_reducible rfl) | (intro w _; go_simp; done) | (intro w _; go_simp; rw [if_neg (by omega)]) | fail
                      try simp only [Act.put, List.setIfInBounds_toArray, List.set_cons_zero, List.set_cons_succ]
                      first | refine upto_run 3 (v := ?_) hU0 (by kernel_rfl) rfl (by kernel_rfl) (by kernel_rfl) (by kernel_rfl) (by kernel_rfl) (fun _ _ _ h => h) (Or.inl ⟨by rfl, ?_⟩) ?_ | fail
                      rotate_left
                      focus first | (intro w _; go_simp; with_reducible rfl) | (intro w _; go_simp; done) | (intro w _; go_simp; rw [if_neg (by omega)]) | fail
                      try simp only [Act.put, List.setIfInBounds_toArray, List.set_cons_zero, List.set_cons_succ]
                      first | refine upto_read 4 (v := ?_) hU0 (by kernel_rfl) rfl (by kernel_rfl) (by kernel_rfl) (by kernel_rfl) (by kernel_rfl) (by kernel_rfl) (fun _ _ _ h => h) (Or.inl ⟨by rfl, ?_⟩) ?_ | fail
                      rotate_left
                      focus first | (intro w hSw; (try dsimp only at hSw); go_simp; with_reducible rfl) | (intro w hSw; (try dsimp only at hSw); go_simp; done) | fail
                      try simp only [Act.put, List.setIfInBounds_toArray, List.set_cons_zero, List.set_cons_succ]
                      first | refine upto_read 5 (v := ?_) hU0 (by kernel_rfl) rfl (by kernel_rfl) (by kernel_rfl) (by kernel_rfl) (by kernel_rfl) (by kernel_rfl) (fun _ _ _ h => h) (Or.inl ⟨by rfl, ?_⟩) ?_ | fail
                      rotate_left
                      focus first | (intro w hSw; (try dsimp only at hSw); go_simp; with_reducible rfl) | (intro w hSw; (try dsimp only at hSw); go_simp; done) | fail
                      try simp only [Act.put, List.setIfInBounds_toArray, List.set_cons_zero, List.set_cons_succ]
                      first | refine upto_next 6 rfl (by kernel_rfl) (fun K hK => ?_) | fail
                      go_simp
                      first | refine hK.out _ _ ?_ (fun hU1 => ?_) | (go_wp2_with fail; refine hK.out _ _ ?_ (fun hU1 => ?_)) | fail
                      · exact Or.inr ⟨later y0 hbA, later z0 hbA, later z1 hbA, later z2 hbA, later z3 hbA, later z4 hbA, later z5 hbA, later z6 hbA, later z7 hbA⟩
                      clear hK K
                      clear hU0
                      try simp only [Act.put, List.setIfInBounds_toArray, List.set_cons_zero, List.set_cons_succ]
                      first | refine upto_next 7 rfl (by kernel_rfl) (fun K hK => ?_) | fail
                      refine step_append_run2 rfl (.tmp 136) (.tmp 138) 40 40 rfl _ _ _ _ rfl rfl HRr ?_
                      first | refine hK.out _ _ ?_ (fun hU2 => ?_) | (go_wp2_with fail; refine hK.out _ _ ?_ (fun hU2 => ?_)) | fail
                      · exact Or.inr ⟨f0, blk_cell HZ9.out rfl, blk_cell HZ9.out rfl, blk_cell HZ9.out rfl, blk_cell HZ9.out rfl, blk_cell HZ9.out rfl, blk_cell HZ9.out rfl, blk_cell HZ9.out rfl, blk_cell HZ9.out rfl⟩
                      clear hK K
                      clear hU1
                      try simp only [Act.put, List.setIfInBounds_toArray, List.set_cons_zero, List.set_cons_succ]
                      first | refine upto_run 8 (v := ?_) hU2 (by kernel_rfl) rfl (by kernel_rfl) (by kernel_rfl) (by kernel_rfl) (by kernel_rfl) (fun _ _ _ h => h) (Or.inl ⟨by rfl, ?_⟩) ?_ | fail
                      rotate_left
                      focus first | (intro w _; go_simp; with_reducible rfl) | (intro w _; go_simp; done) | (intro w _; go_simp; rw [if_neg (by omega)]) | fail
                      try simp only [Act.put, List.setIfInBounds_toArray, List.set_cons_zero, List.set_cons_succ]
                      first | refine upto_run 9 (v := ?_) hU2 (by kernel_rfl) rfl (by kernel_rfl) (by kernel_rfl) (by kernel_rfl) (by kernel_rfl) (fun _ _ _ h => h) (Or.inl ⟨by rfl, ?_⟩) ?_ | fail
                      rotate_left
                      focus first | (intro w _; go_simp; with_reducible rfl) | (intro w _; go_simp; done) | (intro w _; go_simp; rw [if_neg (by omega)]) | fail
                      try simp only [Act.put, List.setIfInBounds_toArray, List.set_cons_zero, List.set_cons_succ]
                      first | refine upto_next 10 rfl (by kernel_rfl) (fun K hK => ?_) | fail
                      go_simp
                      first | refine hK.out _ _ ?_ (fun hU3 => ?_) | (go_wp2_with fail; refine hK.out _ _ ?_ (fun hU3 => ?_)) | fail
                      · exact Or.inl (by kernel_rfl)
                      clear hK K
                      clear hU2
                      try simp only [Act.put, List.setIfInBounds_toArray, List.set_cons_zero, List.set_cons_succ]
                      refine upto_done (by kernel_rfl) ?_ _
                      clear f0 f0f fl yl y0 z0 z1 z2 z3 z4 z5 z6 z7 zl HRr hbA
                      go_wp2_with fail
                      go_roundw
                      case rel =>
                        refine ⟨j + 1, xs ++ [xk], ss ++ [false], _, _, by omega, by go_num, by have := HXL.out; simp; omega, by have := HSL.out; simp; omega, ?_, HM9.out⟩
                        rw [HSd.out, HE.out]
                        unfold lnPut
                        rw [HLC.out]
                      case measure => simp [intOf]; omega
                    · obtain ⟨k, hk⟩ : ∃ k, nx = k + 1 := ⟨nx - 1, by
                        have h1 : xs.length ≠ 0 := fun e => hx0 (List.eq_nil_of_length_eq_zero e)
                        have := HNX.out
                        omega⟩
                      subst hk
                      obtain ⟨l, hl⟩ : ∃ l, xs[k]? = some l := ⟨_, List.getElem?_eq_getElem (by have := HNX.out; omega)⟩
                      have HL := Lib.hid hl
                      have HLC := Lib.hid (lastCall_at HNX.out.symm hl)
                      obtain ⟨gv, rfl, yo, hkc⟩ := RowX.last HMt.out.rx HNX.out.symm hl
                      have HPS := Lib.hid (fun (W : World) (hb : Below wt.heap.size wt W) => RowS.push (HMt.out.later hb).rs (HMt.out.later hb).lk.bel.size (callsB l.op) W.heap.size rfl HNL.out)
                      have yol := World.block_lt_of_cell? _ _ yo
                      have hkb : k ≤ 1000000000 := by have h1 := HNX.out; have h2 := HNL2.out; omega
                      clear hl hx0
                      refine upto_begin 31 (fun w' => w'.cell? ⟨gi, 3, none⟩ = some (.slice As ns cs9) ∧ w'.cell? ⟨gi, 0, none⟩ = some (.slice (some ⟨gv, 0, none⟩) (k + 1) cv) ∧ w'.cell? ⟨gv, k * 8, none⟩ = some (.int .i64 l.op)) (by kernel_rfl) ?_ (fun hU0 => ?_)
                      · exact ⟨y3, y0, yo⟩
                      first | refine upto_run 0 (v := ?_) hU0 (by kernel_rfl) rfl (by kernel_rfl) (by kernel_rfl) (by kernel_rfl) (by kernel_rfl) (fun _ _ _ h => h) (Or.inl ⟨by rfl, ?_⟩) ?_ | fail
                      rotate_left
                      focus first | (intro w _; go_simp; with_reducible rfl) | (intro w _; go_simp; done) | (intro w _; go_simp; rw [if_neg (by omega)]) | fail
                      try simp only [Act.put, List.setIfInBounds_toArray, List.set_cons_zero, List.set_cons_succ]
                      first | refine upto_run 1 (v := ?_) hU0 (by kernel_rfl) rfl (by kernel_rfl) (by kernel_rfl) (by kernel_rfl) (by kernel_rfl) (fun _ _ _ h => h) (Or.inl ⟨by rfl, ?_⟩) ?_ | fail
                      rotate_left
                      focus first | (intro w _; go_simp; with_reducible rfl) | (intro w _; go_simp; done) | (intro w _; go_simp; rw [if_neg (by omega)]) | fail
                      try simp only [Act.put, List.setIfInBounds_toArray, List.set_cons_zero, List.set_cons_succ]
                      first | refine upto_run 2 (v := ?_) hU0 (by kernel_rfl) rfl (by kernel_rfl) (by kernel_rfl) (by kernel_rfl) (by kernel_rfl) (fun _ _ _ h => h) (Or.inl ⟨by rfl, ?_⟩) ?_ | fail
                      rotate_left
                      focus first | (intro w _; go_simp; with_reducible rfl) | (intro w _; go_simp; done) | (intro w _; go_simp; rw [if_neg (by omega)]) | fail
                      try simp only [Act.put, List.setIfInBounds_toArray, List.set_cons_zero, List.set_cons_succ]
                      first | refine upto_run 3 (v := ?_) hU0 (by kernel_rfl) rfl (by kernel_rfl) (by kernel_rfl) (by kernel_rfl) (by kernel_rfl) (fun _ _ _ h => h) (Or.inl ⟨by rfl, ?_⟩) ?_ | fail
                      rotate_left
                      focus first | (intro w _; go_simp; with_reducible rfl) | (intro w _; go_simp; done) | (intro w _; go_simp; rw [if_neg (by omega)]) | fail
                      try simp only [Act.put, List.setIfInBounds_toArray, List.set_cons_zero, List.set_cons_succ]
                      first | refine upto_read 4 (v := ?_) hU0 (by kernel_rfl) rfl (by kernel_rfl) (by kernel_rfl) (by kernel_rfl) (by kernel_rfl) (by kernel_rfl) (fun _ _ _ h => h) (Or.inl ⟨by rfl, ?_⟩) ?_ | fail
                      rotate_left
                      focus first | (intro w hSw; (try dsimp only at hSw); go_simp; with_reducible rfl) | (intro w hSw; (try dsimp only at hSw); go_simp; done) | fail
                      try simp only [Act.put, List.setIfInBounds_toArray, List.set_cons_zero, List.set_cons_succ]
                      first | refine upto_run 5 (v := ?_) hU0 (by kernel_rfl) rfl (by kernel_rfl) (by kernel_rfl) (by kernel_rfl) (by kernel_rfl) (fun _ _ _ h => h) (Or.inl ⟨by rfl, ?_⟩) ?_ | fail
                      rotate_left
                      focus first | (intro w _; go_simp; with_reducible rfl) | (intro w _; go_simp; done) | (intro w _; go_simp; rw [if_neg (by omega)]) | fail
                      try simp only [Act.put, List.setIfInBounds_toArray, List.set_cons_zero, List.set_cons_succ]
                      first | refine upto_run 6 (v := ?_) hU0 (by kernel_rfl) rfl (by kernel_rfl) (by kernel_rfl) (by kernel_rfl) (by kernel_rfl) (fun _ _ _ h => h) (Or.inl ⟨by rfl, ?_⟩) ?_ | fail
                      rotate_left
                      focus first | (intro w _; go_simp; with_reducible rfl) | (intro w _; go_simp; done) | (intro w _; go_simp; rw [if_neg (by omega)]) | fail
                      try simp only [Act.put, List.setIfInBounds_toArray, List.set_cons_zero, List.set_cons_succ]
                      first | refine upto_run 7 (v := ?_) hU0 (by kernel_rfl) rfl (by kernel_rfl) (by kernel_rfl) (by kernel_rfl) (by kernel_rfl) (fun _ _ _ h => h) (Or.inl ⟨by rfl, ?_⟩) ?_ | fail
                      rotate_left
                      focus first | (intro w _; go_simp; with_reducible rfl) | (intro w _; go_simp; done) | (intro w _; go_simp; rw [if_neg (by omega)]) | fail
                      try simp only [Act.put, List.setIfInBounds_toArray, List.set_cons_zero, List.set_cons_succ]
                      first | refine upto_read 8 (v := ?_) hU0 (by kernel_rfl) rfl (by kernel_rfl) (by kernel_rfl) (by kernel_rfl) (by kernel_rfl) (by kernel_rfl) (fun _ _ _ h => h) (Or.inl ⟨by rfl, ?_⟩) ?_ | fail
                      rotate_left
                      focus first | (intro w hSw; (try dsimp only at hSw); go_simp; with_reducible rfl) | (intro w hSw; (try dsimp only at hSw); go_simp; done) | fail
                      try simp only [Act.put, List.setIfInBounds_toArray, List.set_cons_zero, List.set_cons_succ]
                      first | refine upto_run 9 (v := ?_) hU0 (by kernel_rfl) rfl (by kernel_rfl) (by kernel_rfl) (by kernel_rfl) (by kernel_rfl) (fun _ _ _ h => h) (Or.inl ⟨by rfl, ?_⟩) ?_ | fail
                      rotate_left
                      focus first | (intro w _; go_simp; with_reducible rfl) | (intro w _; go_simp; done) | (intro w _; go_simp; rw [if_neg (by omega)]) | fail
                      try simp only [Act.put, List.setIfInBounds_toArray, List.set_cons_zero, List.set_cons_succ]
                      first | refine upto_run 10 (v := ?_) hU0 (by kernel_rfl) rfl (by kernel_rfl) (by kernel_rfl) (by kernel_rfl) (by kernel_rfl) (fun _ _ _ h => h) (Or.inl ⟨by rfl, ?_⟩) ?_ | fail
                      rotate_left
                      focus first | (intro w _; go_simp; with_reducible rfl) | (intro w _; go_simp; done) | (intro w _; go_simp; rw [if_neg (by omega)]) | fail
                      try simp only [Act.put, List.setIfInBounds_toArray, List.set_cons_zero, List.set_cons_succ]
                      first | refine upto_run 11 (v := ?_) hU0 (by kernel_rfl) rfl (by kernel_rfl) (by kernel_rfl) (by kernel_rfl) (by kernel_rfl) (fun _ _ _ h => h) (Or.inl ⟨by rfl, ?_⟩) ?_ | fail
                      rotate_left
                      focus first | (intro w _; go_simp; with_reducible rfl) | (intro w _; go_simp; done) | (intro w _; go_simp; rw [if_neg (by omega)]) | fail
                      try simp only [Act.put, List.setIfInBounds_toArray, List.set_cons_zero, List.set_cons_succ]
                      first | refine upto_run 12 (v := ?_) hU0 (by kernel_rfl) rfl (by kernel_rfl) (by kernel_rfl) (by kernel_rfl) (by kernel_rfl) (fun _ _ _ h => h) (Or.inl ⟨by rfl, ?_⟩) ?_ | fail
                      rotate_left
                      focus first | (intro w _; go_simp; with_reducible rfl) | (intro w _; go_simp; done) | (intro w _; go_simp; rw [if_neg (by omega)]) | fail
                      try simp only [Act.put, List.setIfInBounds_toArray, List.set_cons_zero, List.set_cons_succ]
                      first | refine upto_run 13 (v := ?_) hU0 (by kernel_rfl) rfl (by kernel_rfl) (by kernel_rfl) (by kernel_rfl) (by kernel_rfl) (fun _ _ _ h => h) (Or.inl ⟨by rfl, ?_⟩) ?_ | fail
                      rotate_left
                      focus first | (intro w _; go_simp; with_reducible rfl) | (intro w _; go_simp; done) | (intro w _; go_simp; rw [if_neg (by omega)]) | fail
                      try simp only [Act.put, List.setIfInBounds_toArray, List.set_cons_zero, List.set_cons_succ]
                      first | refine upto_run 14 (v := ?_) hU0 (by kernel_rfl) rfl (by kernel_rfl) (by kernel_rfl) (by kernel_rfl) (by kernel_rfl) (fun _ _ _ h => h) (Or.inl ⟨by rfl, ?_⟩) ?_ | fail
                      rotate_left
                      focus first | (intro w _; go_simp; with_reducible rfl) | (intro w _; go_simp; done) | (intro w _; go_simp; rw [if_neg (by omega)]) | fail
                      try simp only [Act.put, List.setIfInBounds_toArray, List.set_cons_zero, List.set_cons_succ]
                      first | refine upto_read 15 (v := ?_) hU0 (by kernel_rfl) rfl (by kernel_rfl) (by kernel_rfl) (by kernel_rfl) (by kernel_rfl) (by kernel_rfl) (fun _ _ _ h => h) (Or.inl ⟨by rfl, ?_⟩) ?_ | fail
                      rotate_left
                      focus first | (intro w hSw; (try dsimp only at hSw); go_simp; with_reducible rfl) | (intro w hSw; (try dsimp only at hSw); go_simp; done) | fail
                      try simp only [Act.put, List.setIfInBounds_toArray, List.set_cons_zero, List.set_cons_succ]
                      first | refine upto_run 16 (v := ?_) hU0 (by kernel_rfl) rfl (by kernel_rfl) (by kernel_rfl) (by kernel_rfl) (by kernel_rfl) (fun _ _ _ h => h) (Or.inl ⟨by rfl, ?_⟩) ?_ | fail
                      rotate_left
                      focus first | (intro w _; go_simp; with_reducible rfl) | (intro w _; go_simp; done) | (intro w _; go_simp; rw [if_neg (by omega)]) | fail
                      try simp only [Act.put, List.setIfInBounds_toArray, List.set_cons_zero, List.set_cons_succ]
                      first | refine upto_run 17 (v := ?_) hU0 (by kernel_rfl) rfl (by kernel_rfl) (by kernel_rfl) (by kernel_rfl) (by kernel_rfl) (fun _ _ _ h => h) (Or.inl ⟨by rfl, ?_⟩) ?_ | fail
                      rotate_left
                      focus first | (intro w _; go_simp; with_reducible rfl) | (intro w _; go_simp; done) | (intro w _; go_simp; rw [if_neg (by omega)]) | fail
                      try simp only [Act.put, List.setIfInBounds_toArray, List.set_cons_zero, List.set_cons_succ]
                      first | refine upto_run 18 (v := ?_) hU0 (by kernel_rfl) rfl (by kernel_rfl) (by kernel_rfl) (by kernel_rfl) (by kernel_rfl) (fun _ _ _ h => h) (Or.inl ⟨by rfl, ?_⟩) ?_ | fail
                      rotate_left
                      focus first | (intro w _; go_simp; with_reducible rfl) | (intro w _; go_simp; done) | (intro w _; go_simp; rw [if_neg (by omega)]) | fail
                      try simp only [Act.put, List.setIfInBounds_toArray, List.set_cons_zero, List.set_cons_succ]
                      first | refine upto_read 19 (v := ?_) hU0 (by kernel_rfl) rfl (by kernel_rfl) (by kernel_rfl) (by kernel_rfl) (by kernel_rfl) (by kernel_rfl) (fun _ _ _ h => h) (Or.inl ⟨by rfl, ?_⟩) ?_ | fail
                      rotate_left
                      focus first | (intro w hSw; (try dsimp only at hSw); go_simp; with_reducible rfl) | (intro w hSw; (try dsimp only at hSw); go_simp; done) | fail
                      try simp only [Act.put, List.setIfInBounds_toArray, List.set_cons_zero, List.set_cons_succ]
                      first | refine upto_run 20 (v := ?_) hU0 (by kernel_rfl) rfl (by kernel_rfl) (by kernel_rfl) (by kernel_rfl) (by kernel_rfl) (fun _ _ _ h => h) (Or.inl ⟨by rfl, ?_⟩) ?_ | fail
                      rotate_left
                      focus first | (intro w _; go_simp; with_reducible rfl) | (intro w _; go_simp; done) | (intro w _; go_simp; rw [if_neg (by omega)]) | fail
                      try simp only [Act.put, List.setIfInBounds_toArray, List.set_cons_zero, List.set_cons_succ]
                      first | refine upto_run 21 (v := .int .i64 (k : Int)) hU0 (by kernel_rfl) rfl (by kernel_rfl) (by kernel_rfl) (by kernel_rfl) (by kernel_rfl) (fun _ _ _ h => h) (Or.inl ⟨by rfl, ?_⟩) ?_ | fail
                      · intro w _
                        have hw := IntWalk.i64_in (k : Int) (by omega)
                        go_simp
                        try rw [hw]
                      try simp only [Act.put, List.setIfInBounds_toArray, List.set_cons_zero, List.set_cons_succ]
                      first | refine upto_run 22 (v := .pointer (some ⟨gv, k * 8, none⟩)) hU0 (by kernel_rfl) rfl (by kernel_rfl) (by kernel_rfl) (by kernel_rfl) (by kernel_rfl) (fun _ _ _ h => h) (Or.inl ⟨by rfl, ?_⟩) ?_ | fail
                      · intro w _
                        have hw := IntWalk.i64_in (k : Int) (by omega)
                        go_simp
                        intro h9
                        omega
                      try simp only [Act.put, List.setIfInBounds_toArray, List.set_cons_zero, List.set_cons_succ]
                      first | refine upto_run 23 (v := ?_) hU0 (by kernel_rfl) rfl (by kernel_rfl) (by kernel_rfl) (by kernel_rfl) (by kernel_rfl) (fun _ _ _ h => h) (Or.inl ⟨by rfl, ?_⟩) ?_ | fail
                      rotate_left
                      focus first | (intro w _; go_simp; with_reducible rfl) | (intro w _; go_simp; done) | (intro w _; go_simp; rw [if_neg (by omega)]) | fail
                      try simp only [Act.put, List.setIfInBounds_toArray, List.set_cons_zero, List.set_cons_succ]
                      first | refine upto_read 24 (v := ?_) hU0 (by kernel_rfl) rfl (by kernel_rfl) (by kernel_rfl) (by kernel_rfl) (by kernel_rfl) (by kernel_rfl) (fun _ _ _ h => h) (Or.inl ⟨by rfl, ?_⟩) ?_ | fail
                      rotate_left
                      focus first | (intro w hSw; (try dsimp only at hSw); go_simp; with_reducible rfl) | (intro w hSw; (try dsimp only at hSw); go_simp; done) | fail
                      try simp only [Act.put, List.setIfInBounds_toArray, List.set_cons_zero, List.set_cons_succ]
                      first | refine upto_next 25 rfl (by kernel_rfl) (fun K hK => ?_) | fail
                      go_simp
                      refine (calls_any _ l.op).mono ?_
                      rintro e wc ⟨rfl, hbc⟩
                      have hbW : Below wt.heap.size wt wc := by first | exact hbc | exact Below.trans (Below.drew (Below.refl _ _)) hbc
                      obtain ⟨vs2, w7, hr, hrs, hb7, hk7⟩ := HPS.out wc hbW
                      obtain ⟨As2, cs2, hvs2⟩ := hrs.slice
                      rw [List.length_append, List.length_singleton] at hvs2
                      subst hvs2
                      have HRr := hr
                      have hbA : Below wt.heap.size wt (wc.alloc (.cells #[.bool (callsB l.op)] 4)) := below_alloc _ hbW
                      have HK7 := Lib.hid hk7
                      have HB7 := Lib.hid hb7
                      have HS7 := Lib.hid hrs
                      have HBW := Lib.hid hbW
                      have H7 := Lib.hid (hk7.cells (HMt.out.later hbW).img.box (by decide))
                      have f0 := blk_cell (i := 0) H7.out rfl
                      have f3 := blk_cell (i := 3) H7.out rfl
                      have f3f : w7.frozen? ⟨gi, 3, none⟩ = false := blk_free H7.out
                      have fl := blk_lt H7.out
                      have fo : w7.cell? ⟨gv, k * 8, none⟩ = some (.int .i64 l.op) := by
                        obtain ⟨g9, h1, h2, _⟩ := RowX.last (hk7.own (HMt.out.later hbW).rx (by decide)) HNX.out.symm HL.out
                        cases h1
                        exact h2
                      clear hr hrs hb7 hk7
                      try go_simp
                      first | refine hK.out _ _ ?_ (fun hU1 => ?_) | (go_wp2_with fail; refine hK.out _ _ ?_ (fun hU1 => ?_)) | fail
                      · exact Or.inr ⟨later y3 hbW, later y0 hbW, later yo hbW⟩
                      clear hK K
                      clear hU0
                      try simp only [Act.put, List.setIfInBounds_toArray, List.set_cons_zero, List.set_cons_succ]
                      first | refine upto_run 26 (v := ?_) hU1 (by kernel_rfl) rfl (by kernel_rfl) (by kernel_rfl) (by kernel_rfl) (by kernel_rfl) (fun _ _ _ h => h) (Or.inl ⟨by rfl, ?_⟩) ?_ | fail
                      rotate_left
                      focus first | (intro w _; go_simp; with_reducible rfl) | (intro w _; go_simp; done) | (intro w _; go_simp; rw [if_neg (by omega)]) | fail
                      try simp only [Act.put, List.setIfInBounds_toArray, List.set_cons_zero, List.set_cons_succ]
                      first | refine upto_next 27 rfl (by kernel_rfl) (fun K hK => ?_) | fail
                      go_simp
                      first | refine hK.out _ _ ?_ (fun hU2 => ?_) | (go_wp2_with fail; refine hK.out _ _ ?_ (fun hU2 => ?_)) | fail
                      · exact Or.inr ⟨later y3 hbA, later y0 hbA, later yo hbA⟩
                      clear hK K
                      clear hU1
                      try simp only [Act.put, List.setIfInBounds_toArray, List.set_cons_zero, List.set_cons_succ]
                      first | refine upto_next 28 rfl (by kernel_rfl) (fun K hK => ?_) | fail
                      refine step_append_run2 rfl (.tmp 105) (.tmp 128) 41 41 rfl _ _ _ _ rfl rfl HRr ?_
                      first | refine hK.out _ _ ?_ (fun hU3 => ?_) | (go_wp2_with fail; refine hK.out _ _ ?_ (fun hU3 => ?_)) | fail
                      · exact Or.inr ⟨f3, f0, fo⟩
                      clear hK K
                      clear hU2
                      try simp only [Act.put, List.setIfInBounds_toArray, List.set_cons_zero, List.set_cons_succ]
                      first | refine upto_run 29 (v := ?_) hU3 (by kernel_rfl) rfl (by kernel_rfl) (by kernel_rfl) (by kernel_rfl) (by kernel_rfl) (fun _ _ _ h => h) (Or.inl ⟨by rfl, ?_⟩) ?_ | fail
                      rotate_left
                      focus first | (intro w _; go_simp; with_reducible rfl) | (intro w _; go_simp; done) | (intro w _; go_simp; rw [if_neg (by omega)]) | fail
                      try simp only [Act.put, List.setIfInBounds_toArray, List.set_cons_zero, List.set_cons_succ]
                      first | refine upto_run 30 (v := ?_) hU3 (by kernel_rfl) rfl (by kernel_rfl) (by kernel_rfl) (by kernel_rfl) (by kernel_rfl) (fun _ _ _ h => h) (Or.inl ⟨by rfl, ?_⟩) ?_ | fail
                      rotate_left
                      focus first | (intro w _; go_simp; with_reducible rfl) | (intro w _; go_simp; done) | (intro w _; go_simp; rw [if_neg (by omega)]) | fail
                      try simp only [Act.put, List.setIfInBounds_toArray, List.set_cons_zero, List.set_cons_succ]
                      first | refine upto_next 31 rfl (by kernel_rfl) (fun K hK => ?_) | fail
                      go_simp
                      first | refine hK.out _ _ ?_ (fun hU4 => ?_) | (go_wp2_with fail; refine hK.out _ _ ?_ (fun hU4 => ?_)) | fail
                      · exact Or.inl (by kernel_rfl)
                      clear hK K
                      clear hU3
                      try simp only [Act.put, List.setIfInBounds_toArray, List.set_cons_zero, List.set_cons_succ]
                      refine upto_done (by kernel_rfl) ?_ _
                      clear yo yol fo hbc hbW
                      have HM8 := Lib.hid ((HMt.out.later (HBW.out)).putS HB7.out HK7.out HS7.out)
                      have HZ8 := Lib.hid ((kpT_set (j := 3) H7.out (.slice As2 (ss.length + 1) cs2)).cells (HK7.out.cells (show (wc).heap[gz]? = _ from blk_below HXt.out (HBW.out)) (by decide)) (by decide))
                      obtain ⟨w8, hw8⟩ : ∃ z, z = w7.setCell ⟨gi, 3, none⟩ (.slice As2 (ss.length + 1) cs2) := ⟨_, rfl⟩
                      rw [← hw8] at HM8 HZ8 ⊢
                      clear hw8 f0 f3 f3f fl y0 y3 yl HRr hbA HK7 HB7 HS7 H7 HMt HXt
                      have hPX := RowX.push (HM8.out.later (Below.drew (Below.refl _ _))).rx HM8.out.lk.bel.size xk w8.drew.heap.size rfl HNL2.out
                      obtain ⟨vc2, w9, hr, hrs, hb9, hk9, hg9⟩ := hPX
                      have HZ9 := Lib.hid ((hg9.block gz (show gz < w8.drew.heap.size from blk_lt HZ8.out) (fun e => HNE.out e.symm)).trans (show w8.drew.heap[gz]? = _ from HZ8.out))
                      obtain ⟨Av2, cv2, hvc2⟩ := hrs.slice
                      rw [List.length_append, List.length_singleton] at hvc2
                      subst hvc2
                      have HRr := hr
                      have hbA : Below w8.heap.size w8 (w8.drew.alloc (.cells #[.int .i64 xk.op, .int .i64 xk.dst, .int .i64 xk.src, .int .i64 xk.imm, .int .i64 xk.size, .bool xk.signed, .int .i64 xk.cond, .string xk.to_] 28)) := below_alloc _ (Below.drew (Below.refl _ _))
                      have HM9 := Lib.hid ((HM8.out.later (Below.drew (Below.refl _ _))).putX hb9 hk9 hrs)
                      have H9 := Lib.hid (hk9.cells (show w8.drew.heap[gi]? = _ from HM8.out.img.box) (by decide))
                      have y0 := blk_cell (i := 0) HM8.out.img.box rfl
                      have f0 := blk_cell (i := 0) H9.out rfl
                      have f0f : w9.frozen? ⟨gi, 0, none⟩ = false := blk_free H9.out
                      have fl := blk_lt H9.out
                      have yl := blk_lt HM8.out.img.box
                      have z0 := blk_cell (i := 0) HZ8.out rfl
                      have z1 := blk_cell (i := 1) HZ8.out rfl
                      have z2 := blk_cell (i := 2) HZ8.out rfl
                      have z3 := blk_cell (i := 3) HZ8.out rfl
                      have z4 := blk_cell (i := 4) HZ8.out rfl
                      have z5 := blk_cell (i := 5) HZ8.out rfl
                      have z6 := blk_cell (i := 6) HZ8.out rfl
                      have z7 := blk_cell (i := 7) HZ8.out rfl
                      have zl := blk_lt HZ8.out
                      clear hr hrs hb9 hk9 hg9
                      go_upto_region 28 with (fail)
                      refine upto_begin 10 (fun w' => w'.cell? ⟨gi, 0, none⟩ = some (.slice (some ⟨gv, 0, none⟩) (k + 1) cv) ∧ w'.cell? ⟨gz, 0, none⟩ = some (.int .i64 xk.op) ∧ w'.cell? ⟨gz, 1, none⟩ = some (.int .i64 xk.dst) ∧ w'.cell? ⟨gz, 2, none⟩ = some (.int .i64 xk.src) ∧ w'.cell? ⟨gz, 3, none⟩ = some (.int .i64 xk.imm) ∧ w'.cell? ⟨gz, 4, none⟩ = some (.int .i64 xk.size) ∧ w'.cell? ⟨gz, 5, none⟩ = some (.bool xk.signed) ∧ w'.cell? ⟨gz, 6, none⟩ = some (.int .i64 xk.cond) ∧ w'.cell? ⟨gz, 7, none⟩ = some (.string xk.to_)) (by kernel_rfl) ?_ (fun hU0 => ?_)
                      · exact ⟨y0, z0, z1, z2, z3, z4, z5, z6, z7⟩
                      first | refine upto_run 0 (v := ?_) hU0 (by kernel_rfl) rfl (by kernel_rfl) (by kernel_rfl) (by kernel_rfl) (by kernel_rfl) (fun _ _ _ h => h) (Or.inl ⟨by rfl, ?_⟩) ?_ | fail
                      rotate_left
                      focus first | (intro w _; go_simp; with_reducible rfl) | (intro w _; go_simp; done) | (intro w _; go_simp; rw [if_neg (by omega)]) | fail
                      try simp only [Act.put, List.setIfInBounds_toArray, List.set_cons_zero, List.set_cons_succ]
                      first | refine upto_run 1 (v := ?_) hU0 (by kernel_rfl) rfl (by kernel_rfl) (by kernel_rfl) (by kernel_rfl) (by kernel_rfl) (fun _ _ _ h => h) (Or.inl ⟨by rfl, ?_⟩) ?_ | fail
                      rotate_left
                      focus first | (intro w _; go_simp; with_reducible rfl) | (intro w _; go_simp; done) | (intro w _; go_simp; rw [if_neg (by omega)]) | fail
                      try simp only [Act.put, List.setIfInBounds_toArray, List.set_cons_zero, List.set_cons_succ]
                      first | refine upto_run 2 (v := ?_) hU0 (by kernel_rfl) rfl (by kernel_rfl) (by kernel_rfl) (by kernel_rfl) (by kernel_rfl) (fun _ _ _ h => h) (Or.inl ⟨by rfl, ?_⟩) ?_ | fail
                      rotate_left
                      focus first | (intro w _; go_simp; with_reducible rfl) | (intro w _; go_simp; done) | (intro w _; go_simp; rw [if_neg (by omega)]) | fail
                      try simp only [Act.put, List.setIfInBounds_toArray, List.set_cons_zero, List.set_cons_succ]
                      first | refine upto_run 3 (v := ?_) hU0 (by kernel_rfl) rfl (by kernel_rfl) (by kernel_rfl) (by kernel_rfl) (by kernel_rfl) (fun _ _ _ h => h) (Or.inl ⟨by rfl, ?_⟩) ?_ | fail
                      rotate_left
                      focus first | (intro w _; go_simp; with_reducible rfl) | (intro w _; go_simp; done) | (intro w _; go_simp; rw [if_neg (by omega)]) | fail
                      try simp only [Act.put, List.setIfInBounds_toArray, List.set_cons_zero, List.set_cons_succ]
                      first | refine upto_read 4 (v := ?_) hU0 (by kernel_rfl) rfl (by kernel_rfl) (by kernel_rfl) (by kernel_rfl) (by kernel_rfl) (by kernel_rfl) (fun _ _ _ h => h) (Or.inl ⟨by rfl, ?_⟩) ?_ | fail
                      rotate_left
                      focus first | (intro w hSw; (try dsimp only at hSw); go_simp; with_reducible rfl) | (intro w hSw; (try dsimp only at hSw); go_simp; done) | fail
                      try simp only [Act.put, List.setIfInBounds_toArray, List.set_cons_zero, List.set_cons_succ]
                      first | refine upto_read 5 (v := ?_) hU0 (by kernel_rfl) rfl (by kernel_rfl) (by kernel_rfl) (by kernel_rfl) (by kernel_rfl) (by kernel_rfl) (fun _ _ _ h => h) (Or.inl ⟨by rfl, ?_⟩) ?_ | fail
                      rotate_left
                      focus first | (intro w hSw; (try dsimp only at hSw); go_simp; with_reducible rfl) | (intro w hSw; (try dsimp only at hSw); go_simp; done) | fail
                      try simp only [Act.put, List.setIfInBounds_toArray, List.set_cons_zero, List.set_cons_succ]
                      first | refine upto_next 6 rfl (by kernel_rfl) (fun K hK => ?_) | fail
                      go_simp
                      first | refine hK.out _ _ ?_ (fun hU1 => ?_) | (go_wp2_with fail; refine hK.out _ _ ?_ (fun hU1 => ?_)) | fail
                      · exact Or.inr ⟨later y0 hbA, later z0 hbA, later z1 hbA, later z2 hbA, later z3 hbA, later z4 hbA, later z5 hbA, later z6 hbA, later z7 hbA⟩
                      clear hK K
                      clear hU0
                      try simp only [Act.put, List.setIfInBounds_toArray, List.set_cons_zero, List.set_cons_succ]
                      first | refine upto_next 7 rfl (by kernel_rfl) (fun K hK => ?_) | fail
                      refine step_append_run2 rfl (.tmp 136) (.tmp 138) 40 40 rfl _ _ _ _ rfl rfl HRr ?_
                      first | refine hK.out _ _ ?_ (fun hU2 => ?_) | (go_wp2_with fail; refine hK.out _ _ ?_ (fun hU2 => ?_)) | fail
                      · exact Or.inr ⟨f0, blk_cell HZ9.out rfl, blk_cell HZ9.out rfl, blk_cell HZ9.out rfl, blk_cell HZ9.out rfl, blk_cell HZ9.out rfl, blk_cell HZ9.out rfl, blk_cell HZ9.out rfl, blk_cell HZ9.out rfl⟩
                      clear hK K
                      clear hU1
                      try simp only [Act.put, List.setIfInBounds_toArray, List.set_cons_zero, List.set_cons_succ]
                      first | refine upto_run 8 (v := ?_) hU2 (by kernel_rfl) rfl (by kernel_rfl) (by kernel_rfl) (by kernel_rfl) (by kernel_rfl) (fun _ _ _ h => h) (Or.inl ⟨by rfl, ?_⟩) ?_ | fail
                      rotate_left
                      focus first | (intro w _; go_simp; with_reducible rfl) | (intro w _; go_simp; done) | (intro w _; go_simp; rw [if_neg (by omega)]) | fail
                      try simp only [Act.put, List.setIfInBounds_toArray, List.set_cons_zero, List.set_cons_succ]
                      first | refine upto_run 9 (v := ?_) hU2 (by kernel_rfl) rfl (by kernel_rfl) (by kernel_rfl) (by kernel_rfl) (by kernel_rfl) (fun _ _ _ h => h) (Or.inl ⟨by rfl, ?_⟩) ?_ | fail
                      rotate_left
                      focus first | (intro w _; go_simp; with_reducible rfl) | (intro w _; go_simp; done) | (intro w _; go_simp; rw [if_neg (by omega)]) | fail
                      try simp only [Act.put, List.setIfInBounds_toArray, List.set_cons_zero, List.set_cons_succ]
                      first | refine upto_next 10 rfl (by kernel_rfl) (fun K hK => ?_) | fail
                      go_simp
                      first | refine hK.out _ _ ?_ (fun hU3 => ?_) | (go_wp2_with fail; refine hK.out _ _ ?_ (fun hU3 => ?_)) | fail
                      · exact Or.inl (by kernel_rfl)
                      clear hK K
                      clear hU2
                      try simp only [Act.put, List.setIfInBounds_toArray, List.set_cons_zero, List.set_cons_succ]
                      refine upto_done (by kernel_rfl) ?_ _
                      clear f0 f0f fl yl y0 z0 z1 z2 z3 z4 z5 z6 z7 zl HRr hbA
                      go_wp2_with fail
                      go_roundw
                      case rel =>
                        refine ⟨j + 1, xs ++ [xk], ss ++ [callsB l.op], _, _, by omega, by go_num, by have := HXL.out; simp; omega, by have := HSL.out; simp; omega, ?_, HM9.out⟩
                        rw [HSd.out, HE.out]
                        unfold lnPut
                        rw [HLC.out]
                      case measure => simp [intOf]; omega
                · have bj : decide (x.ins.op = 33 ∨ x.ins.op = 34 ∨ x.ins.op = 35) = false := decide_eq_false hju
                  rw [bj]
                  clear bj
                  have HE := Lib.hid (show lnS right ps cs (xs, ss) x = lnPut (xs, ss) x.ins by unfold lnS; rw [if_neg (by simp [HLB.out]), if_neg (by simp [HRI.out]), if_neg H6.out, if_neg hju])
                  clear hju
                  go_upto_region 27 with (fail)
                  obtain ⟨xk, hxk⟩ : ∃ z, z = x.ins := ⟨_, rfl⟩
                  rw [← hxk] at HE HXj
                  obtain ⟨wt, hwt⟩ : ∃ z, z = wj := ⟨_, rfl⟩
                  have HMt := Lib.hid HMj.out
                  have HXt := Lib.hid HXj.out
                  rw [← hwt] at HMt HXt ⊢
                  clear hwt hxk
                  obtain ⟨Av, cv, hvc⟩ := HMt.out.rx.slice
                  obtain ⟨As, cs9, hvs⟩ := HMt.out.rs.slice
                  subst hvc hvs
                  obtain ⟨nx, hnx⟩ : ∃ nx, nx = xs.length := ⟨_, rfl⟩
                  obtain ⟨ns, hns⟩ : ∃ ns, ns = ss.length := ⟨_, rfl⟩
                  rw [← hnx, ← hns] at HMt
                  rw [← hnx] at HNE
                  have HNX := Lib.hid hnx
                  have hnl : ss.length ≤ 1000000000 := by have := HSL.out; omega
                  have hnl2 : xs.length ≤ 1000000000 := by have := HXL.out; omega
                  have HNL := Lib.hid hnl
                  have HNL2 := Lib.hid hnl2
                  clear hnl hnl2 hns hnx
                  have y0 := blk_cell (i := 0) HMt.out.img.box rfl
                  have y3 := blk_cell (i := 3) HMt.out.img.box rfl
                  have yl := blk_lt HMt.out.img.box
                  by_cases hx0 : xs = []
                  · have hn0 : nx = 0 := by rw [HNX.out, hx0]; rfl
                    subst hn0
                    have HLC := Lib.hid (show lastCall xs = false by rw [hx0]; rfl)
                    clear hx0
                    have hPS := RowS.push (HMt.out.later (Below.drew (Below.refl _ _))).rs HMt.out.lk.bel.size false wt.drew.heap.size rfl HNL.out
                    obtain ⟨vs2, w7, hr, hrs, hb7, hk7⟩ := hPS
                    obtain ⟨As2, cs2, hvs2⟩ := hrs.slice
                    rw [List.length_append, List.length_singleton] at hvs2
                    subst hvs2
                    have HRr := hr
                    have hbA : Below wt.heap.size wt (wt.drew.alloc (.cells #[.bool false] 4)) := below_alloc _ (Below.drew (Below.refl _ _))
                    have HK7 := Lib.hid hk7
                    have HB7 := Lib.hid hb7
                    have HS7 := Lib.hid hrs
                    have H7 := Lib.hid (hk7.cells HMt.out.img.box (by decide))
                    have f0 := blk_cell (i := 0) H7.out rfl
                    have f3 := blk_cell (i := 3) H7.out rfl
                    have f3f : w7.frozen? ⟨gi, 3, none⟩ = false := blk_free H7.out
                    have fl := blk_lt H7.out
                    clear hr hrs hb7 hk7
                    refine upto_begin 31 (fun w' => w'.cell? ⟨gi, 3, none⟩ = some (.slice As ns cs9) ∧ w'.cell? ⟨gi, 0, none⟩ = some (.slice Av 0 cv)) (by kernel_rfl) ?_ (fun hU0 => ?_)
                    · exact ⟨y3, y0⟩
                    first | refine upto_run 0 (v := ?_) hU0 (by kernel_rfl) rfl (by kernel_rfl) (by kernel_rfl) (by kernel_rfl) (by kernel_rfl) (fun _ _ _ h => h) (Or.inl ⟨by rfl, ?_⟩) ?_ | fail
                    rotate_left
                    focus first | (intro w _; go_simp; with_reducible rfl) | (intro w _; go_simp; done) | (intro w _; go_simp; rw [if_neg (by omega)]) | fail
                    try simp only [Act.put, List.setIfInBounds_toArray, List.set_cons_zero, List.set_cons_succ]
                    first | refine upto_run 1 (v := ?_) hU0 (by kernel_rfl) rfl (by kernel_rfl) (by kernel_rfl) (by kernel_rfl) (by kernel_rfl) (fun _ _ _ h => h) (Or.inl ⟨by rfl, ?_⟩) ?_ | fail
                    rotate_left
                    focus first | (intro w _; go_simp; with_reducible rfl) | (intro w _; go_simp; done) | (intro w _; go_simp; rw [if_neg (by omega)]) | fail
                    try simp only [Act.put, List.setIfInBounds_toArray, List.set_cons_zero, List.set_cons_succ]
                    first | refine upto_run 2 (v := ?_) hU0 (by kernel_rfl) rfl (by kernel_rfl) (by kernel_rfl) (by kernel_rfl) (by kernel_rfl) (fun _ _ _ h => h) (Or.inl ⟨by rfl, ?_⟩) ?_ | fail
                    rotate_left
                    focus first | (intro w _; go_simp; with_reducible rfl) | (intro w _; go_simp; done) | (intro w _; go_simp; rw [if_neg (by omega)]) | fail
                    try simp only [Act.put, List.setIfInBounds_toArray, List.set_cons_zero, List.set_cons_succ]
                    first | refine upto_run 3 (v := ?_) hU0 (by kernel_rfl) rfl (by kernel_rfl) (by kernel_rfl) (by kernel_rfl) (by kernel_rfl) (fun _ _ _ h => h) (Or.inl ⟨by rfl, ?_⟩) ?_ | fail
                    rotate_left
                    focus first | (intro w _; go_simp; with_reducible rfl) | (intro w _; go_simp; done) | (intro w _; go_simp; rw [if_neg (by omega)]) | fail
                    try simp only [Act.put, List.setIfInBounds_toArray, List.set_cons_zero, List.set_cons_succ]
                    first | refine upto_read 4 (v := ?_) hU0 (by kernel_rfl) rfl (by kernel_rfl) (by kernel_rfl) (by kernel_rfl) (by kernel_rfl) (by kernel_rfl) (fun _ _ _ h => h) (Or.inl ⟨by rfl, ?_⟩) ?_ | fail
                    rotate_left
                    focus first | (intro w hSw; (try dsimp only at hSw); go_simp; with_reducible rfl) | (intro w hSw; (try dsimp only at hSw); go_simp; done) | fail
                    try simp only [Act.put, List.setIfInBounds_toArray, List.set_cons_zero, List.set_cons_succ]
                    first | refine upto_run 5 (v := ?_) hU0 (by kernel_rfl) rfl (by kernel_rfl) (by kernel_rfl) (by kernel_rfl) (by kernel_rfl) (fun _ _ _ h => h) (Or.inl ⟨by rfl, ?_⟩) ?_ | fail
                    rotate_left
                    focus first | (intro w _; go_simp; with_reducible rfl) | (intro w _; go_simp; done) | (intro w _; go_simp; rw [if_neg (by omega)]) | fail
                    try simp only [Act.put, List.setIfInBounds_toArray, List.set_cons_zero, List.set_cons_succ]
                    first | refine upto_run 6 (v := ?_) hU0 (by kernel_rfl) rfl (by kernel_rfl) (by kernel_rfl) (by kernel_rfl) (by kernel_rfl) (fun _ _ _ h => h) (Or.inl ⟨by rfl, ?_⟩) ?_ | fail
                    rotate_left
                    focus first | (intro w _; go_simp; with_reducible rfl) | (intro w _; go_simp; done) | (intro w _; go_simp; rw [if_neg (by omega)]) | fail
                    try simp only [Act.put, List.setIfInBounds_toArray, List.set_cons_zero, List.set_cons_succ]
                    first | refine upto_run 7 (v := ?_) hU0 (by kernel_rfl) rfl (by kernel_rfl) (by kernel_rfl) (by kernel_rfl) (by kernel_rfl) (fun _ _ _ h => h) (Or.inl ⟨by rfl, ?_⟩) ?_ | fail
                    rotate_left
                    focus first | (intro w _; go_simp; with_reducible rfl) | (intro w _; go_simp; done) | (intro w _; go_simp; rw [if_neg (by omega)]) | fail
                    try simp only [Act.put, List.setIfInBounds_toArray, List.set_cons_zero, List.set_cons_succ]
                    first | refine upto_read 8 (v := ?_) hU0 (by kernel_rfl) rfl (by kernel_rfl) (by kernel_rfl) (by kernel_rfl) (by kernel_rfl) (by kernel_rfl) (fun _ _ _ h => h) (Or.inl ⟨by rfl, ?_⟩) ?_ | fail
                    rotate_left
                    focus first | (intro w hSw; (try dsimp only at hSw); go_simp; with_reducible rfl) | (intro w hSw; (try dsimp only at hSw); go_simp; done) | fail
                    try simp only [Act.put, List.setIfInBounds_toArray, List.set_cons_zero, List.set_cons_succ]
                    first | refine upto_run 9 (v := ?_) hU0 (by kernel_rfl) rfl (by kernel_rfl) (by kernel_rfl) (by kernel_rfl) (by kernel_rfl) (fun _ _ _ h => h) (Or.inl ⟨by rfl, ?_⟩) ?_ | fail
                    rotate_left
                    focus first | (intro w _; go_simp; with_reducible rfl) | (intro w _; go_simp; done) | (intro w _; go_simp; rw [if_neg (by omega)]) | fail
                    try simp only [Act.put, List.setIfInBounds_toArray, List.set_cons_zero, List.set_cons_succ]
                    first | refine upto_run 10 (v := ?_) hU0 (by kernel_rfl) rfl (by kernel_rfl) (by kernel_rfl) (by kernel_rfl) (by kernel_rfl) (fun _ _ _ h => h) (Or.inl ⟨by rfl, ?_⟩) ?_ | fail
                    rotate_left
                    focus first | (intro w _; go_simp; with_reducible rfl) | (intro w _; go_simp; done) | (intro w _; go_simp; rw [if_neg (by omega)]) | fail
                    try simp only [Act.put, List.setIfInBounds_toArray, List.set_cons_zero, List.set_cons_succ]
                    first | refine upto_run 11 (v := ?_) hU0 (by kernel_rfl) rfl (by kernel_rfl) (by kernel_rfl) (by kernel_rfl) (by kernel_rfl) (fun _ _ _ h => h) (Or.inl ⟨by rfl, ?_⟩) ?_ | fail
                    rotate_left
                    focus first | (intro w _; go_simp; with_reducible rfl) | (intro w _; go_simp; done) | (intro w _; go_simp; rw [if_neg (by omega)]) | fail
                    try simp only [Act.put, List.setIfInBounds_toArray, List.set_cons_zero, List.set_cons_succ]
                    refine upto_run 12 (v := undef) hU0 (by kernel_rfl) rfl (by kernel_rfl) (by kernel_rfl) (by kernel_rfl) (by kernel_rfl) (fun _ _ _ h => h) (Or.inr ⟨by rfl, rfl⟩) ?_
                    try simp only [Act.put, List.setIfInBounds_toArray, List.set_cons_zero, List.set_cons_succ]
                    refine upto_run 13 (v := undef) hU0 (by kernel_rfl) rfl (by kernel_rfl) (by kernel_rfl) (by kernel_rfl) (by kernel_rfl) (fun _ _ _ h => h) (Or.inr ⟨by rfl, rfl⟩) ?_
                    try simp only [Act.put, List.setIfInBounds_toArray, List.set_cons_zero, List.set_cons_succ]
                    refine upto_run 14 (v := undef) hU0 (by kernel_rfl) rfl (by kernel_rfl) (by kernel_rfl) (by kernel_rfl) (by kernel_rfl) (fun _ _ _ h => h) (Or.inr ⟨by rfl, rfl⟩) ?_
                    try simp only [Act.put, List.setIfInBounds_toArray, List.set_cons_zero, List.set_cons_succ]
                    refine upto_run 15 (v := undef) hU0 (by kernel_rfl) rfl (by kernel_rfl) (by kernel_rfl) (by kernel_rfl) (by kernel_rfl) (fun _ _ _ h => h) (Or.inr ⟨by rfl, rfl⟩) ?_
                    try simp only [Act.put, List.setIfInBounds_toArray, List.set_cons_zero, List.set_cons_succ]
                    refine upto_run 16 (v := undef) hU0 (by kernel_rfl) rfl (by kernel_rfl) (by kernel_rfl) (by kernel_rfl) (by kernel_rfl) (fun _ _ _ h => h) (Or.inr ⟨by rfl, rfl⟩) ?_
                    try simp only [Act.put, List.setIfInBounds_toArray, List.set_cons_zero, List.set_cons_succ]
                    refine upto_run 17 (v := undef) hU0 (by kernel_rfl) rfl (by kernel_rfl) (by kernel_rfl) (by kernel_rfl) (by kernel_rfl) (fun _ _ _ h => h) (Or.inr ⟨by rfl, rfl⟩) ?_
                    try simp only [Act.put, List.setIfInBounds_toArray, List.set_cons_zero, List.set_cons_succ]
                    refine upto_run 18 (v := undef) hU0 (by kernel_rfl) rfl (by kernel_rfl) (by kernel_rfl) (by kernel_rfl) (by kernel_rfl) (fun _ _ _ h => h) (Or.inr ⟨by rfl, rfl⟩) ?_
                    try simp only [Act.put, List.setIfInBounds_toArray, List.set_cons_zero, List.set_cons_succ]
                    refine upto_run 19 (v := undef) hU0 (by kernel_rfl) rfl (by kernel_rfl) (by kernel_rfl) (by kernel_rfl) (by kernel_rfl) (fun _ _ _ h => h) (Or.inr ⟨by rfl, rfl⟩) ?_
                    try simp only [Act.put, List.setIfInBounds_toArray, List.set_cons_zero, List.set_cons_succ]
                    refine upto_run 20 (v := undef) hU0 (by kernel_rfl) rfl (by kernel_rfl) (by kernel_rfl) (by kernel_rfl) (by kernel_rfl) (fun _ _ _ h => h) (Or.inr ⟨by rfl, rfl⟩) ?_
                    try simp only [Act.put, List.setIfInBounds_toArray, List.set_cons_zero, List.set_cons_succ]
                    refine upto_run 21 (v := undef) hU0 (by kernel_rfl) rfl (by kernel_rfl) (by kernel_rfl) (by kernel_rfl) (by kernel_rfl) (fun _ _ _ h => h) (Or.inr ⟨by rfl, rfl⟩) ?_
                    try simp only [Act.put, List.setIfInBounds_toArray, List.set_cons_zero, List.set_cons_succ]
                    refine upto_run 22 (v := undef) hU0 (by kernel_rfl) rfl (by kernel_rfl) (by kernel_rfl) (by kernel_rfl) (by kernel_rfl) (fun _ _ _ h => h) (Or.inr ⟨by rfl, rfl⟩) ?_
                    try simp only [Act.put, List.setIfInBounds_toArray, List.set_cons_zero, List.set_cons_succ]
                    refine upto_run 23 (v := undef) hU0 (by kernel_rfl) rfl (by kernel_rfl) (by kernel_rfl) (by kernel_rfl) (by kernel_rfl) (fun _ _ _ h => h) (Or.inr ⟨by rfl, rfl⟩) ?_
                    try simp only [Act.put, List.setIfInBounds_toArray, List.set_cons_zero, List.set_cons_succ]
                    refine upto_run 24 (v := undef) hU0 (by kernel_rfl) rfl (by kernel_rfl) (by kernel_rfl) (by kernel_rfl) (by kernel_rfl) (fun _ _ _ h => h) (Or.inr ⟨by rfl, rfl⟩) ?_
                    try simp only [Act.put, List.setIfInBounds_toArray, List.set_cons_zero, List.set_cons_succ]
                    refine upto_run 25 (v := undef) hU0 (by kernel_rfl) rfl (by kernel_rfl) (by kernel_rfl) (by kernel_rfl) (by kernel_rfl) (fun _ _ _ h => h) (Or.inr ⟨by rfl, rfl⟩) ?_
                    try simp only [Act.put, List.setIfInBounds_toArray, List.set_cons_zero, List.set_cons_succ]
                    first | refine upto_run 26 (v := ?_) hU0 (by kernel_rfl) rfl (by kernel_rfl) (by kernel_rfl) (by kernel_rfl) (by kernel_rfl) (fun _ _ _ h => h) (Or.inl ⟨by rfl, ?_⟩) ?_ | fail
                    rotate_left
                    focus first | (intro w _; go_simp; with_reducible rfl) | (intro w _; go_simp; done) | (intro w _; go_simp; rw [if_neg (by omega)]) | fail
                    try simp only [Act.put, List.setIfInBounds_toArray, List.set_cons_zero, List.set_cons_succ]
                    first | refine upto_next 27 rfl (by kernel_rfl) (fun K hK => ?_) | fail
                    go_simp
                    first | refine hK.out _ _ ?_ (fun hU1 => ?_) | (go_wp2_with fail; refine hK.out _ _ ?_ (fun hU1 => ?_)) | fail
                    · exact Or.inr ⟨later y3 hbA, later y0 hbA⟩
                    clear hK K
                    clear hU0
                    try simp only [Act.put, List.setIfInBounds_toArray, List.set_cons_zero, List.set_cons_succ]
                    first | refine upto_next 28 rfl (by kernel_rfl) (fun K hK => ?_) | fail
                    refine step_append_run2 rfl (.tmp 105) (.tmp 128) 41 41 rfl _ _ _ _ rfl rfl HRr ?_
                    first | refine hK.out _ _ ?_ (fun hU2 => ?_) | (go_wp2_with fail; refine hK.out _ _ ?_ (fun hU2 => ?_)) | fail
                    · exact Or.inr ⟨f3, f0⟩
                    clear hK K
                    clear hU1
                    try simp only [Act.put, List.setIfInBounds_toArray, List.set_cons_zero, List.set_cons_succ]
                    first | refine upto_run 29 (v := ?_) hU2 (by kernel_rfl) rfl (by kernel_rfl) (by kernel_rfl) (by kernel_rfl) (by kernel_rfl) (fun _ _ _ h => h) (Or.inl ⟨by rfl, ?_⟩) ?_ | fail
                    rotate_left
                    focus first | (intro w _; go_simp; with_reducible rfl) | (intro w _; go_simp; done) | (intro w _; go_simp; rw [if_neg (by omega)]) | fail
                    try simp only [Act.put, List.setIfInBounds_toArray, List.set_cons_zero, List.set_cons_succ]
                    first | refine upto_run 30 (v := ?_) hU2 (by kernel_rfl) rfl (by kernel_rfl) (by kernel_rfl) (by kernel_rfl) (by kernel_rfl) (fun _ _ _ h => h) (Or.inl ⟨by rfl, ?_⟩) ?_ | fail
                    rotate_left
                    focus first | (intro w _; go_simp; with_reducible rfl) | (intro w _; go_simp; done) | (intro w _; go_simp; rw [if_neg (by omega)]) | fail
                    try simp only [Act.put, List.setIfInBounds_toArray, List.set_cons_zero, List.set_cons_succ]
                    first | refine upto_next 31 rfl (by kernel_rfl) (fun K hK => ?_) | fail
                    go_simp
                    first | refine hK.out _ _ ?_ (fun hU3 => ?_) | (go_wp2_with fail; refine hK.out _ _ ?_ (fun hU3 => ?_)) | fail
                    · exact Or.inl (by kernel_rfl)
                    clear hK K
                    clear hU2
                    try simp only [Act.put, List.setIfInBounds_toArray, List.set_cons_zero, List.set_cons_succ]
                    refine upto_done (by kernel_rfl) ?_ _
                    have HM8 := Lib.hid ((HMt.out.later (Below.drew (Below.refl _ _))).putS HB7.out HK7.out HS7.out)
                    have HZ8 := Lib.hid ((kpT_set (j := 3) H7.out (.slice As2 (ss.length + 1) cs2)).cells (HK7.out.cells (show (wt.drew).heap[gz]? = _ from blk_below HXt.out (Below.drew (Below.refl _ _))) (by decide)) (by decide))
                    obtain ⟨w8, hw8⟩ : ∃ z, z = w7.setCell ⟨gi, 3, none⟩ (.slice As2 (ss.length + 1) cs2) := ⟨_, rfl⟩
                    rw [← hw8] at HM8 HZ8 ⊢
                    clear hw8 f0 f3 f3f fl y0 y3 yl HRr hbA HK7 HB7 HS7 H7 HMt HXt
                    have hPX := RowX.push (HM8.out.later (Below.drew (Below.refl _ _))).rx HM8.out.lk.bel.size xk w8.drew.heap.size rfl HNL2.out
                    obtain ⟨vc2, w9, hr, hrs, hb9, hk9, hg9⟩ := hPX
                    have HZ9 := Lib.hid ((hg9.block gz (show gz < w8.drew.heap.size from blk_lt HZ8.out) (fun e => HNE.out e.symm)).trans (show w8.drew.heap[gz]? = _ from HZ8.out))
                    obtain ⟨Av2, cv2, hvc2⟩ := hrs.slice
                    rw [List.length_append, List.length_singleton] at hvc2
                    subst hvc2
                    have HRr := hr
                    have hbA : Below w8.heap.size w8 (w8.drew.alloc (.cells #[.int .i64 xk.op, .int .i64 xk.dst, .int .i64 xk.src, .int .i64 xk.imm, .int .i64 xk.size, .bool xk.signed, .int .i64 xk.cond, .string xk.to_] 28)) := below_alloc _ (Below.drew (Below.refl _ _))
                    have HM9 := Lib.hid ((HM8.out.later (Below.drew (Below.refl _ _))).putX hb9 hk9 hrs)
                    have H9 := Lib.hid (hk9.cells (show w8.drew.heap[gi]? = _ from HM8.out.img.box) (by decide))
                    have y0 := blk_cell (i := 0) HM8.out.img.box rfl
                    have f0 := blk_cell (i := 0) H9.out rfl
                    have f0f : w9.frozen? ⟨gi, 0, none⟩ = false := blk_free H9.out
                    have fl := blk_lt H9.out
                    have yl := blk_lt HM8.out.img.box
                    have z0 := blk_cell (i := 0) HZ8.out rfl
                    have z1 := blk_cell (i := 1) HZ8.out rfl
                    have z2 := blk_cell (i := 2) HZ8.out rfl
                    have z3 := blk_cell (i := 3) HZ8.out rfl
                    have z4 := blk_cell (i := 4) HZ8.out rfl
                    have z5 := blk_cell (i := 5) HZ8.out rfl
                    have z6 := blk_cell (i := 6) HZ8.out rfl
                    have z7 := blk_cell (i := 7) HZ8.out rfl
                    have zl := blk_lt HZ8.out
                    clear hr hrs hb9 hk9 hg9
                    go_upto_region 28 with (fail)
                    refine upto_begin 10 (fun w' => w'.cell? ⟨gi, 0, none⟩ = some (.slice Av 0 cv) ∧ w'.cell? ⟨gz, 0, none⟩ = some (.int .i64 xk.op) ∧ w'.cell? ⟨gz, 1, none⟩ = some (.int .i64 xk.dst) ∧ w'.cell? ⟨gz, 2, none⟩ = some (.int .i64 xk.src) ∧ w'.cell? ⟨gz, 3, none⟩ = some (.int .i64 xk.imm) ∧ w'.cell? ⟨gz, 4, none⟩ = some (.int .i64 xk.size) ∧ w'.cell? ⟨gz, 5, none⟩ = some (.bool xk.signed) ∧ w'.cell? ⟨gz, 6, none⟩ = some (.int .i64 xk.cond) ∧ w'.cell? ⟨gz, 7, none⟩ = some (.string xk.to_)) (by kernel_rfl) ?_ (fun hU0 => ?_)
                    · exact ⟨y0, z0, z1, z2, z3, z4, z5, z6, z7⟩
                    first | refine upto_run 0 (v := ?_) hU0 (by kernel_rfl) rfl (by kernel_rfl) (by kernel_rfl) (by kernel_rfl) (by kernel_rfl) (fun _ _ _ h => h) (Or.inl ⟨by rfl, ?_⟩) ?_ | fail
                    rotate_left
                    focus first | (intro w _; go_simp; with_reducible rfl) | (intro w _; go_simp; done) | (intro w _; go_simp; rw [if_neg (by omega)]) | fail
                    try simp only [Act.put, List.setIfInBounds_toArray, List.set_cons_zero, List.set_cons_succ]
                    first | refine upto_run 1 (v := ?_) hU0 (by kernel_rfl) rfl (by kernel_rfl) (by kernel_rfl) (by kernel_rfl) (by kernel_rfl) (fun _ _ _ h => h) (Or.inl ⟨by rfl, ?_⟩) ?_ | fail
                    rotate_left
                    focus first | (intro w _; go_simp; with_reducible rfl) | (intro w _; go_simp; done) | (intro w _; go_simp; rw [if_neg (by omega)]) | fail
                    try simp only [Act.put, List.setIfInBounds_toArray, List.set_cons_zero, List.set_cons_succ]
                    first | refine upto_run 2 (v := ?_) hU0 (by kernel_rfl) rfl (by kernel_rfl) (by kernel_rfl) (by kernel_rfl) (by kernel_rfl) (fun _ _ _ h => h) (Or.inl ⟨by rfl, ?_⟩) ?_ | fail
                    rotate_left
                    focus first | (intro w _; go_simp; with_reducible rfl) | (intro w _; go_simp; done) | (intro w _; go_simp; rw [if_neg (by omega)]) | fail
                    try simp only [Act.put, List.setIfInBounds_toArray, List.set_cons_zero, List.set_cons_succ]
                    first | refine upto_run 3 (v := ?_) hU0 (by kernel_rfl) rfl (by kernel_rfl) (by kernel_rfl) (by kernel_rfl) (by kernel_rfl) (fun _ _ _ h => h) (Or.inl ⟨by rfl, ?_⟩) ?_ | fail
                    rotate_left
                    focus first | (intro w _; go_simp; with_reducible rfl) | (intro w _; go_simp; done) | (intro w _; go_simp; rw [if_neg (by omega)]) | fail
                    try simp only [Act.put, List.setIfInBounds_toArray, List.set_cons_zero, List.set_cons_succ]
                    first | refine upto_read 4 (v := ?_) hU0 (by kernel_rfl) rfl (by kernel_rfl) (by kernel_rfl) (by kernel_rfl) (by kernel_rfl) (by kernel_rfl) (fun _ _ _ h => h) (Or.inl ⟨by rfl, ?_⟩) ?_ | fail
                    rotate_left
                    focus first | (intro w hSw; (try dsimp only at hSw); go_simp; with_reducible rfl) | (intro w hSw; (try dsimp only at hSw); go_simp; done) | fail
                    try simp only [Act.put, List.setIfInBounds_toArray, List.set_cons_zero, List.set_cons_succ]
                    first | refine upto_read 5 (v := ?_) hU0 (by kernel_rfl) rfl (by kernel_rfl) (by kernel_rfl) (by kernel_rfl) (by kernel_rfl) (by kernel_rfl) (fun _ _ _ h => h) (Or.inl ⟨by rfl, ?_⟩) ?_ | fail
                    rotate_left
                    focus first | (intro w hSw; (try dsimp only at hSw); go_simp; with_reducible rfl) | (intro w hSw; (try dsimp only at hSw); go_simp; done) | fail
                    try simp only [Act.put, List.setIfInBounds_toArray, List.set_cons_zero, List.set_cons_succ]
                    first | refine upto_next 6 rfl (by kernel_rfl) (fun K hK => ?_) | fail
                    go_simp
                    first | refine hK.out _ _ ?_ (fun hU1 => ?_) | (go_wp2_with fail; refine hK.out _ _ ?_ (fun hU1 => ?_)) | fail
                    · exact Or.inr ⟨later y0 hbA, later z0 hbA, later z1 hbA, later z2 hbA, later z3 hbA, later z4 hbA, later z5 hbA, later z6 hbA, later z7 hbA⟩
                    clear hK K
                    clear hU0
                    try simp only [Act.put, List.setIfInBounds_toArray, List.set_cons_zero, List.set_cons_succ]
                    first | refine upto_next 7 rfl (by kernel_rfl) (fun K hK => ?_) | fail
                    refine step_append_run2 rfl (.tmp 136) (.tmp 138) 40 40 rfl _ _ _ _ rfl rfl HRr ?_
                    first | refine hK.out _ _ ?_ (fun hU2 => ?_) | (go_wp2_with fail; refine hK.out _ _ ?_ (fun hU2 => ?_)) | fail
                    · exact Or.inr ⟨f0, blk_cell HZ9.out rfl, blk_cell HZ9.out rfl, blk_cell HZ9.out rfl, blk_cell HZ9.out rfl, blk_cell HZ9.out rfl, blk_cell HZ9.out rfl, blk_cell HZ9.out rfl, blk_cell HZ9.out rfl⟩
                    clear hK K
                    clear hU1
                    try simp only [Act.put, List.setIfInBounds_toArray, List.set_cons_zero, List.set_cons_succ]
                    first | refine upto_run 8 (v := ?_) hU2 (by kernel_rfl) rfl (by kernel_rfl) (by kernel_rfl) (by kernel_rfl) (by kernel_rfl) (fun _ _ _ h => h) (Or.inl ⟨by rfl, ?_⟩) ?_ | fail
                    rotate_left
                    focus first | (intro w _; go_simp; with_reducible rfl) | (intro w _; go_simp; done) | (intro w _; go_simp; rw [if_neg (by omega)]) | fail
                    try simp only [Act.put, List.setIfInBounds_toArray, List.set_cons_zero, List.set_cons_succ]
                    first | refine upto_run 9 (v := ?_) hU2 (by kernel_rfl) rfl (by kernel_rfl) (by kernel_rfl) (by kernel_rfl) (by kernel_rfl) (fun _ _ _ h => h) (Or.inl ⟨by rfl, ?_⟩) ?_ | fail
                    rotate_left
                    focus first | (intro w _; go_simp; with_reducible rfl) | (intro w _; go_simp; done) | (intro w _; go_simp; rw [if_neg (by omega)]) | fail
                    try simp only [Act.put, List.setIfInBounds_toArray, List.set_cons_zero, List.set_cons_succ]
                    first | refine upto_next 10 rfl (by kernel_rfl) (fun K hK => ?_) | fail
                    go_simp
                    first | refine hK.out _ _ ?_ (fun hU3 => ?_) | (go_wp2_with fail; refine hK.out _ _ ?_ (fun hU3 => ?_)) | fail
                    · exact Or.inl (by kernel_rfl)
                    clear hK K
                    clear hU2
                    try simp only [Act.put, List.setIfInBounds_toArray, List.set_cons_zero, List.set_cons_succ]
                    refine upto_done (by kernel_rfl) ?_ _
                    clear f0 f0f fl yl y0 z0 z1 z2 z3 z4 z5 z6 z7 zl HRr hbA
                    go_wp2_with fail
                    go_roundw
                    case rel =>
                      refine ⟨j + 1, xs ++ [xk], ss ++ [false], _, _, by omega, by go_num, by have := HXL.out; simp; omega, by have := HSL.out; simp; omega, ?_, HM9.out⟩
                      rw [HSd.out, HE.out]
                      unfold lnPut
                      rw [HLC.out]
                    case measure => simp [intOf]; omega
                  · obtain ⟨k, hk⟩ : ∃ k, nx = k + 1 := ⟨nx - 1, by
                      have h1 : xs.length ≠ 0 := fun e => hx0 (List.eq_nil_of_length_eq_zero e)
                      have := HNX.out
                      omega⟩
                    subst hk
                    obtain ⟨l, hl⟩ : ∃ l, xs[k]? = some l := ⟨_, List.getElem?_eq_getElem (by have := HNX.out; omega)⟩
                    have HL := Lib.hid hl
                    have HLC := Lib.hid (lastCall_at HNX.out.symm hl)
                    obtain ⟨gv, rfl, yo, hkc⟩ := RowX.last HMt.out.rx HNX.out.symm hl
                    have HPS := Lib.hid (fun (W : World) (hb : Below wt.heap.size wt W) => RowS.push (HMt.out.later hb).rs (HMt.out.later hb).lk.bel.size (callsB l.op) W.heap.size rfl HNL.out)
                    have yol := World.block_lt_of_cell? _ _ yo
                    have hkb : k ≤ 1000000000 := by have h1 := HNX.out; have h2 := HNL2.out; omega
                    clear hl hx0
                    refine upto_begin 31 (fun w' => w'.cell? ⟨gi, 3, none⟩ = some (.slice As ns cs9) ∧ w'.cell? ⟨gi, 0, none⟩ = some (.slice (some ⟨gv, 0, none⟩) (k + 1) cv) ∧ w'.cell? ⟨gv, k * 8, none⟩ = some (.int .i64 l.op)) (by kernel_rfl) ?_ (fun hU0 => ?_)
                    · exact ⟨y3, y0, yo⟩
                    first | refine upto_run 0 (v := ?_) hU0 (by kernel_rfl) rfl (by kernel_rfl) (by kernel_rfl) (by kernel_rfl) (by kernel_rfl) (fun _ _ _ h => h) (Or.inl ⟨by rfl, ?_⟩) ?_ | fail
                    rotate_left
                    focus first | (intro w _; go_simp; with_reducible rfl) | (intro w _; go_simp; done) | (intro w _; go_simp; rw [if_neg (by omega)]) | fail
                    try simp only [Act.put, List.setIfInBounds_toArray, List.set_cons_zero, List.set_cons_succ]
                    first | refine upto_run 1 (v := ?_) hU0 (by kernel_rfl) rfl (by kernel_rfl) (by kernel_rfl) (by kernel_rfl) (by kernel_rfl) (fun _ _ _ h => h) (Or.inl ⟨by rfl, ?_⟩) ?_ | fail
                    rotate_left
                    focus first | (intro w _; go_simp; with_reducible rfl) | (intro w _; go_simp; done) | (intro w _; go_simp; rw [if_neg (by omega)]) | fail
                    try simp only [Act.put, List.setIfInBounds_toArray, List.set_cons_zero, List.set_cons_succ]
                    first | refine upto_run 2 (v := ?_) hU0 (by kernel_rfl) rfl (by kernel_rfl) (by kernel_rfl) (by kernel_rfl) (by kernel_rfl) (fun _ _ _ h => h) (Or.inl ⟨by rfl, ?_⟩) ?_ | fail
                    rotate_left
                    focus first | (intro w _; go_simp; with_reducible rfl) | (intro w _; go_simp; done) | (intro w _; go_simp; rw [if_neg (by omega)]) | fail
                    try simp only [Act.put, List.setIfInBounds_toArray, List.set_cons_zero, List.set_cons_succ]
                    first | refine upto_run 3 (v := ?_) hU0 (by kernel_rfl) rfl (by kernel_rfl) (by kernel_rfl) (by kernel_rfl) (by kernel_rfl) (fun _ _ _ h => h) (Or.inl ⟨by rfl, ?_⟩) ?_ | fail
                    rotate_left
                    focus first | (intro w _; go_simp; with_reducible rfl) | (intro w _; go_simp; done) | (intro w _; go_simp; rw [if_neg (by omega)]) | fail
                    try simp only [Act.put, List.setIfInBounds_toArray, List.set_cons_zero, List.set_cons_succ]
                    first | refine upto_read 4 (v := ?_) hU0 (by kernel_rfl) rfl (by kernel_rfl) (by kernel_rfl) (by kernel_rfl) (by kernel_rfl) (by kernel_rfl) (fun _ _ _ h => h) (Or.inl ⟨by rfl, ?_⟩) ?_ | fail
                    rotate_left
                    focus first | (intro w hSw; (try dsimp only at hSw); go_simp; with_reducible rfl) | (intro w hSw; (try dsimp only at hSw); go_simp; done) | fail
                    try simp only [Act.put, List.setIfInBounds_toArray, List.set_cons_zero, List.set_cons_succ]
                    first | refine upto_run 5 (v := ?_) hU0 (by kernel_rfl) rfl (by kernel_rfl) (by kernel_rfl) (by kernel_rfl) (by kernel_rfl) (fun _ _ _ h => h) (Or.inl ⟨by rfl, ?_⟩) ?_ | fail
                    rotate_left
                    focus first | (intro w _; go_simp; with_reducible rfl) | (intro w _; go_simp; done) | (intro w _; go_simp; rw [if_neg (by omega)]) | fail
                    try simp only [Act.put, List.setIfInBounds_toArray, List.set_cons_zero, List.set_cons_succ]
                    first | refine upto_run 6 (v := ?_) hU0 (by kernel_rfl) rfl (by kernel_rfl) (by kernel_rfl) (by kernel_rfl) (by kernel_rfl) (fun _ _ _ h => h) (Or.inl ⟨by rfl, ?_⟩) ?_ | fail
                    rotate_left
                    focus first | (intro w _; go_simp; with_reducible rfl) | (intro w _; go_simp; done) | (intro w _; go_simp; rw [if_neg (by omega)]) | fail
                    try simp only [Act.put, List.setIfInBounds_toArray, List.set_cons_zero, List.set_cons_succ]
                    first | refine upto_run 7 (v := ?_) hU0 (by kernel_rfl) rfl (by kernel_rfl) (by kernel_rfl) (by kernel_rfl) (by kernel_rfl) (fun _ _ _ h => h) (Or.inl ⟨by rfl, ?_⟩) ?_ | fail
                    rotate_left
                    focus first | (intro w _; go_simp; with_reducible rfl) | (intro w _; go_simp; done) | (intro w _; go_simp; rw [if_neg (by omega)]) | fail
                    try simp only [Act.put, List.setIfInBounds_toArray, List.set_cons_zero, List.set_cons_succ]
                    first | refine upto_read 8 (v := ?_) hU0 (by kernel_rfl) rfl (by kernel_rfl) (by kernel_rfl) (by kernel_rfl) (by kernel_rfl) (by kernel_rfl) (fun _ _ _ h => h) (Or.inl ⟨by rfl, ?_⟩) ?_ | fail
                    rotate_left
                    focus first | (intro w hSw; (try dsimp only at hSw); go_simp; with_reducible rfl) | (intro w hSw; (try dsimp only at hSw); go_simp; done) | fail
                    try simp only [Act.put, List.setIfInBounds_toArray, List.set_cons_zero, List.set_cons_succ]
                    first | refine upto_run 9 (v := ?_) hU0 (by kernel_rfl) rfl (by kernel_rfl) (by kernel_rfl) (by kernel_rfl) (by kernel_rfl) (fun _ _ _ h => h) (Or.inl ⟨by rfl, ?_⟩) ?_ | fail
                    rotate_left
                    focus first | (intro w _; go_simp; with_reducible rfl) | (intro w _; go_simp; done) | (intro w _; go_simp; rw [if_neg (by omega)]) | fail
                    try simp only [Act.put, List.setIfInBounds_toArray, List.set_cons_zero, List.set_cons_succ]
                    first | refine upto_run 10 (v := ?_) hU0 (by kernel_rfl) rfl (by kernel_rfl) (by kernel_rfl) (by kernel_rfl) (by kernel_rfl) (fun _ _ _ h => h) (Or.inl ⟨by rfl, ?_⟩) ?_ | fail
                    rotate_left
                    focus first | (intro w _; go_simp; with_reducible rfl) | (intro w _; go_simp; done) | (intro w _; go_simp; rw [if_neg (by omega)]) | fail
                    try simp only [Act.put, List.setIfInBounds_toArray, List.set_cons_zero, List.set_cons_succ]
                    first | refine upto_run 11 (v := ?_) hU0 (by kernel_rfl) rfl (by kernel_rfl) (by kernel_rfl) (by kernel_rfl) (by kernel_rfl) (fun _ _ _ h => h) (Or.inl ⟨by rfl, ?_⟩) ?_ | fail
                    rotate_left
                    focus first | (intro w _; go_simp; with_reducible rfl) | (intro w _; go_simp; done) | (intro w _; go_simp; rw [if_neg (by omega)]) | fail
                    try simp only [Act.put, List.setIfInBounds_toArray, List.set_cons_zero, List.set_cons_succ]
                    first | refine upto_run 12 (v := ?_) hU0 (by kernel_rfl) rfl (by kernel_rfl) (by kernel_rfl) (by kernel_rfl) (by kernel_rfl) (fun _ _ _ h => h) (Or.inl ⟨by rfl, ?_⟩) ?_ | fail
                    rotate_left
                    focus first | (intro w _; go_simp; with_reducible rfl) | (intro w _; go_simp; done) | (intro w _; go_simp; rw [if_neg (by omega)]) | fail
                    try simp only [Act.put, List.setIfInBounds_toArray, List.set_cons_zero, List.set_cons_succ]
                    first | refine upto_run 13 (v := ?_) hU0 (by kernel_rfl) rfl (by kernel_rfl) (by kernel_rfl) (by kernel_rfl) (by kernel_rfl) (fun _ _ _ h => h) (Or.inl ⟨by rfl, ?_⟩) ?_ | fail
                    rotate_left
                    focus first | (intro w _; go_simp; with_reducible rfl) | (intro w _; go_simp; done) | (intro w _; go_simp; rw [if_neg (by omega)]) | fail
                    try simp only [Act.put, List.setIfInBounds_toArray, List.set_cons_zero, List.set_cons_succ]
                    first | refine upto_run 14 (v := ?_) hU0 (by kernel_rfl) rfl (by kernel_rfl) (by kernel_rfl) (by kernel_rfl) (by kernel_rfl) (fun _ _ _ h => h) (Or.inl ⟨by rfl, ?_⟩) ?_ | fail
                    rotate_left
                    focus first | (intro w _; go_simp; with_reducible rfl) | (intro w _; go_simp; done) | (intro w _; go_simp; rw [if_neg (by omega)]) | fail
                    try simp only [Act.put, List.setIfInBounds_toArray, List.set_cons_zero, List.set_cons_succ]
                    first | refine upto_read 15 (v := ?_) hU0 (by kernel_rfl) rfl (by kernel_rfl) (by kernel_rfl) (by kernel_rfl) (by kernel_rfl) (by kernel_rfl) (fun _ _ _ h => h) (Or.inl ⟨by rfl, ?_⟩) ?_ | fail
                    rotate_left
                    focus first | (intro w hSw; (try dsimp only at hSw); go_simp; with_reducible rfl) | (intro w hSw; (try dsimp only at hSw); go_simp; done) | fail
                    try simp only [Act.put, List.setIfInBounds_toArray, List.set_cons_zero, List.set_cons_succ]
                    first | refine upto_run 16 (v := ?_) hU0 (by kernel_rfl) rfl (by kernel_rfl) (by kernel_rfl) (by kernel_rfl) (by kernel_rfl) (fun _ _ _ h => h) (Or.inl ⟨by rfl, ?_⟩) ?_ | fail
                    rotate_left
                    focus first | (intro w _; go_simp; with_reducible rfl) | (intro w _; go_simp; done) | (intro w _; go_simp; rw [if_neg (by omega)]) | fail
                    try simp only [Act.put, List.setIfInBounds_toArray, List.set_cons_zero, List.set_cons_succ]
                    first | refine upto_run 17 (v := ?_) hU0 (by kernel_rfl) rfl (by kernel_rfl) (by kernel_rfl) (by kernel_rfl) (by kernel_rfl) (fun _ _ _ h => h) (Or.inl ⟨by rfl, ?_⟩) ?_ | fail
                    rotate_left
                    focus first | (intro w _; go_simp; with_reducible rfl) | (intro w _; go_simp; done) | (intro w _; go_simp; rw [if_neg (by omega)]) | fail
                    try simp only [Act.put, List.setIfInBounds_toArray, List.set_cons_zero, List.set_cons_succ]
                    first | refine upto_run 18 (v := ?_) hU0 (by kernel_rfl) rfl (by kernel_rfl) (by kernel_rfl) (by kernel_rfl) (by kernel_rfl) (fun _ _ _ h => h) (Or.inl ⟨by rfl, ?_⟩) ?_ | fail
                    rotate_left
                    focus first | (intro w _; go_simp; with_reducible rfl) | (intro w _; go_simp; done) | (intro w _; go_simp; rw [if_neg (by omega)]) | fail
                    try simp only [Act.put, List.setIfInBounds_toArray, List.set_cons_zero, List.set_cons_succ]
                    first | refine upto_read 19 (v := ?_) hU0 (by kernel_rfl) rfl (by kernel_rfl) (by kernel_rfl) (by kernel_rfl) (by kernel_rfl) (by kernel_rfl) (fun _ _ _ h => h) (Or.inl ⟨by rfl, ?_⟩) ?_ | fail
                    rotate_left
                    focus first | (intro w hSw; (try dsimp only at hSw); go_simp; with_reducible rfl) | (intro w hSw; (try dsimp only at hSw); go_simp; done) | fail
                    try simp only [Act.put, List.setIfInBounds_toArray, List.set_cons_zero, List.set_cons_succ]
                    first | refine upto_run 20 (v := ?_) hU0 (by kernel_rfl) rfl (by kernel_rfl) (by kernel_rfl) (by kernel_rfl) (by kernel_rfl) (fun _ _ _ h => h) (Or.inl ⟨by rfl, ?_⟩) ?_ | fail
                    rotate_left
                    focus first | (intro w _; go_simp; with_reducible rfl) | (intro w _; go_simp; done) | (intro w _; go_simp; rw [if_neg (by omega)]) | fail
                    try simp only [Act.put, List.setIfInBounds_toArray, List.set_cons_zero, List.set_cons_succ]
                    first | refine upto_run 21 (v := .int .i64 (k : Int)) hU0 (by kernel_rfl) rfl (by kernel_rfl) (by kernel_rfl) (by kernel_rfl) (by kernel_rfl) (fun _ _ _ h => h) (Or.inl ⟨by rfl, ?_⟩) ?_ | fail
                    · intro w _
                      have hw := IntWalk.i64_in (k : Int) (by omega)
                      go_simp
                      try rw [hw]
                    try simp only [Act.put, List.setIfInBounds_toArray, List.set_cons_zero, List.set_cons_succ]
                    first | refine upto_run 22 (v := .pointer (some ⟨gv, k * 8, none⟩)) hU0 (by kernel_rfl) rfl (by kernel_rfl) (by kernel_rfl) (by kernel_rfl) (by kernel_rfl) (fun _ _ _ h => h) (Or.inl ⟨by rfl, ?_⟩) ?_ | fail
                    · intro w _
                      have hw := IntWalk.i64_in (k : Int) (by omega)
                      go_simp
                      intro h9
                      omega
                    try simp only [Act.put, List.setIfInBounds_toArray, List.set_cons_zero, List.set_cons_succ]
                    first | refine upto_run 23 (v := ?_) hU0 (by kernel_rfl) rfl (by kernel_rfl) (by kernel_rfl) (by kernel_rfl) (by kernel_rfl) (fun _ _ _ h => h) (Or.inl ⟨by rfl, ?_⟩) ?_ | fail
                    rotate_left
                    focus first | (intro w _; go_simp; with_reducible rfl) | (intro w _; go_simp; done) | (intro w _; go_simp; rw [if_neg (by omega)]) | fail
                    try simp only [Act.put, List.setIfInBounds_toArray, List.set_cons_zero, List.set_cons_succ]
                    first | refine upto_read 24 (v := ?_) hU0 (by kernel_rfl) rfl (by kernel_rfl) (by kernel_rfl) (by kernel_rfl) (by kernel_rfl) (by kernel_rfl) (fun _ _ _ h => h) (Or.inl ⟨by rfl, ?_⟩) ?_ | fail
                    rotate_left
                    focus first | (intro w hSw; (try dsimp only at hSw); go_simp; with_reducible rfl) | (intro w hSw; (try dsimp only at hSw); go_simp; done) | fail
                    try simp only [Act.put, List.setIfInBounds_toArray, List.set_cons_zero, List.set_cons_succ]
                    first | refine upto_next 25 rfl (by kernel_rfl) (fun K hK => ?_) | fail
                    go_simp
                    refine (calls_any _ l.op).mono ?_
                    rintro e wc ⟨rfl, hbc⟩
                    have hbW : Below wt.heap.size wt wc := by first | exact hbc | exact Below.trans (Below.drew (Below.refl _ _)) hbc
                    obtain ⟨vs2, w7, hr, hrs, hb7, hk7⟩ := HPS.out wc hbW
                    obtain ⟨As2, cs2, hvs2⟩ := hrs.slice
                    rw [List.length_append, List.length_singleton] at hvs2
                    subst hvs2
                    have HRr := hr
                    have hbA : Below wt.heap.size wt (wc.alloc (.cells #[.bool (callsB l.op)] 4)) := below_alloc _ hbW
                    have HK7 := Lib.hid hk7
                    have HB7 := Lib.hid hb7
                    have HS7 := Lib.hid hrs
                    have HBW := Lib.hid hbW
                    have H7 := Lib.hid (hk7.cells (HMt.out.later hbW).img.box (by decide))
                    have f0 := blk_cell (i := 0) H7.out rfl
                    have f3 := blk_cell (i := 3) H7.out rfl
                    have f3f : w7.frozen? ⟨gi, 3, none⟩ = false := blk_free H7.out
                    have fl := blk_lt H7.out
                    have fo : w7.cell? ⟨gv, k * 8, none⟩ = some (.int .i64 l.op) := by
                      obtain ⟨g9, h1, h2, _⟩ := RowX.last (hk7.own (HMt.out.later hbW).rx (by decide)) HNX.out.symm HL.out
                      cases h1
                      exact h2
                    clear hr hrs hb7 hk7
                    try go_simp
                    first | refine hK.out _ _ ?_ (fun hU1 => ?_) | (go_wp2_with fail; refine hK.out _ _ ?_ (fun hU1 => ?_)) | fail
                    · exact Or.inr ⟨later y3 hbW, later y0 hbW, later yo hbW⟩
                    clear hK K
                    clear hU0
                    try simp only [Act.put, List.setIfInBounds_toArray, List.set_cons_zero, List.set_cons_succ]
                    first | refine upto_run 26 (v := ?_) hU1 (by kernel_rfl) rfl (by kernel_rfl) (by kernel_rfl) (by kernel_rfl) (by kernel_rfl) (fun _ _ _ h => h) (Or.inl ⟨by rfl, ?_⟩) ?_ | fail
                    rotate_left
                    focus first | (intro w _; go_simp; with_reducible rfl) | (intro w _; go_simp; done) | (intro w _; go_simp; rw [if_neg (by omega)]) | fail
                    try simp only [Act.put, List.setIfInBounds_toArray, List.set_cons_zero, List.set_cons_succ]
                    first | refine upto_next 27 rfl (by kernel_rfl) (fun K hK => ?_) | fail
                    go_simp
                    first | refine hK.out _ _ ?_ (fun hU2 => ?_) | (go_wp2_with fail; refine hK.out _ _ ?_ (fun hU2 => ?_)) | fail
                    · exact Or.inr ⟨later y3 hbA, later y0 hbA, later yo hbA⟩
                    clear hK K
                    clear hU1
                    try simp only [Act.put, List.setIfInBounds_toArray, List.set_cons_zero, List.set_cons_succ]
                    first | refine upto_next 28 rfl (by kernel_rfl) (fun K hK => ?_) | fail
                    refine step_append_run2 rfl (.tmp 105) (.tmp 128) 41 41 rfl _ _ _ _ rfl rfl HRr ?_
                    first | refine hK.out _ _ ?_ (fun hU3 => ?_) | (go_wp2_with fail; refine hK.out _ _ ?_ (fun hU3 => ?_)) | fail
                    · exact Or.inr ⟨f3, f0, fo⟩
                    clear hK K
                    clear hU2
                    try simp only [Act.put, List.setIfInBounds_toArray, List.set_cons_zero, List.set_cons_succ]
                    first | refine upto_run 29 (v := ?_) hU3 (by kernel_rfl) rfl (by kernel_rfl) (by kernel_rfl) (by kernel_rfl) (by kernel_rfl) (fun _ _ _ h => h) (Or.inl ⟨by rfl, ?_⟩) ?_ | fail
                    rotate_left
                    focus first | (intro w _; go_simp; with_reducible rfl) | (intro w _; go_simp; done) | (intro w _; go_simp; rw [if_neg (by omega)]) | fail
                    try simp only [Act.put, List.setIfInBounds_toArray, List.set_cons_zero, List.set_cons_succ]
                    first | refine upto_run 30 (v := ?_) hU3 (by kernel_rfl) rfl (by kernel_rfl) (by kernel_rfl) (by kernel_rfl) (by kernel_rfl) (fun _ _ _ h => h) (Or.inl ⟨by rfl, ?_⟩) ?_ | fail
                    rotate_left
                    focus first | (intro w _; go_simp; with_reducible rfl) | (intro w _; go_simp; done) | (intro w _; go_simp; rw [if_neg (by omega)]) | fail
                    try simp only [Act.put, List.setIfInBounds_toArray, List.set_cons_zero, List.set_cons_succ]
                    first | refine upto_next 31 rfl (by kernel_rfl) (fun K hK => ?_) | fail
                    go_simp
                    first | refine hK.out _ _ ?_ (fun hU4 => ?_) | (go_wp2_with fail; refine hK.out _ _ ?_ (fun hU4 => ?_)) | fail
                    · exact Or.inl (by kernel_rfl)
                    clear hK K
                    clear hU3
                    try simp only [Act.put, List.setIfInBounds_toArray, List.set_cons_zero, List.set_cons_succ]
                    refine upto_done (by kernel_rfl) ?_ _
                    clear yo yol fo hbc hbW
                    have HM8 := Lib.hid ((HMt.out.later (HBW.out)).putS HB7.out HK7.out HS7.out)
                    have HZ8 := Lib.hid ((kpT_set (j := 3) H7.out (.slice As2 (ss.length + 1) cs2)).cells (HK7.out.cells (show (wc).heap[gz]? = _ from blk_below HXt.out (HBW.out)) (by decide)) (by decide))
                    obtain ⟨w8, hw8⟩ : ∃ z, z = w7.setCell ⟨gi, 3, none⟩ (.slice As2 (ss.length + 1) cs2) := ⟨_, rfl⟩
                    rw [← hw8] at HM8 HZ8 ⊢
                    clear hw8 f0 f3 f3f fl y0 y3 yl HRr hbA HK7 HB7 HS7 H7 HMt HXt
                    have hPX := RowX.push (HM8.out.later (Below.drew (Below.refl _ _))).rx HM8.out.lk.bel.size xk w8.drew.heap.size rfl HNL2.out
                    obtain ⟨vc2, w9, hr, hrs, hb9, hk9, hg9⟩ := hPX
                    have HZ9 := Lib.hid ((hg9.block gz (show gz < w8.drew.heap.size from blk_lt HZ8.out) (fun e => HNE.out e.symm)).trans (show w8.drew.heap[gz]? = _ from HZ8.out))
                    obtain ⟨Av2, cv2, hvc2⟩ := hrs.slice
                    rw [List.length_append, List.length_singleton] at hvc2
                    subst hvc2
                    have HRr := hr
                    have hbA : Below w8.heap.size w8 (w8.drew.alloc (.cells #[.int .i64 xk.op, .int .i64 xk.dst, .int .i64 xk.src, .int .i64 xk.imm, .int .i64 xk.size, .bool xk.signed, .int .i64 xk.cond, .string xk.to_] 28)) := below_alloc _ (Below.drew (Below.refl _ _))
                    have HM9 := Lib.hid ((HM8.out.later (Below.drew (Below.refl _ _))).putX hb9 hk9 hrs)
                    have H9 := Lib.hid (hk9.cells (show w8.drew.heap[gi]? = _ from HM8.out.img.box) (by decide))
                    have y0 := blk_cell (i := 0) HM8.out.img.box rfl
                    have f0 := blk_cell (i := 0) H9.out rfl
                    have f0f : w9.frozen? ⟨gi, 0, none⟩ = false := blk_free H9.out
                    have fl := blk_lt H9.out
                    have yl := blk_lt HM8.out.img.box
                    have z0 := blk_cell (i := 0) HZ8.out rfl
                    have z1 := blk_cell (i := 1) HZ8.out rfl
                    have z2 := blk_cell (i := 2) HZ8.out rfl
                    have z3 := blk_cell (i := 3) HZ8.out rfl
                    have z4 := blk_cell (i := 4) HZ8.out rfl
                    have z5 := blk_cell (i := 5) HZ8.out rfl
                    have z6 := blk_cell (i := 6) HZ8.out rfl
                    have z7 := blk_cell (i := 7) HZ8.out rfl
                    have zl := blk_lt HZ8.out
                    clear hr hrs hb9 hk9 hg9
                    go_upto_region 28 with (fail)
                    refine upto_begin 10 (fun w' => w'.cell? ⟨gi, 0, none⟩ = some (.slice (some ⟨gv, 0, none⟩) (k + 1) cv) ∧ w'.cell? ⟨gz, 0, none⟩ = some (.int .i64 xk.op) ∧ w'.cell? ⟨gz, 1, none⟩ = some (.int .i64 xk.dst) ∧ w'.cell? ⟨gz, 2, none⟩ = some (.int .i64 xk.src) ∧ w'.cell? ⟨gz, 3, none⟩ = some (.int .i64 xk.imm) ∧ w'.cell? ⟨gz, 4, none⟩ = some (.int .i64 xk.size) ∧ w'.cell? ⟨gz, 5, none⟩ = some (.bool xk.signed) ∧ w'.cell? ⟨gz, 6, none⟩ = some (.int .i64 xk.cond) ∧ w'.cell? ⟨gz, 7, none⟩ = some (.string xk.to_)) (by kernel_rfl) ?_ (fun hU0 => ?_)
                    · exact ⟨y0, z0, z1, z2, z3, z4, z5, z6, z7⟩
                    first | refine upto_run 0 (v := ?_) hU0 (by kernel_rfl) rfl (by kernel_rfl) (by kernel_rfl) (by kernel_rfl) (by kernel_rfl) (fun _ _ _ h => h) (Or.inl ⟨by rfl, ?_⟩) ?_ | fail
                    rotate_left
                    focus first | (intro w _; go_simp; with_reducible rfl) | (intro w _; go_simp; done) | (intro w _; go_simp; rw [if_neg (by omega)]) | fail
                    try simp only [Act.put, List.setIfInBounds_toArray, List.set_cons_zero, List.set_cons_succ]
                    first | refine upto_run 1 (v := ?_) hU0 (by kernel_rfl) rfl (by kernel_rfl) (by kernel_rfl) (by kernel_rfl) (by kernel_rfl) (fun _ _ _ h => h) (Or.inl ⟨by rfl, ?_⟩) ?_ | fail
                    rotate_left
                    focus first | (intro w _; go_simp; with_reducible rfl) | (intro w _; go_simp; done) | (intro w _; go_simp; rw [if_neg (by omega)]) | fail
                    try simp only [Act.put, List.setIfInBounds_toArray, List.set_cons_zero, List.set_cons_succ]
                    first | refine upto_run 2 (v := ?_) hU0 (by kernel_rfl) rfl (by kernel_rfl) (by kernel_rfl) (by kernel_rfl) (by kernel_rfl) (fun _ _ _ h => h) (Or.inl ⟨by rfl, ?_⟩) ?_ | fail
                    rotate_left
                    focus first | (intro w _; go_simp; with_reducible rfl) | (intro w _; go_simp; done) | (intro w _; go_simp; rw [if_neg (by omega)]) | fail
                    try simp only [Act.put, List.setIfInBounds_toArray, List.set_cons_zero, List.set_cons_succ]
                    first | refine upto_run 3 (v := ?_) hU0 (by kernel_rfl) rfl (by kernel_rfl) (by kernel_rfl) (by kernel_rfl) (by kernel_rfl) (fun _ _ _ h => h) (Or.inl ⟨by rfl, ?_⟩) ?_ | fail
                    rotate_left
                    focus first | (intro w _; go_simp; with_reducible rfl) | (intro w _; go_simp; done) | (intro w _; go_simp; rw [if_neg (by omega)]) | fail
                    try simp only [Act.put, List.setIfInBounds_toArray, List.set_cons_zero, List.set_cons_succ]
                    first | refine upto_read 4 (v := ?_) hU0 (by kernel_rfl) rfl (by kernel_rfl) (by kernel_rfl) (by kernel_rfl) (by kernel_rfl) (by kernel_rfl) (fun _ _ _ h => h) (Or.inl ⟨by rfl, ?_⟩) ?_ | fail
                    rotate_left
                    focus first | (intro w hSw; (try dsimp only at hSw); go_simp; with_reducible rfl) | (intro w hSw; (try dsimp only at hSw); go_simp; done) | fail
                    try simp only [Act.put, List.setIfInBounds_toArray, List.set_cons_zero, List.set_cons_succ]
                    first | refine upto_read 5 (v := ?_) hU0 (by kernel_rfl) rfl (by kernel_rfl) (by kernel_rfl) (by kernel_rfl) (by kernel_rfl) (by kernel_rfl) (fun _ _ _ h => h) (Or.inl ⟨by rfl, ?_⟩) ?_ | fail
                    rotate_left
                    focus first | (intro w hSw; (try dsimp only at hSw); go_simp; with_reducible rfl) | (intro w hSw; (try dsimp only at hSw); go_simp; done) | fail
                    try simp only [Act.put, List.setIfInBounds_toArray, List.set_cons_zero, List.set_cons_succ]
                    first | refine upto_next 6 rfl (by kernel_rfl) (fun K hK => ?_) | fail
                    go_simp
                    first | refine hK.out _ _ ?_ (fun hU1 => ?_) | (go_wp2_with fail; refine hK.out _ _ ?_ (fun hU1 => ?_)) | fail
                    · exact Or.inr ⟨later y0 hbA, later z0 hbA, later z1 hbA, later z2 hbA, later z3 hbA, later z4 hbA, later z5 hbA, later z6 hbA, later z7 hbA⟩
                    clear hK K
                    clear hU0
                    try simp only [Act.put, List.setIfInBounds_toArray, List.set_cons_zero, List.set_cons_succ]
                    first | refine upto_next 7 rfl (by kernel_rfl) (fun K hK => ?_) | fail
                    refine step_append_run2 rfl (.tmp 136) (.tmp 138) 40 40 rfl _ _ _ _ rfl rfl HRr ?_
                    first | refine hK.out _ _ ?_ (fun hU2 => ?_) | (go_wp2_with fail; refine hK.out _ _ ?_ (fun hU2 => ?_)) | fail
                    · exact Or.inr ⟨f0, blk_cell HZ9.out rfl, blk_cell HZ9.out rfl, blk_cell HZ9.out rfl, blk_cell HZ9.out rfl, blk_cell HZ9.out rfl, blk_cell HZ9.out rfl, blk_cell HZ9.out rfl, blk_cell HZ9.out rfl⟩
                    clear hK K
                    clear hU1
                    try simp only [Act.put, List.setIfInBounds_toArray, List.set_cons_zero, List.set_cons_succ]
                    first | refine upto_run 8 (v := ?_) hU2 (by kernel_rfl) rfl (by kernel_rfl) (by kernel_rfl) (by kernel_rfl) (by kernel_rfl) (fun _ _ _ h => h) (Or.inl ⟨by rfl, ?_⟩) ?_ | fail
                    rotate_left
                    focus first | (intro w _; go_simp; with_reducible rfl) | (intro w _; go_simp; done) | (intro w _; go_simp; rw [if_neg (by omega)]) | fail
                    try simp only [Act.put, List.setIfInBounds_toArray, List.set_cons_zero, List.set_cons_succ]
                    first | refine upto_run 9 (v := ?_) hU2 (by kernel_rfl) rfl (by kernel_rfl) (by kernel_rfl) (by kernel_rfl) (by kernel_rfl) (fun _ _ _ h => h) (Or.inl ⟨by rfl, ?_⟩) ?_ | fail
                    rotate_left
                    focus first | (intro w _; go_simp; with_reducible rfl) | (intro w _; go_simp; done) | (intro w _; go_simp; rw [if_neg (by omega)]) | fail
                    try simp only [Act.put, List.setIfInBounds_toArray, List.set_cons_zero, List.set_cons_succ]
                    first | refine upto_next 10 rfl (by kernel_rfl) (fun K hK => ?_) | fail
                    go_simp
                    first | refine hK.out _ _ ?_ (fun hU3 => ?_) | (go_wp2_with fail; refine hK.out _ _ ?_ (fun hU3 => ?_)) | fail
                    · exact Or.inl (by kernel_rfl)
                    clear hK K
                    clear hU2
                    try simp only [Act.put, List.setIfInBounds_toArray, List.set_cons_zero, List.set_cons_succ]
                    refine upto_done (by kernel_rfl) ?_ _
                    clear f0 f0f fl yl y0 z0 z1 z2 z3 z4 z5 z6 z7 zl HRr hbA
                    go_wp2_with fail
                    go_roundw
                    case rel =>
                      refine ⟨j + 1, xs ++ [xk], ss ++ [callsB l.op], _, _, by omega, by go_num, by have := HXL.out; simp; omega, by have := HSL.out; simp; omega, ?_, HM9.out⟩
                      rw [HSd.out, HE.out]
                      unfold lnPut
                      rw [HLC.out]
                    case measure => simp [intOf]; omega
          · have dX : x.label.toList.isEmpty = false := by rw [Lib.toList_data]; show (nmL x.label).isEmpty = false; simpa using hlb
            have HE := Lib.hid (show lnS right ps cs (xs, ss) x = .ok (xs, ss) by unfold lnS; rw [if_pos hlb])
            clear hlb
            go_wp2_with fail
            go_roundw
            case rel =>
              refine ⟨j + 1, xs, ss, vc, vs, by omega, by go_num, by have := HXL.out; omega, by have := HSL.out; omega, ?_, ?_⟩
              · rw [HSd.out, HE.out]
              · first | exact HMd.out | exact HMd.out.later (Below.drew (Below.refl _ _))
            case measure => simp [intOf]; omega
        · have e : j = p.code.length := by omega
          subst e
          have HF2 := Lib.hid (show p.code.foldlM (lnS right ps cs) ([], []) = .ok (xs, ss) by have h := HF.out; rwa [List.take_length] at h)
          have x0 := blk_cell (i := 0) HM.out.px rfl
          have x1 := blk_cell (i := 1) HM.out.px rfl
          have xl := blk_lt HM.out.px
          have y0 := blk_cell (i := 0) HM.out.py rfl
          have y1 := blk_cell (i := 1) HM.out.py rfl
          have yl := blk_lt HM.out.py
          go_wp2_with fail
          refine (data_any w wr gk gi gd N vc vs st HM.out.img HM.out.hi HM.out.hd HM.out.lk.bel p _ _ HD.out HC.out HDL.out HKD.out (by rw [HZS.out]; exact Nat.le_refl _) HN.out A1 A2 n1 c1 n2 c2).mono ?_
          rintro e w9 ⟨rfl, hI, hP⟩
          have HI := Lib.hid hI
          have HP := Lib.hid hP
          clear hI hP x0 x1 xl y0 y1 yl
          go_wp2_with fail
          go_returns
          obtain ⟨cz, hz1, hz2⟩ := HM.out.img.dat
          exact Or.inl ⟨gi, gd, N, ps1, at_, ps, cs, st, xs, ss, vc, vs, rfl, F1.out, F2.out, HST.out, HF2.out, HI.out, HP.out.own HM.out.img.box hz1 HM.out.rx (by decide) (by decide), HP.out.own HM.out.img.box hz1 HM.out.rs (by decide) (by decide), HM.out.hi, HP.out.bel⟩
  · have b1 : (er != 0) = true := by simpa using he
    have b2 : (er == 0) = false := by simpa using he
    go_wp2_with fail
    go_returns
    refine Or.inr ⟨_, er, rfl, he, ?_, ?_⟩
    · rcases H3.out with ⟨h, _⟩ | ⟨_, h, _⟩
      · exact absurd h he
      · first | exact HB2.out.trans (h.mono HB2.out.size) | exact Below.drew (HB2.out.trans (h.mono HB2.out.size))
    · rcases H3.out with ⟨h, _⟩ | ⟨_, _, h | ⟨m, ps1, h1, h2⟩⟩
      · exact absurd h he
      · exact Or.inl h
      · exact Or.inr ⟨m, ps1, h1, Or.inl h2⟩
end Go.Proofs.YtamejgfmfneppaaDoor
