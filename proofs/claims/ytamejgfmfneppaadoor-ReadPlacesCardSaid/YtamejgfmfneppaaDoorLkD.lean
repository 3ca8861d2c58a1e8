/- read.Link: the bytes of data, where there are labels and zeros alone. No condition. -/
import Derived.Test.YtamejgfmfneppaaDoorLkI
import Derived.Test.YtamejgfmfneppaaDoorHu
import Derived.Deep.Cut
import Derived.Deep.CutRange
import Derived.Deep.DeepCutAuto
namespace Go.Proofs.YtamejgfmfneppaaDoor
open Go.RowKit
set_option linter.unusedVariables false
set_option maxHeartbeats 8000000
/-- how many zeros -/
def zsum (l : List XDatumD) : Nat := (l.map fun d => if d.kind = 5 then d.n.toNat else 0).sum
theorem zsum_snoc {l : List XDatumD} {k : Nat} {x : XDatumD} (h : l[k]? = some x) : zsum (l.take (k + 1)) = zsum (l.take k) + (if x.kind = 5 then x.n.toNat else 0) := by
  unfold zsum
  rw [List.take_add_one, h, List.map_append, List.sum_append]
  simp
theorem zsum_le (l : List XDatumD) (k : Nat) : zsum (l.take k) ≤ zsum l := by
  conv => rhs; rw [← List.take_append_drop k l]
  unfold zsum
  rw [List.map_append, List.sum_append]
  omega
theorem laterD {w w' : World} {a : Addr} {v : Value} (h : w.cell? a = some v) (hb : Below w.heap.size w w') : w'.cell? a = some v := (hb.cell (World.block_lt_of_cell? w _ h)).trans h
/-- all but two blocks stand as they stood -/
structure Kp2 (w0 w w' : World) (gi gd : Nat) : Prop where
  bel : Below w0.heap.size w0 w'
  size : w.heap.size ≤ w'.heap.size
  blk : ∀ b, b < w.heap.size → b ≠ gi → b ≠ gd → w'.heap[b]? = w.heap[b]?
theorem Kp2.later {w0 w w1 w2 : World} {gi gd : Nat} (h : Kp2 w0 w w1 gi gd) (hb : Below w1.heap.size w1 w2) : Kp2 w0 w w2 gi gd :=
  ⟨h.bel.trans (hb.mono h.bel.size), Nat.le_trans h.size hb.size, fun b h1 h2 h3 => (hb.block b (Nat.lt_of_lt_of_le h1 h.size)).trans (h.blk b h1 h2 h3)⟩
theorem Kp2.grown {w0 w w1 w2 : World} {gi gd g : Nat} (h : Kp2 w0 w w1 gi gd) (hb : w1.grownBy w2 (some g)) (hg : g = gi ∨ g = gd) (h0 : w0.heap.size ≤ g) : Kp2 w0 w w2 gi gd :=
  ⟨below_of_grown h.bel (Nat.le_refl _) hb (fun k hk => by cases hk; exact h0), Nat.le_trans h.size hb.size, fun b h1 h2 h3 => (hb.block b (Nat.lt_of_lt_of_le h1 h.size) (fun e => by cases e; rcases hg with e | e <;> omega)).trans (h.blk b h1 h2 h3)⟩
/-- an image with y bytes -/
structure ImgY (w : World) (gi gd N y : Nat) (vc vs : Value) (st : Int) : Prop where
  box : w.heap[gi]? = some (.cells #[vc, .slice (some ⟨gd, 0, none⟩) y N, .int .i64 st, vs] 43 (0, 0))
  dat : DatB w gd N
theorem ImgY.later {w w' : World} {gi gd N y : Nat} {vc vs : Value} {st : Int} (h : ImgY w gi gd N y vc vs st) (hb : Below w.heap.size w w') : ImgY w' gi gd N y vc vs st := by
  obtain ⟨cs, h1, h2⟩ := h.dat
  exact ⟨blk_below h.box hb, cs, blk_below h1 hb, h2⟩
set_option maxRecDepth 100000 in
theorem data_any (w0 w : World) (gk gi gd N : Nat) (vc vs : Value) (st : Int) (h : ImgY w gi gd N 0 vc vs st) (hi0 : w0.heap.size ≤ gi) (hd0 : w0.heap.size ≤ gd) (hbl : Below w0.heap.size w0 w) (p : XProgD) (vd vcc : Value) (hd : SlR w0 4 (XDatumR w0) vd p.data) (hc : SlR w0 9 XItemR vcc p.code) (hdl : p.data.length ≤ 140737488351232)
    (hk : ∀ d ∈ p.data, d.kind = 0 ∨ (d.kind = 5 ∧ 0 ≤ d.n)) (hs : zsum p.data ≤ N) (hN : N ≤ 65536) (A1 A2 : Option Addr) (n1 c1 n2 c2 : Nat) :
    Calls Tryd.prog 12 #[.pointer (some ⟨gk, 0, none⟩), .agg #[vd, vcc], .pointer (some ⟨gi, 0, none⟩), .agg #[.slice A1 n1 c1, .slice A2 n2 c2]] w (fun e w' => e = .returned (.int .i64 0) ∧ ImgY w' gi gd N (zsum p.data) vc vs st ∧ Kp2 w0 w w' gi gd) := by
  obtain ⟨A, cap, rfl, m1, m2, hid⟩ := hd
  obtain ⟨A3, cap3, rfl, m3, m4, _⟩ := hc
  have HID := Lib.hid hid
  have HK := Lib.hid hk
  have HB1 := Lib.hid (below_alloc (.cells #[.slice A p.data.length cap, .slice A3 p.code.length cap3] 33) (Below.refl w.heap.size w))
  have HB2 := Lib.hid (below_alloc (.cells #[.slice A1 n1 c1, .slice A2 n2 c2] 39) HB1.out)
  have HI0 := Lib.hid (h.later HB2.out)
  have HP0 := Lib.hid ((Kp2.later (gi := gi) (gd := gd) ⟨hbl, Nat.le_refl _, fun _ _ _ _ => rfl⟩ HB2.out : Kp2 w0 w _ gi gd))
  have HX0 := Lib.hid (blk_below (blk_new w (.cells #[.slice A p.data.length cap, .slice A3 p.code.length cap3] 33)) (below_alloc (.cells #[.slice A1 n1 c1, .slice A2 n2 c2] 39) (Below.refl _ _)))
  have HS := Lib.hid hs
  clear hid hk m1 m2 m3 m4 HB1 HB2 hs
  have H := Lib.hid h
  clear h hbl
  go_enter Tryd.func12, Tryd.ntmps12
  go_upto_region 1 with (fail)
  obtain ⟨w1, hw1⟩ : ∃ z, z = (w.alloc (.cells #[.slice A p.data.length cap, .slice A3 p.code.length cap3] 33)).alloc (.cells #[.slice A1 n1 c1, .slice A2 n2 c2] 39) := ⟨_, rfl⟩
  obtain ⟨gx, hgx⟩ : ∃ z, z = w.heap.size := ⟨_, rfl⟩
  rw [← hw1] at HI0 HP0 HX0 ⊢
  rw [← hgx] at HX0 ⊢
  have x0 := blk_cell (i := 0) HX0.out rfl
  have xl := blk_lt HX0.out
  clear hw1 hgx
  go_wp2_with fail
  clear x0 xl
  go_loopw [17] (fun i wr => ∃ (j y : Nat), j ≤ p.data.length ∧ i = .int .i64 (j : Nat) ∧ y = zsum (p.data.take j) ∧ ImgY wr gi gd N y vc vs st ∧ Kp2 w0 w wr gi gd) (fun i _ => p.data.length - (intOf i).toNat)
  case atStart => exact ⟨0, 0, by omega, rfl, rfl, HI0.out, HP0.out⟩
  case round =>
    rename World => wr
    obtain ⟨j, y, hj, rfl, hy, hI, hP⟩ := hrel
    have HY := Lib.hid hy
    have HI := Lib.hid hI
    have HP := Lib.hid hP
    clear hy hI hP
    by_cases hlt : j < p.data.length
    · obtain ⟨d, hd⟩ : ∃ d, p.data[j]? = some d := ⟨_, List.getElem?_eq_getElem hlt⟩
      obtain ⟨b, o, cs, hAe, e1, e2, vdd, e3, k1, k2, k3, k4, k5⟩ := HID.out j d hd
      subst hAe
      subst e3
      have HKD := Lib.hid (HK.out d (List.mem_of_getElem? hd))
      have HZ := Lib.hid (zsum_snoc hd)
      obtain ⟨Ad, capd, rfl, _, md, _⟩ := k3
      have r0 := laterD (e2 0 (by omega)) HP.out.bel
      have r1 := laterD (e2 1 (by omega)) HP.out.bel
      have r2 := laterD (e2 2 (by omega)) HP.out.bel
      have r3 := laterD (e2 3 (by omega)) HP.out.bel
      rw [Nat.add_zero] at r0
      have rl := World.block_lt_of_cell? _ _ r0
      have HBd := Lib.hid (below_alloc (.cells #[.int .i64 d.kind, .string d.name, .slice Ad d.data.length capd, .int .i64 d.n] 25) (Below.refl wr.heap.size wr))
      have HXd := Lib.hid (blk_new wr (.cells #[.int .i64 d.kind, .string d.name, .slice Ad d.data.length capd, .int .i64 d.n] 25))
      clear e1 e2 hd md k1 k2 k4 k5
      go_upto_region 4 with (fail)
      obtain ⟨wd, hwd⟩ : ∃ z, z = wr.alloc (.cells #[.int .i64 d.kind, .string d.name, .slice Ad d.data.length capd, .int .i64 d.n] 25) := ⟨_, rfl⟩
      obtain ⟨gq, hgq⟩ : ∃ z, z = wr.heap.size := ⟨_, rfl⟩
      rw [← hwd] at HBd HXd ⊢
      rw [← hgq] at HXd ⊢
      have HId := Lib.hid (HI.out.later HBd.out)
      have HPd := Lib.hid (HP.out.later HBd.out)
      have q0 := blk_cell (i := 0) HXd.out rfl
      have q3 := blk_cell (i := 3) HXd.out rfl
      have ql := blk_lt HXd.out
      clear hwd hgq r0 r1 r2 r3 rl HBd HI HP
      rcases HKD.out with hk0 | ⟨hk5, hn0⟩
      · have b1 : (d.kind == 1) = false := by rw [hk0]; rfl
        have b2 : (d.kind == 2) = false := by rw [hk0]; rfl
        have b3 : (d.kind == 3) = false := by rw [hk0]; rfl
        have b4 : (d.kind == 4) = false := by rw [hk0]; rfl
        have b5 : (d.kind == 5) = false := by rw [hk0]; rfl
        have HK0 := Lib.hid hk0
        clear hk0
        go_wp2_with fail
        go_roundw
        case rel =>
          refine ⟨j + 1, y, by omega, by go_num, ?_, ?_, ?_⟩
          · rw [HZ.out, HK0.out, ← HY.out]; rfl
          · first | exact HId.out | exact HId.out.later (Below.drew (Below.refl _ _))
          · first | exact HPd.out | exact HPd.out.later (Below.drew (Below.refl _ _))
        case measure => simp [intOf]; omega
      · have b1 : (d.kind == 1) = false := by rw [hk5]; rfl
        have b2 : (d.kind == 2) = false := by rw [hk5]; rfl
        have b3 : (d.kind == 3) = false := by rw [hk5]; rfl
        have b4 : (d.kind == 4) = false := by rw [hk5]; rfl
        have b5 : (d.kind == 5) = true := by rw [hk5]; rfl
        obtain ⟨m, hm⟩ : ∃ m : Nat, d.n = (m : Int) := ⟨d.n.toNat, by omega⟩
        have HK5 := Lib.hid (show y + m = zsum (p.data.take (j + 1)) by rw [HZ.out, if_pos hk5, ← HY.out, hm]; rfl)
        have hfit : y + m ≤ N := by rw [HK5.out]; exact Nat.le_trans (zsum_le _ _) HS.out
        clear hk5 hn0
        have t1 := blk_cell (i := 1) HId.out.box rfl
        have tl := blk_lt HId.out.box
        have HZR := Lib.hid (zeros_run (w := wd.drew) (y := y) (m := m) HId.out.dat hfit (by omega))
        obtain ⟨w9, hrr, hd9, hg9⟩ := HZR.out
        have HD9 := Lib.hid hd9
        have HG9 := Lib.hid hg9
        rw [← hm] at hrr
        have HRr := hrr
        clear hrr hd9 hg9 hm hfit
        have hne : gi ≠ gd := by
          rintro rfl
          obtain ⟨cs9, h1, _⟩ := HId.out.dat
          have h2 := HId.out.box
          rw [h1] at h2
          simp only [Option.some.injEq, Obj.cells.injEq] at h2
          exact absurd h2.2.1 (by decide)
        have HB9 := Lib.hid ((HG9.out.block gi (blk_lt HId.out.box) (by simp only [ne_eq, Option.some.injEq]; exact hne)).trans HId.out.box)
        have c9 := blk_cell (i := 1) HB9.out rfl
        have f9 : w9.frozen? ⟨gi, 1, none⟩ = false := blk_free HB9.out
        have l9 := blk_lt HB9.out
        clear hne
        go_upto_region 21 with (fail)
        refine upto_begin 7 (fun w' => w'.cell? ⟨gi, 1, none⟩ = some (.slice (some ⟨gd, 0, none⟩) y N) ∧ w'.cell? ⟨gq, 3, none⟩ = some (.int .i64 d.n)) (by kernel_rfl) ?_ (fun hU0 => ?_)
        · exact ⟨t1, q3⟩
        first | refine upto_run 0 (v := ?_) hU0 (by kernel_rfl) rfl (by kernel_rfl) (by kernel_rfl) (by kernel_rfl) (by kernel_rfl) (fun _ _ _ h => h) (Or.inl ⟨by rfl, ?_⟩) ?_ | fail
        rotate_left
        · first | (intro w _; go_simp; with_reducible rfl) | (intro w _; go_simp; done) | (intro w _; go_simp; rw [if_neg (by omega)]) | fail
        try simp only [Act.put, List.setIfInBounds_toArray, List.set_cons_zero, List.set_cons_succ]
        first | refine upto_run 1 (v := ?_) hU0 (by kernel_rfl) rfl (by kernel_rfl) (by kernel_rfl) (by kernel_rfl) (by kernel_rfl) (fun _ _ _ h => h) (Or.inl ⟨by rfl, ?_⟩) ?_ | fail
        rotate_left
        · first | (intro w _; go_simp; with_reducible rfl) | (intro w _; go_simp; done) | (intro w _; go_simp; rw [if_neg (by omega)]) | fail
        try simp only [Act.put, List.setIfInBounds_toArray, List.set_cons_zero, List.set_cons_succ]
        first | refine upto_run 2 (v := ?_) hU0 (by kernel_rfl) rfl (by kernel_rfl) (by kernel_rfl) (by kernel_rfl) (by kernel_rfl) (fun _ _ _ h => h) (Or.inl ⟨by rfl, ?_⟩) ?_ | fail
        rotate_left
        · first | (intro w _; go_simp; with_reducible rfl) | (intro w _; go_simp; done) | (intro w _; go_simp; rw [if_neg (by omega)]) | fail
        try simp only [Act.put, List.setIfInBounds_toArray, List.set_cons_zero, List.set_cons_succ]
        first | refine upto_run 3 (v := ?_) hU0 (by kernel_rfl) rfl (by kernel_rfl) (by kernel_rfl) (by kernel_rfl) (by kernel_rfl) (fun _ _ _ h => h) (Or.inl ⟨by rfl, ?_⟩) ?_ | fail
        rotate_left
        · first | (intro w _; go_simp; with_reducible rfl) | (intro w _; go_simp; done) | (intro w _; go_simp; rw [if_neg (by omega)]) | fail
        try simp only [Act.put, List.setIfInBounds_toArray, List.set_cons_zero, List.set_cons_succ]
        first | refine upto_run 5 (v := ?_) hU0 (by kernel_rfl) rfl (by kernel_rfl) (by kernel_rfl) (by kernel_rfl) (by kernel_rfl) (fun _ _ _ h => h) (Or.inl ⟨by rfl, ?_⟩) ?_ | fail
        rotate_left
        · first | (intro w _; go_simp; with_reducible rfl) | (intro w _; go_simp; done) | (intro w _; go_simp; rw [if_neg (by omega)]) | fail
        try simp only [Act.put, List.setIfInBounds_toArray, List.set_cons_zero, List.set_cons_succ]
        first | refine upto_read 4 (v := ?_) hU0 (by kernel_rfl) rfl (by kernel_rfl) (by kernel_rfl) (by kernel_rfl) (by kernel_rfl) (by kernel_rfl) (fun _ _ _ h => h) (Or.inl ⟨by rfl, ?_⟩) ?_ | fail
        rotate_left
        · first | (intro w hSw; (try dsimp only at hSw); go_simp; with_reducible rfl) | (intro w hSw; (try dsimp only at hSw); go_simp; done) | fail
        try simp only [Act.put, List.setIfInBounds_toArray, List.set_cons_zero, List.set_cons_succ]
        first | refine upto_read 6 (v := ?_) hU0 (by kernel_rfl) rfl (by kernel_rfl) (by kernel_rfl) (by kernel_rfl) (by kernel_rfl) (by kernel_rfl) (fun _ _ _ h => h) (Or.inl ⟨by rfl, ?_⟩) ?_ | fail
        rotate_left
        · first | (intro w hSw; (try dsimp only at hSw); go_simp; with_reducible rfl) | (intro w hSw; (try dsimp only at hSw); go_simp; done) | fail
        try simp only [Act.put, List.setIfInBounds_toArray, List.set_cons_zero, List.set_cons_succ]
        first | refine upto_next 7 rfl (by kernel_rfl) (fun K hK => ?_) | fail
        refine step_append_run2 rfl (.tmp 91) (.tmp 93) 23 3 rfl _ _ _ _ rfl rfl HRr ?_
        first | refine hK.out _ _ ?_ (fun hU1 => ?_) | (go_wp2_with fail; refine hK.out _ _ ?_ (fun hU1 => ?_)) | fail
        · exact Or.inl (by kernel_rfl)
        clear hK K
        clear hU0
        try simp only [Act.put, List.setIfInBounds_toArray, List.set_cons_zero, List.set_cons_succ]
        first | refine upto_run 8 (v := ?_) hU1 (by kernel_rfl) rfl (by kernel_rfl) (by kernel_rfl) (by kernel_rfl) (by kernel_rfl) (fun _ _ _ h => h) (Or.inl ⟨by rfl, ?_⟩) ?_ | fail
        rotate_left
        · first | (intro w _; go_simp; with_reducible rfl) | (intro w _; go_simp; done) | (intro w _; go_simp; rw [if_neg (by omega)]) | fail
        try simp only [Act.put, List.setIfInBounds_toArray, List.set_cons_zero, List.set_cons_succ]
        first | refine upto_run 9 (v := ?_) hU1 (by kernel_rfl) rfl (by kernel_rfl) (by kernel_rfl) (by kernel_rfl) (by kernel_rfl) (fun _ _ _ h => h) (Or.inl ⟨by rfl, ?_⟩) ?_ | fail
        rotate_left
        · first | (intro w _; go_simp; with_reducible rfl) | (intro w _; go_simp; done) | (intro w _; go_simp; rw [if_neg (by omega)]) | fail
        try simp only [Act.put, List.setIfInBounds_toArray, List.set_cons_zero, List.set_cons_succ]
        first | refine upto_next 10 rfl (by kernel_rfl) (fun K hK => ?_) | fail
        go_simp
        first | refine hK.out _ _ ?_ (fun hU2 => ?_) | (go_wp2_with fail; refine hK.out _ _ ?_ (fun hU2 => ?_)) | fail
        · exact Or.inl (by kernel_rfl)
        clear hK K
        clear hU1
        try simp only [Act.put, List.setIfInBounds_toArray, List.set_cons_zero, List.set_cons_succ]
        refine upto_done (by kernel_rfl) ?_ _
        clear c9 f9 l9 t1 tl q0 q3 ql HRr
        go_wp2_with fail
        go_roundw
        case rel =>
          refine ⟨j + 1, y + m, by omega, by go_num, HK5.out, ⟨?_, ?_⟩, ?_⟩
          · exact blk_setCell HB9.out _
          · obtain ⟨cs9, h1, h2⟩ := HD9.out
            refine ⟨cs9, (Below.heap_setCell _ _ _ gd (fun e => ?_)).trans h1, h2⟩
            have h3 := HB9.out
            rw [← show gd = gi from e, h1] at h3
            simp only [Option.some.injEq, Obj.cells.injEq] at h3
            exact absurd h3.2.1 (by decide)
          · refine Kp2.grown (w1 := w9) (g := gi) ?_ ⟨rfl, rfl, rfl, by simp, fun k _ hk => Below.heap_setCell _ _ _ k (fun e => hk (by rw [e]))⟩ (Or.inl rfl) hi0
            refine Kp2.grown (w1 := wd.drew) (g := gd) ?_ HG9.out (Or.inr rfl) hd0
            exact HPd.out.later (Below.drew (Below.refl _ _))
        case measure => simp [intOf]; omega
    · have e : j = p.data.length := by omega
      subst e
      have HY1 := Lib.hid (show y = zsum p.data by have h := HY.out; rwa [List.take_length] at h)
      go_wp2_with fail
      go_returns
      refine ⟨rfl, ?_, HP.out⟩
      rw [← HY1.out]
      exact HI.out
end Go.Proofs.YtamejgfmfneppaaDoor
