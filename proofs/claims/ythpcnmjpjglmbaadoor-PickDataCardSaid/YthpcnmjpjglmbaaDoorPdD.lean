/- pick.datum: the item of a part. No condition. -/
import Derived.Test.YthpcnmjpjglmbaaDoorPdC
namespace Go.Proofs.YthpcnmjpjglmbaaDoor
open Go.RowKit
set_option linter.unusedVariables false
set_option maxHeartbeats 4000000
set_option maxRecDepth 100000
def DatV (y : PartD) (w : World) (e : Ending) (w' : World) : Prop := ∃ (d : DatD) (A : Option Addr) (c : Nat), e = .returned (.agg #[.int .i64 d.kind, .string d.name, .slice A d.len c, .int .i64 d.n]) ∧ PartOf y d ∧ Below w.heap.size w w'
theorem flabel_any (w : World) (s : ByteArray) (hs : s.size ≤ 140737488355328) : Calls Tryd.prog 19 #[.string s] w fun e w' => e = .returned (.string (⟨#[95]⟩ ++ s)) ∧ w' = w := by
  go_enter Tryd.func19, Tryd.ntmps19
  go_wp2
  go_returns
  exact ⟨rfl, rfl⟩
theorem glabel_any (w : World) (s : ByteArray) (hs : s.size ≤ 140737488355328) : Calls Tryd.prog 7 #[.string s] w fun e w' => e = .returned (.string (gLabel s)) ∧ w' = w := by
  go_enter Tryd.func7, Tryd.ntmps7
  go_wp2
  go_returns
  exact ⟨rfl, rfl⟩
theorem datum_num (w : World) (pb : Nat) (y : PartD) (Ad : Option Addr) (nd cd : Nat) (hk : y.kind = 2 ∨ y.kind = 3) : Calls Tryd.prog 13 #[.pointer (some ⟨pb, 0, none⟩), .agg #[.int .i64 y.kind, .slice Ad nd cd, .int .i64 y.n]] w (DatV y w) := by
  obtain ⟨k, hkk⟩ : ∃ k, k = y.kind := ⟨_, rfl⟩
  rw [← hkk] at hk ⊢
  obtain ⟨kd, hkd⟩ : ∃ kd : Int, kd = k + 1 := ⟨_, rfl⟩
  have HV := Lib.hid (show ∀ w', Below w.heap.size w w' → DatV y w (.returned (.agg #[.int .i64 kd, .string ⟨#[]⟩, .slice none 0 0, .int .i64 y.n])) w' from fun w' hb => ⟨⟨kd, ⟨#[]⟩, 0, y.n⟩, none, 0, rfl, by
    rcases hk with h | h
    · exact Or.inr (Or.inr (Or.inl ⟨by omega, by show kd = 3; omega, rfl⟩))
    · exact Or.inr (Or.inr (Or.inr ⟨by omega, by show kd = 4; omega, rfl⟩)), hb⟩)
  obtain ⟨q, hq⟩ : ∃ q, q = y.n := ⟨_, rfl⟩
  rw [← hq] at HV ⊢
  clear hkk hq
  rcases hk with hk | hk
  · subst hk
    subst hkd
    obtain ⟨w2, hw2⟩ : ∃ w2, w2 = (w.alloc (.cells #[.int .i64 2, .slice Ad nd cd, .int .i64 q] 39)).alloc (.cells #[.int .i64 3, .string ⟨#[]⟩, .slice none 0 0, .int .i64 q] 36) := ⟨_, rfl⟩
    have HB2 := Lib.hid (show Below w.heap.size w w2 by rw [hw2]; exact below_alloc _ (below_alloc _ (Below.refl _ _)))
    have K := Lib.hid (show w2.heap[w.heap.size + 1]? = some (.cells #[.int .i64 3, .string ⟨#[]⟩, .slice none 0 0, .int .i64 q] 36 (0, 0)) by rw [hw2]; exact blk_new' (by simp))
    go_enter Tryd.func13, Tryd.ntmps13
    go_wp2_with fail
    rw [← hw2]
    have q0 := blk_cell (i := 0) K.out rfl
    have q1 := blk_cell (i := 1) K.out rfl
    have q2 := blk_cell (i := 2) K.out rfl
    have q3 := blk_cell (i := 3) K.out rfl
    exact bodyPost_ret (v := .agg #[.int .i64 3, .string ⟨#[]⟩, .slice none 0 0, .int .i64 q]) (by simp [results, Tryd.results13, go_sem, q0, q1, q2, q3]; try rfl) rfl (HV.out _ HB2.out)
  · subst hk
    subst hkd
    obtain ⟨w2, hw2⟩ : ∃ w2, w2 = (w.alloc (.cells #[.int .i64 3, .slice Ad nd cd, .int .i64 q] 39)).alloc (.cells #[.int .i64 4, .string ⟨#[]⟩, .slice none 0 0, .int .i64 q] 36) := ⟨_, rfl⟩
    have HB2 := Lib.hid (show Below w.heap.size w w2 by rw [hw2]; exact below_alloc _ (below_alloc _ (Below.refl _ _)))
    have K := Lib.hid (show w2.heap[w.heap.size + 1]? = some (.cells #[.int .i64 4, .string ⟨#[]⟩, .slice none 0 0, .int .i64 q] 36 (0, 0)) by rw [hw2]; exact blk_new' (by simp))
    go_enter Tryd.func13, Tryd.ntmps13
    go_wp2_with fail
    rw [← hw2]
    have q0 := blk_cell (i := 0) K.out rfl
    have q1 := blk_cell (i := 1) K.out rfl
    have q2 := blk_cell (i := 2) K.out rfl
    have q3 := blk_cell (i := 3) K.out rfl
    exact bodyPost_ret (v := .agg #[.int .i64 4, .string ⟨#[]⟩, .slice none 0 0, .int .i64 q]) (by simp [results, Tryd.results13, go_sem, q0, q1, q2, q3]; try rfl) rfl (HV.out _ HB2.out)
theorem datum_fun (w : World) (pb : Nat) (Af : Option Addr) (nf cf : Nat) (y : PartD) (Ad : Option Addr) (nd cd : Nat) (hk : y.kind = 1) (hn0 : 0 ≤ y.n) (hn1 : y.n < (nf : Int)) (c0 : w.cell? ⟨pb, 0, none⟩ = some (.slice Af nf cf))
    (hnm : ∀ i : Nat, i < nf → ∃ b o s, Af = some ⟨b, o, none⟩ ∧ w.cell? ⟨b, o + i * 6, none⟩ = some (.string s) ∧ s.size ≤ 140737488355328) : Calls Tryd.prog 13 #[.pointer (some ⟨pb, 0, none⟩), .agg #[.int .i64 y.kind, .slice Ad nd cd, .int .i64 y.n]] w (DatV y w) := by
  obtain ⟨i, hi⟩ : ∃ i : Nat, y.n = i := ⟨y.n.toNat, by omega⟩
  obtain ⟨b, o, s, rfl, hc, hs⟩ := hnm i (by omega)
  have HV := Lib.hid (show ∀ w', Below w.heap.size w w' → DatV y w (.returned (.agg #[.int .i64 2, .string (⟨#[95]⟩ ++ s), .slice none 0 0, .int .i64 0])) w' from fun w' hb => ⟨⟨2, ⟨#[95]⟩ ++ s, 0, 0⟩, none, 0, rfl, Or.inr (Or.inl ⟨hk, rfl, rfl⟩), hb⟩)
  rw [hk, hi]
  have hix : (i : Int) < (nf : Int) := by omega
  clear hnm hn0 hn1 hi hk
  obtain ⟨w2, hw2⟩ : ∃ w2, w2 = (w.alloc (.cells #[.int .i64 1, .slice Ad nd cd, .int .i64 i] 39)).alloc (.cells #[.int .i64 0, .string ⟨#[]⟩, .slice none 0 0, .int .i64 0] 36) := ⟨_, rfl⟩
  have hb2 : Below w.heap.size w w2 := by rw [hw2]; exact below_alloc _ (below_alloc _ (Below.refl _ _))
  have HB2 := Lib.hid hb2
  have hx2 : w2.heap[w.heap.size]? = some (.cells #[.int .i64 1, .slice Ad nd cd, .int .i64 i] 39 (0, 0)) := by rw [hw2]; exact blk_alloc (blk_new _ _) _
  have K2 := Lib.hid (show w2.heap[w.heap.size + 1]? = some (.cells #[.int .i64 0, .string ⟨#[]⟩, .slice none 0 0, .int .i64 0] 36 (0, 0)) by rw [hw2]; exact blk_new' (by simp))
  have x0 := blk_cell (i := 0) hx2 rfl
  have x2 := blk_cell (i := 2) hx2 rfl
  have xl := blk_lt hx2
  have c02 := (hb2.cell (World.block_lt_of_cell? _ _ c0)).trans c0
  have cl2 := World.block_lt_of_cell? _ _ c02
  have hc2 := (hb2.cell (World.block_lt_of_cell? _ _ hc)).trans hc
  have hl2 := World.block_lt_of_cell? _ _ hc2
  clear hb2 c0 hc
  go_enter Tryd.func13, Tryd.ntmps13
  go_upto_region 3 with (fail)
  rw [← hw2]
  clear hw2
  refine wp_region_over_tail 9 (by kernel_rfl) (by kernel_rfl) ?_
  simp only [List.take_succ_cons, List.take_zero, List.drop_succ_cons, List.drop_zero]
  repeat (go_big_quiet_step (fail))
  refine wpQuiet_nil ?_
  intro w3 kb3
  have HB3 := Lib.hid (HB2.out.bt kb3)
  have K3 := Lib.hid (blk_below K2.out kb3)
  clear kb3 x0 x2 xl c02 cl2 hc2 hl2
  have hfl := flabel_any w3 s hs
  have HFL := Lib.hid hfl
  clear hfl
  go_wp2_with fail
  refine HFL.out.mono ?_
  rintro e w4 ⟨rfl, rfl⟩
  have HSZ := Lib.hid HB3.out.size
  go_wp2_with (refine wpList_store_blk (by rfl) 36 _ _ (by rfl) (w.heap.size + 1) (by rfl) (by rfl) K3.out (by rfl) (by kernel_rfl) (by kernel_rfl) ?_; intro x7 k7 hb7 hz7 ho7)
  have q0 := blk_cell (i := 0) k7 rfl
  have q1 := blk_cell (i := 1) k7 rfl
  have q2 := blk_cell (i := 2) k7 rfl
  have q3 := blk_cell (i := 3) k7 rfl
  exact bodyPost_ret (v := .agg #[.int .i64 2, .string (⟨#[95]⟩ ++ s), .slice none 0 0, .int .i64 0]) (by simp [results, Tryd.results13, go_sem, q0, q1, q2, q3]; try rfl) rfl (HV.out _ (hb7 _ _ (by omega) HB3.out))
theorem datum_plain (W0 w : World) (h0 : Below W0.heap.size W0 w) (pb : Nat) (y : PartD) (vd : Value) (hd : SlR W0 1 ByteR vd y.data) (hk : y.kind = 0) (hl : y.data.length ≤ 4096) : Calls Tryd.prog 13 #[.pointer (some ⟨pb, 0, none⟩), .agg #[.int .i64 y.kind, vd, .int .i64 y.n]] w (DatV y w) := by
  have HD := Lib.hid hd
  obtain ⟨Ad, cd, rfl, _, hcd, _⟩ := hd
  have HV1 := Lib.hid (show ∀ w' A c, Below w.heap.size w w' → DatV y w (.returned (.agg #[.int .i64 1, .string ⟨#[]⟩, .slice A y.data.length c, .int .i64 0])) w' from fun w' A c hb => ⟨⟨1, ⟨#[]⟩, y.data.length, 0⟩, A, c, rfl, Or.inl ⟨hk, Or.inl ⟨rfl, rfl, rfl⟩⟩, hb⟩)
  have HV5 := Lib.hid (show ∀ w', Below w.heap.size w w' → DatV y w (.returned (.agg #[.int .i64 5, .string ⟨#[]⟩, .slice none 0 0, .int .i64 (y.data.length : Nat)])) w' from fun w' hb => ⟨⟨5, ⟨#[]⟩, 0, y.data.length⟩, none, 0, rfl, Or.inl ⟨hk, Or.inr ⟨rfl, rfl⟩⟩, hb⟩)
  rw [hk]
  clear hk
  obtain ⟨q, hq⟩ : ∃ q, q = y.n := ⟨_, rfl⟩
  rw [← hq]
  clear hq
  obtain ⟨ys, hys⟩ : ∃ ys, ys = y.data := ⟨_, rfl⟩
  rw [← hys] at HD HV1 HV5 hl ⊢
  clear hys
  have HH0 := Lib.hid h0
  obtain ⟨w2, hw2⟩ : ∃ w2, w2 = (w.alloc (.cells #[.int .i64 0, .slice Ad ys.length cd, .int .i64 q] 39)).alloc (.cells #[.int .i64 0, .string ⟨#[]⟩, .slice none 0 0, .int .i64 0] 36) := ⟨_, rfl⟩
  have hb2 : Below w.heap.size w w2 := by rw [hw2]; exact below_alloc _ (below_alloc _ (Below.refl _ _))
  have HB2 := Lib.hid hb2
  have HX2 := Lib.hid (show w2.heap[w.heap.size]? = some (.cells #[.int .i64 0, .slice Ad ys.length cd, .int .i64 q] 39 (0, 0)) by rw [hw2]; exact blk_alloc (blk_new _ _) _)
  have K2 := Lib.hid (show w2.heap[w.heap.size + 1]? = some (.cells #[.int .i64 0, .string ⟨#[]⟩, .slice none 0 0, .int .i64 0] 36 (0, 0)) by rw [hw2]; exact blk_new' (by simp))
  clear hb2 h0
  go_enter Tryd.func13, Tryd.ntmps13
  go_wp2_with fail
  rw [← hw2]
  clear hw2
  have HSZ := Lib.hid HB2.out.size
  go_loopw [35] (fun i wr => ∃ j : Nat, j ≤ ys.length ∧ i = .int .i64 j ∧ Below w2.heap.size w2 wr) (fun i _ => ys.length - (intOf i).toNat)
  case atStart => exact ⟨0, by omega, rfl, Below.refl _ _⟩
  case round =>
    obtain ⟨j, hj, rfl, hb⟩ := hrel
    rename World => wo
    have HBo := Lib.hid hb
    have HXo := Lib.hid (blk_below HX2.out hb)
    have Ko := Lib.hid (blk_below K2.out hb)
    have HBw := Lib.hid (HB2.out.bt hb)
    have hx0 := HXo.out
    have x1 := blk_cell (i := 1) hx0 rfl
    have xl := blk_lt hx0
    clear hb hx0
    by_cases hlt : j < ys.length
    · obtain ⟨c, hc⟩ : ∃ c, ys[j]? = some c := ⟨_, List.getElem?_eq_getElem hlt⟩
      obtain ⟨A4, c4, e1, _, _, e4⟩ := HD.out.later (by decide) (HH0.out.bt HBw.out)
      simp only [Value.slice.injEq] at e1
      obtain ⟨rfl, _, rfl⟩ := e1
      obtain ⟨b, o, cs, rfl, g2, g3, rfl, k1, k2⟩ := e4 j c hc
      have z0 : wo.cell? ⟨b, o + j, none⟩ = some (.int .u8 c) := by have := g3 0 (by decide); simpa using this
      have zl := World.block_lt_of_cell? _ _ z0
      have HLT := Lib.hid hlt
      clear g3 e4
      by_cases hc0 : c = 0
      · subst hc0
        go_wp2_with fail
        have hlt := HLT.out
        go_roundw
        case rel => exact ⟨j + 1, by omega, by go_num, HBo.out⟩
        case measure => simp [intOf]; omega
      · have d0 : (c == 0) = false := by simpa using hc0
        obtain ⟨i0, zz, q1, q2, q3, q4, q5⟩ := info_partsC (C := 1) (B := 1) (show (Tryd.prog.info? 5).map (fun i => (i.zero.map (·.cells.size), i.size, i.bytes)) = some (some 1, 1, 1) by kernel_rfl)
        obtain ⟨v', w', css, r1, r2, r3, r4, r5, r6⟩ := copy_row (P := Tryd.prog) 34 5 i0 zz 1 Tryd.underlying34 q1 q2 q4 q5 q3 (by decide) (HD.out.later (w' := wo) (by decide) (HH0.out.bt HBw.out)) (fun cs x h u hu => by obtain ⟨rfl, _⟩ := h; rw [List.mem_singleton.1 hu]; rfl) (by unfold maxLen; omega) (by omega)
        have HB3 := Lib.hid (HBw.out.bt r6)
        have K3 := Lib.hid (blk_below Ko.out r6)
        obtain ⟨A9, c9, e9⟩ : ∃ A c, v' = .slice A ys.length c := by
          rcases r2.2 with ⟨e, h⟩ | ⟨g, cap, cur, e, _⟩
          · exact ⟨none, 0, by rw [e, h]⟩
          · exact ⟨_, _, e⟩
        subst e9
        clear q1 q2 q3 q4 q5 r2 r3 r4 r5 r6
        go_wp2_with (first | (at_builtin; refine wpList_append_run _ rfl _ _ _ rfl _ _ _ _ rfl rfl r1 ?_) | (refine wpList_store_blk (by rfl) 36 _ _ (by rfl) (w.heap.size + 1) (by rfl) (by rfl) K3.out (by rfl) (by kernel_rfl) (by kernel_rfl) ?_; intro x7 k7 hb7 hz7 ho7))
        have hsz := HSZ.out
        have p0 := blk_cell (i := 0) k7 rfl
        have p1 := blk_cell (i := 1) k7 rfl
        have p2 := blk_cell (i := 2) k7 rfl
        have p3 := blk_cell (i := 3) k7 rfl
        exact bodyPost_ret (v := .agg #[.int .i64 1, .string ⟨#[]⟩, .slice A9 ys.length c9, .int .i64 0]) (by simp [results, Tryd.results13, go_sem, p0, p1, p2, p3]; try rfl) rfl (HV1.out _ _ _ (hb7 _ _ (by omega) HB3.out))
    · have e : j = ys.length := by omega
      subst e
      go_wp2_with (refine wpList_store_blk (by rfl) 36 _ _ (by rfl) (w.heap.size + 1) (by rfl) (by rfl) Ko.out (by rfl) (by kernel_rfl) (by kernel_rfl) ?_; intro x7 k7 hb7 hz7 ho7)
      have p0 := blk_cell (i := 0) k7 rfl
      have p1 := blk_cell (i := 1) k7 rfl
      have p2 := blk_cell (i := 2) k7 rfl
      have p3 := blk_cell (i := 3) k7 rfl
      exact bodyPost_ret (v := .agg #[.int .i64 5, .string ⟨#[]⟩, .slice none 0 0, .int .i64 (ys.length : Nat)]) (by simp [results, Tryd.results13, go_sem, p0, p1, p2, p3]; try rfl) rfl (HV5.out _ (hb7 _ _ (by omega) HBw.out))
end Go.Proofs.YthpcnmjpjglmbaaDoor
