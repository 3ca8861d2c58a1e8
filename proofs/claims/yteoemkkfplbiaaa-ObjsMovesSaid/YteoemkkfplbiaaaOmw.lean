/- The walk of ObjsMoves. No condition. -/
import Derived.Test.YteoemkkfplbiaaaOm2
namespace Go.Proofs.Yteoemkkfplbiaaa
open Go.RowKit
set_option linter.unusedVariables false
set_option maxHeartbeats 2000000
theorem new_objs (w : World) : Calls Try.prog 9 #[] w fun e w' => e = .returned (.pointer (some ⟨w.heap.size, 0, none⟩)) ∧ w' = w.alloc (.cells #[.slice none 0 0] 79) := by
  go_enter Try.func9, Try.ntmps9
  go_wp2
  go_returns
  exact ⟨rfl, rfl⟩
theorem Try.infoB : (Try.prog.info? 4).map (fun i => (i.zero, i.size, i.bytes)) = some (some (.bool false), 1, 1) := by kernel_rfl
theorem mk_bool (n : Nat) (hn : n ≤ 100) (w : World) : (Instr.makeSlice 25 (.int .i64 (n : Nat)) (.int .i64 (n : Nat))).run Try.prog w = .ok (.slice (some ⟨w.heap.size, 0, none⟩) n n) (w.alloc (.cells (madeCells #[.bool false] n) 4)) := by
  obtain ⟨i0, hi, hz0, hz1, hz2⟩ := info_parts Try.infoB
  have hr := run_make (P := Try.prog) w 25 4 i0 (.bool false) Try.underlying25 hi hz0 .i64 .i64 (n : Int) (n : Int) (by omega) (Int.le_refl _) (by rw [hz2]; omega) (by omega)
  rw [hz1] at hr
  simp only [Int.toNat_natCast, Nat.mul_one] at hr
  exact hr
theorem OneObj.below {w w' : World} {bm n : Nat} (h : OneObj w bm n) (hb : Below w.heap.size w w') : OneObj w' bm n := by
  obtain ⟨b1, d1, c, b2, d2, A, cap, c1, c0, c2, c3, c4⟩ := h
  exact ⟨b1, d1, c, b2, d2, A, cap, by rw [hb.cell (World.block_lt_of_cell? w _ c1)]; exact c1, c0, by rw [hb.cell (World.block_lt_of_cell? w _ c2)]; exact c2, by rw [hb.cell (World.block_lt_of_cell? w _ c3)]; exact c3, by rw [hb.cell (World.block_lt_of_cell? w _ c4)]; exact c4⟩
theorem add_ok (w : World) (bm m off o2 : Nat) (x : Int) (h : OneObj w bm m) (hm : m < 100) (ho : off ≤ m) (ho2 : o2 ≤ m) (hx : (off : Int) + x = o2) :
    Calls Try.prog 15 #[.pointer (some ⟨bm, 0, none⟩), .agg #[.int .i64 1, .int .i64 0, .int .i64 (off : Nat)], .int .i64 x] w fun e w' => e = .returned (.tuple #[.agg #[.int .i64 1, .int .i64 0, .int .i64 (o2 : Nat)], .bool true]) ∧ Below w.heap.size w w' := by
  have e : addOk m off x = true := by unfold addOk; simp; omega
  have := add_in w bm m off x h ho hm ⟨by omega, by omega⟩
  unfold AddTo at this
  rw [e, hx] at this
  exact this
theorem add_bad (w : World) (bm m off : Nat) (x : Int) (h : OneObj w bm m) (hm : m < 100) (ho : off ≤ m) (hi : In64 x) (hx : ¬ (-(off : Int) ≤ x ∧ x ≤ (m : Int) - off)) :
    Calls Try.prog 15 #[.pointer (some ⟨bm, 0, none⟩), .agg #[.int .i64 1, .int .i64 0, .int .i64 (off : Nat)], .int .i64 x] w (AddNo w) := by
  have e : addOk m off x = false := by unfold addOk; simp; omega
  have := add_in w bm m off x h ho hm hi
  unfold AddTo at this
  rw [e] at this
  exact this
def MovR (W wr : World) (bm bp m off : Nat) : Prop := OneObj wr bm m ∧ wr.heap[bp]? = some (.cells #[.int .i64 1, .int .i64 0, .int .i64 (off : Nat)] 33 (0, 0)) ∧ Below W.heap.size W wr
theorem ints_ne {w : World} {bp b d : Nat} {x y z : Int} {T : TypeId} {u : Value} (h : w.heap[bp]? = some (.cells #[.int .i64 x, .int .i64 y, .int .i64 z] T (0, 0))) (hu : w.cell? ⟨b, d, none⟩ = some u) (hn : ∀ n, u ≠ .int .i64 n) : b ≠ bp := by
  rintro rfl
  simp only [World.cell?, h] at hu
  match d, hu with
  | 0, hu => simp at hu; exact hn x hu.symm
  | 1, hu => simp at hu; exact hn y hu.symm
  | 2, hu => simp at hu; exact hn z hu.symm
  | d + 3, hu => simp at hu
theorem OneObj.other {w w' : World} {bm n bp : Nat} {x y z : Int} {T : TypeId} (h : OneObj w bm n) (hp : w.heap[bp]? = some (.cells #[.int .i64 x, .int .i64 y, .int .i64 z] T (0, 0))) (hw : ∀ k, k ≠ bp → w'.heap[k]? = w.heap[k]?) : OneObj w' bm n := by
  obtain ⟨b1, d1, c, b2, d2, A, cap, c1, c0, c2, c3, c4⟩ := h
  have key : ∀ (b d : Nat) (u : Value), w.cell? ⟨b, d, none⟩ = some u → (∀ n, u ≠ .int .i64 n) → w'.cell? ⟨b, d, none⟩ = some u := fun b d u hu hn => by
    rw [World.cell?_of_block (w := w) (hw b (ints_ne hp hu hn))]; exact hu
  exact ⟨b1, d1, c, b2, d2, A, cap, key _ _ _ c1 (by simp), c0, key _ _ _ c2 (by simp), key _ _ _ c3 (by simp), key _ _ _ c4 (by simp)⟩
theorem mov_store {W w : World} {bm bp m off o2 : Nat} (h : MovR W w bm bp m off) (hB : W.heap.size ≤ bp) :
    MovR W (((w.setCell ⟨bp, 0, none⟩ (.int .i64 1)).setCell ⟨bp, 1, none⟩ (.int .i64 0)).setCell ⟨bp, 2, none⟩ (.int .i64 (o2 : Nat))) bm bp m o2 := by
  obtain ⟨h1, h2, h3⟩ := h
  refine ⟨h1.other h2 (fun k hk => ?_), ?_, ((h3.setCell hB _).setCell hB _).setCell hB _⟩
  · rw [Below.heap_setCell _ _ _ _ hk, Below.heap_setCell _ _ _ _ hk, Below.heap_setCell _ _ _ _ hk]
  · have := blk_setCell (blk_setCell (blk_setCell (i := 0) h2 (.int .i64 1)) (i := 1) (.int .i64 0)) (i := 2) (.int .i64 (o2 : Nat))
    simpa using this
theorem MovR.below {W w w' : World} {bm bp m off : Nat} (h : MovR W w bm bp m off) (hb : Below w.heap.size w w') : MovR W w' bm bp m off := ⟨h.1.below hb, blk_below h.2.1 hb, h.2.2.bt hb⟩
set_option maxRecDepth 100000 in
theorem moves_law (s : Int) (A : Option Addr) (n1 c1 : Nat) (W : World) (hs : In64 s) (hl : n1 ≤ 9223372036854775807) (h1 : ∀ k, k < n1 → ∀ w', Below W.heap.size W w' → ∃ (ad : Addr) (x : Int), A = some ad ∧ w'.cell? (ad.add k) = some (.int .i64 x) ∧ In64 x) :
    Calls Try.prog 4 #[.int .i64 s, .slice A n1 c1] W fun e w' => e = .returned (.bool true) ∧ Below W.heap.size W w' := by
  obtain ⟨m, hm, hml⟩ : ∃ m : Nat, s.tmod 100 % 100 = (m : Int) ∧ m < 100 := ⟨(s.tmod 100 % 100).toNat, by omega, by omega⟩
  have hlo : -99 ≤ s.tmod 100 ∧ s.tmod 100 ≤ 99 := by rw [tmod_eq_if]; split <;> omega
  have hmk := mk_bool m (by omega)
  have HI1 := Lib.hid h1
  clear h1 hs
  go_enter Try.func4, Try.ntmps4
  go_wp2_with fail
  refine (fit_vm _).mono ?_
  rintro e w1 ⟨rfl, hb1⟩
  have kb1 := Lib.hid hb1
  clear hb1
  by_cases h200 : 100 < n1
  · go_wp2_with fail
    go_returns
    exact ⟨rfl, kb1.out⟩
  · go_wp2_with fail
    refine (new_objs _).mono ?_
    rintro e w2 ⟨rfl, rfl⟩
    go_wp2_with fail
    refine (makes_obj _ m w1.heap.size (w1.heap.size + 1) hml (by omega) (blk_alloc (blk_new _ _) _) ?_).mono ?_
    · have := blk_new (w1.alloc (.cells #[.slice none 0 0] 79)) (.cells (madeCells #[.bool false] m) 4)
      simpa using this
    rintro e w3 ⟨rfl, ho, hon⟩
    have HO3 := Lib.hid ho
    have hb3 : Below W.heap.size W w3 := (below_alloc _ (below_alloc _ kb1.out)).trans (hon.below (by have := kb1.out.size; simp; omega) (fun k hk => by have := kb1.out.size; omega))
    have kb3 := Lib.hid hb3
    clear ho hon hb3 hmk hm hlo
    go_wp2_with fail
    have hp0 := Lib.hid (show MovR W (w3.alloc (.cells #[.int .i64 1, .int .i64 0, .int .i64 0] 33)) w1.heap.size w3.heap.size m 0 from ⟨HO3.out.below (below_alloc _ (Below.refl _ _)), blk_new w3 _, below_alloc _ kb3.out⟩)
    have HP := Lib.hid kb3.out.size
    clear HO3 kb3 kb1
    generalize w1.heap.size = bm at *
    generalize w3.heap.size = bp at *
    go_loopw [7, 36] (fun a i wr => ∃ k off : Nat, k ≤ n1 ∧ i = .int .i64 k ∧ a = .int .i64 (off : Nat) ∧ off ≤ m ∧ MovR W wr bm bp m off) (fun _ i _ => n1 - (intOf i).toNat)
    case atStart => exact ⟨0, 0, by omega, rfl, rfl, by omega, hp0.out⟩
    case round =>
      obtain ⟨k, off, hk, rfl, rfl, hoff, hmo, hmp, hmb⟩ := hrel
      have HO := Lib.hid hmo
      have HB := Lib.hid hmb
      have HK := Lib.hid hmp
      obtain ⟨c0, c1', c2, _, _, _⟩ := three hmp
      clear hmo hmb hmp hp0
      by_cases hlt : k < n1
      · obtain ⟨ad, x, rfl, hc, hx1, hx2⟩ := HI1.out k hlt wr HB.out
        by_cases hok : -(off : Int) ≤ x ∧ x ≤ (m : Int) - off
        · obtain ⟨g1, g2⟩ := hok
          obtain ⟨o2, hx⟩ : ∃ o2 : Nat, (off : Int) + x = o2 := ⟨((off : Int) + x).toNat, by omega⟩
          have ho2 : o2 ≤ m := by omega
          have hx' : (o2 : Int) + -x = off := by omega
          have HX := Lib.hid hx'
          go_wp2_with fail
          refine (add_ok _ bm m off o2 x HO.out hml hoff ho2 hx).mono ?_
          rintro e w4 ⟨rfl, hb4⟩
          have HO4 := Lib.hid (HO.out.below hb4)
          have HB4 := Lib.hid (HB.out.bt hb4)
          have HK4 := Lib.hid (blk_below HK.out hb4)
          clear hb4 hc c0 c1' c2 HX hx'
          go_wp2_with fail
          refine (add_ok _ bm m o2 off (-x) (HO4.out.below (below_alloc _ (Below.refl _ _))) hml ho2 hoff (by omega)).mono ?_
          rintro e w5 ⟨rfl, hb5⟩
          have HO5 := Lib.hid ((HO4.out.below (below_alloc _ (Below.refl _ _))).below hb5)
          have HB5 := Lib.hid ((below_alloc _ HB4.out).bt hb5)
          have HK5 := Lib.hid (blk_below (blk_alloc HK4.out _) hb5)
          have HQ5 := Lib.hid (blk_below (blk_new w4 _) hb5)
          have hlt5 := blk_lt HQ5.out
          have hne := Lib.hid (show bp ≠ w4.heap.size from fun e => by have := blk_lt HK4.out; omega)
          have hbp := blk_lt HK5.out
          obtain ⟨q0, q1, q2, _, _, _⟩ := three HQ5.out
          obtain ⟨p0, p1, p2, _, _, _⟩ := three HK5.out
          clear hb5
          generalize w4.heap.size = bq at *
          go_wp2_with fail
          go_roundw
          case rel => exact ⟨k + 1, o2, by omega, by go_num, rfl, ho2, (mov_store ⟨HO5.out, HK5.out, HB5.out⟩ HP.out).below (below_alloc _ (Below.refl _ _))⟩
          case measure => simp [intOf]; omega
        · have hd1 : (-(off : Int) ≤ x ∧ x ≤ (m : Int) - off) = False := by simp only [eq_iff_iff, iff_false]; exact hok
          have HC := Lib.hid (add_bad wr bm m off x HO.out hml hoff ⟨hx1, hx2⟩ hok)
          have hor : x < -(off : Int) ∨ (-(off : Int) ≤ x ∧ (m : Int) - off < x) := by omega
          clear hd1 hok
          rcases hor with g1 | ⟨g1, g2⟩
          all_goals
            go_wp2_with fail
            refine HC.out.mono ?_
            rintro e w4 ⟨rfl, hb4⟩
            have HM4 := Lib.hid (MovR.below ⟨HO.out, HK.out, HB.out⟩ hb4)
            clear hb4 hc c0 c1' c2
            go_wp2_with fail
            go_roundw
            case rel => exact ⟨k + 1, off, by omega, by go_num, rfl, hoff, HM4.out.below (below_alloc _ (Below.refl _ _))⟩
            case measure => simp [intOf]; omega
      · have e : k = n1 := by omega
        subst e
        go_wp2_with fail
        refine (add_no _ bm 0 (Or.inl rfl)).mono ?_
        rintro e w4 ⟨rfl, hb4⟩
        have HB4 := Lib.hid (HB.out.bt hb4)
        clear hb4 c0 c1' c2
        go_wp2_with fail
        refine (add_no _ bm 2 (Or.inr rfl)).mono ?_
        rintro e w5 ⟨rfl, hb5⟩
        have HB5 := Lib.hid ((below_alloc _ HB4.out).bt hb5)
        clear hb5
        go_wp2_with fail
        go_returns
        exact ⟨rfl, below_alloc _ HB5.out⟩
theorem ints_at {H : Type} {enc : TypeId × Value → H} {P : Program} {W : World} {A : Option Addr} {len C : Nat} {T : TypeId} (h : SliceAt W A len C (Rd enc P W T)) (hc : C = 1) (ht : P.underlying T = some (.int .i64)) :
    ∀ k, k < len → ∀ w', Below W.heap.size W w' → ∃ (ad : Addr) (x : Int), A = some ad ∧ w'.cell? (ad.add k) = some (.int .i64 x) ∧ In64 x := by
  subst hc
  intro k hk w' hb
  obtain ⟨ad, u, h1, h2, h3⟩ := h.one hb hk
  obtain ⟨x, e, hw⟩ := h3.int ht
  simp only [List.cons.injEq, and_true] at e
  subst e
  exact ⟨ad, x, h1, h2, in64_of hw⟩
end Go.Proofs.Yteoemkkfplbiaaa
