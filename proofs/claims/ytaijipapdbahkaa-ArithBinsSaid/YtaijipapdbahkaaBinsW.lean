/- The walk of ArithBins: the law answers true, whatever the numbers. No condition. -/
import Derived.Test.YtaijipapdbahkaaExa
import Derived.Test.YtaijipapdbahkaaBinAll
import Derived.Test.YtaijipapdbahkaaRbin
import Derived.Test.YtaijipapdbahkaaTyp
import Derived.Test.YtaijipapdbahkaaStruct
import Derived.Test.YtaijipapdbahkaaAndOr
namespace Go.Proofs.Ytaijipapdbahkaa
open Go.RowKit
set_option linter.unusedVariables false
theorem bcell2 {W w1 : World} (hb : Below W.heap.size W w1) : (∀ b o, b < W.heap.size → w1.cell? ⟨b, o, none⟩ = W.cell? ⟨b, o, none⟩) ∧ (∀ b o, b < W.heap.size → w1.frozen? ⟨b, o, none⟩ = W.frozen? ⟨b, o, none⟩) :=
  ⟨fun b o h => hb.cell (p := ⟨b, o, none⟩) h, fun b o h => hb.frozen (p := ⟨b, o, none⟩) h⟩
/-- block g of a world is a type's nine cells -/
def typAt (w : World) (g : Nat) (sz : Int) (sg : Bool) : Prop :=
  w.heap[g]? = some (.cells #[.int .i64 1, .int .i64 sz, .bool sg, .bool false, .pointer none, .int .i64 0, .int .i64 0, .slice none 0 0, .pointer none] 27 (0, 0))
/-- two cells of block B hold these numbers, and below a world's size all is as it was -/
theorem typAt.lt {w : World} {g : Nat} {sz : Int} {sg : Bool} (h : typAt w g sz sg) : g < w.heap.size := blk_lt h
theorem typAt.below {w w' : World} {g : Nat} {sz : Int} {sg : Bool} (h : typAt w g sz sg) (hb : Below w.heap.size w w') : typAt w' g sz sg := blk_below h hb
theorem cell_of {w : World} {g i : Nat} {cs : Array Value} {T : TypeId} {fr : Nat × Nat} {v : Value} (h : w.heap[g]? = some (.cells cs T fr)) (hi : cs[i]? = some v) : w.cell? ⟨g, i, none⟩ = some v := by
  simp [World.cell?, h, hi]
theorem typAt.cells {w : World} {g : Nat} {sz : Int} {sg : Bool} (h : typAt w g sz sg) :
    w.cell? ⟨g, 0, none⟩ = some (.int .i64 1) ∧ w.cell? ⟨g, 1, none⟩ = some (.int .i64 sz) ∧ w.cell? ⟨g, 2, none⟩ = some (.bool sg) ∧ w.cell? ⟨g, 3, none⟩ = some (.bool false) ∧ w.cell? ⟨g, 4, none⟩ = some (.pointer none) ∧
    w.cell? ⟨g, 5, none⟩ = some (.int .i64 0) ∧ w.cell? ⟨g, 6, none⟩ = some (.int .i64 0) ∧ w.cell? ⟨g, 7, none⟩ = some (.slice none 0 0) ∧ w.cell? ⟨g, 8, none⟩ = some (.pointer none) :=
  ⟨cell_of h rfl, cell_of h rfl, cell_of h rfl, cell_of h rfl, cell_of h rfl, cell_of h rfl, cell_of h rfl, cell_of h rfl, cell_of h rfl⟩
def zty : Obj := .cells #[.int .i64 0, .int .i64 0, .bool false, .bool false, .pointer none, .int .i64 0, .int .i64 0, .slice none 0 0, .pointer none] 27
theorem run_ty (a : Act) (x : World) (o : Oper) (h : o.op = .alloc 27) : (execOp a.eval o).run Try.prog x = .ok (.value (.pointer (some ⟨x.heap.size, 0, none⟩))) (x.alloc zty) := by
  unfold execOp
  rw [h]
  kernel_rfl
set_option maxHeartbeats 8000000
set_option maxRecDepth 100000 in
theorem bins_walk (h0 h1 a b : Int) (w : World) (i0 : In64 h0) (i1 : In64 h1) (ia : In64 a) (ib : In64 b) :
    Calls Try.prog 3 #[.agg #[.int .i64 h0, .int .i64 h1], .int .i64 a, .int .i64 b] w fun e w' => e = .returned (.bool true) ∧ Below w.heap.size w w' := by
  have T := Lib.hid (fun w => type_any h0 w i0)
  have O := Lib.hid (fun w => ops_any h1 w i1)
  have hz := tySz_size h0
  have hkl := opK_lt h1
  generalize tySz h0 = sz at *
  generalize tySg h0 = sg at *
  generalize opK h1 = k at *
  have F1 := Lib.hid (fun w => rfit_any sz a sg w hz ia)
  have F2 := Lib.hid (fun w => rfit_any sz b sg w hz ib)
  have ex := fitS_idem (sg := sg) (n := a) hz
  have ey := fitS_idem (sg := sg) (n := b) hz
  have ix := fitS_in (sg := sg) (n := a) hz
  have iy := fitS_in (sg := sg) (n := b) hz
  generalize fitS sz sg a = x at *
  generalize fitS sz sg b = y at *
  have B1 := Lib.hid (fun w => bin_any k hkl sz x y sg w hz ix iy)
  have R1 := Lib.hid (fun w => rbin_any k hkl sz x y sg w hz ix iy)
  have B2 := Lib.hid (fun w => bin_any k hkl sz x b sg w hz ix ib)
  have R2 := Lib.hid (fun w => rbin_any k hkl sz x b sg w hz ix ib)
  rw [bins_eq k sz sg x y hz ex (Or.inr (Or.inr ey))] at R1
  have E2 := Lib.hid (fun hk => bins_eq k sz sg x b hz ex hk)
  clear i0 i1 hz ex ey ix iy ia ib
  go_enter Try.func3, Try.ntmps3
  go_wp2_with fail
  refine (fit_law _).mono ?_
  rintro e w1 ⟨rfl, hb1⟩
  have kb1 := Lib.hid (below_new hb1)
  obtain ⟨hc1, hf1⟩ := bcell2 hb1
  have hz1 : w.heap.size < w1.heap.size := by have := hb1.size; simp at this; omega
  have c0 : w1.cell? ⟨w.heap.size, 0, none⟩ = some (.int .i64 h0) := by rw [hc1 _ _ (by simp)]; simp
  have c1 : w1.cell? ⟨w.heap.size, 1, none⟩ = some (.int .i64 h1) := by rw [hc1 _ _ (by simp)]; simp
  clear hb1 hc1 hf1
  go_wp2_with fail
  refine wp_region_fresh 7 [0, 1, 2, 3, 4, 5] [(6, zty, fun b => .pointer (some ⟨b, 0, none⟩))] (by kernel_rfl) ?_ (by kernel_rfl) (by kernel_rfl) ?_
  · intro i obj mk hi
    obtain rfl : i = 6 := by
      by_cases h : i = 6
      · exact h
      · have : (6 == i) = false := by simpa using fun h' => h h'.symm
        simp [mkAl, this] at hi
    simp [mkAl] at hi
    obtain ⟨rfl, rfl⟩ := hi
    exact ⟨_, rfl, rfl, fun a x => run_ty a x _ rfl⟩
  apply Exists.intro
  refine ⟨fun U hU hne => ?_, ?_⟩
  · change wpQuiet _ _ _ _ (_ :: _ :: _ :: _ :: _ :: _ :: []) _
    repeat (go_big_quiet_step (first
      | (go_at_call 8; exact calls_ext hU _ (T.out _))
      | (go_at_call 9; exact calls_ext hU _ (O.out _))))
    refine wpQuiet_nil ?_
    exact rfl
  · intro g hg _ x1 hx hk
    have kg := hk.one
    clear hk
    change wpList _ _ _ (_ :: _ :: []) _ _
    simp only [List.getElem?_toArray, List.getElem?_cons_succ, List.getElem?_cons_zero, Option.bind_some]
    unfold zty at kg
    conv => arg 5; simp [Act.put]
    refine wpList_store_blk (by rfl) 27 _ _ (by rfl) g (by rfl) (by rfl) kg (by rfl) (by kernel_rfl) (by kernel_rfl) ?_
    intro x2 k2 hb2 hs2 _
    have kb2 : Below w.heap.size w x2 := kb1.out.trans ((hb2 _ _ hg hx).mono (Nat.le_of_lt hz1))
    have t2 : typAt x2 g sz sg := k2
    have hl2 := t2.lt
    obtain ⟨d0, d1, d2, d3, d4, d5, d6, d7, d8⟩ := t2.cells
    clear hb2 kg hx k2 hs2 hg c0 c1 hz1 kb1 T O
    go_wp2_with fail
    refine (F1.out _).mono ?_
    rintro e w3 ⟨rfl, hb3⟩
    have kb3 := kb2.bt hb3
    have t3 := t2.below hb3
    clear d0 d1 d2 d3 d4 d5 d6 d7 d8 hl2 t2 kb2 hb3 F1
    have hl3 := t3.lt
    obtain ⟨d0, d1, d2, d3, d4, d5, d6, d7, d8⟩ := t3.cells
    have hkc : (k = 6 ∨ k = 7) ∨ k = 0 ∨ k = 1 ∨ k = 2 ∨ k = 3 ∨ k = 4 ∨ k = 5 ∨ k = 8 ∨ k = 9 ∨ k = 10 ∨ k = 11 := by omega
    clear hkl
    rcases hkc with hk | hk
    · rw [E2.out (by omega)] at R2
      clear E2 R1 B1 F2
      generalize binS k sz sg x b = r at *
      obtain ⟨r, ok⟩ := r
      rcases hk with rfl | rfl <;> simp only [opB] at *
      all_goals
        go_wp2_with fail
        refine (B2.out _).mono ?_
        rintro e w4 ⟨rfl, hb4⟩
        have kb4 := kb3.bt hb4
        have t4 := t3.below hb4
        clear d0 d1 d2 d3 d4 d5 d6 d7 d8 hl3 kb3 hb4
        have hl4 := t4.lt
        obtain ⟨d0, d1, d2, d3, d4, d5, d6, d7, d8⟩ := t4.cells
        go_wp2_with fail
        refine (R2.out _).mono ?_
        rintro e w5 ⟨rfl, hb5⟩
        have kb5 := kb4.bt hb5
        go_wp2_with fail
        go_returns
        exact ⟨by simp, kb5⟩
    · clear E2 R2 B2
      generalize binS k sz sg x y = r at *
      obtain ⟨r, ok⟩ := r
      rcases hk with rfl | rfl | rfl | rfl | rfl | rfl | rfl | rfl | rfl | rfl <;> simp only [opB] at *
      all_goals
        go_wp2_with fail
        refine (F2.out _).mono ?_
        rintro e w6 ⟨rfl, hb6⟩
        have kb6 := kb3.bt hb6
        have t6 := t3.below hb6
        clear d0 d1 d2 d3 d4 d5 d6 d7 d8 hl3 kb3 hb6
        have hl6 := t6.lt
        obtain ⟨d0, d1, d2, d3, d4, d5, d6, d7, d8⟩ := t6.cells
        go_wp2_with fail
        refine (B1.out _).mono ?_
        rintro e w4 ⟨rfl, hb4⟩
        have kb4 := kb6.bt hb4
        have t4 := t6.below hb4
        clear d0 d1 d2 d3 d4 d5 d6 d7 d8 hl6 kb6 hb4
        have hl4 := t4.lt
        obtain ⟨d0, d1, d2, d3, d4, d5, d6, d7, d8⟩ := t4.cells
        go_wp2_with fail
        refine (R1.out _).mono ?_
        rintro e w5 ⟨rfl, hb5⟩
        have kb5 := kb4.bt hb5
        go_wp2_with fail
        go_returns
        exact ⟨by simp, kb5⟩
end Go.Proofs.Ytaijipapdbahkaa
