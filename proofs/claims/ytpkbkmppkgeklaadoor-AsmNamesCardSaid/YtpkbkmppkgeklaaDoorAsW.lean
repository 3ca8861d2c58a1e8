/- AsmNames: the law walked. No condition. -/
import Derived.Test.YtpkbkmppkgeklaaDoorAsQ
import Derived.Test.YtpkbkmppkgeklaaDoorTrip
import Derived.Test.YtpkbkmppkgeklaaDoorStruct
import Derived.Deep.Cut
import Derived.Deep.CutRange
import Derived.Deep.DeepCutAuto
namespace Go.Proofs.YtpkbkmppkgeklaaDoor
open Go.RowKit
set_option linter.unusedVariables false
set_option maxHeartbeats 4000000
set_option maxRecDepth 100000 in
theorem names_law (a0 a1 a2 : Int) (s : ByteArray) (hs : s.size ≤ maxLen) (w : World) (hN : GsOk w) :
    Calls Tryd.prog 5 #[.agg #[.int .i64 a0, .int .i64 a1, .int .i64 a2], .string s] w fun e w' => e = .returned (.bool true) ∧ Below w.heap.size w w' := by
  go_enter Tryd.func5, Tryd.ntmps5
  go_wp2_with fail
  have HN0 := Lib.hid hN
  have kbA : Below w.heap.size w (w.alloc (Obj.cells #[.int .i64 a0, .int .i64 a1, .int .i64 a2] 32)) := below_alloc _ (Below.refl _ _)
  refine (fit_vm _ (hN.below kbA)).mono ?_
  rintro e w1 ⟨rfl, kb1⟩
  have k1 := blk_below (blk_new w _) kb1
  have kb1 := kbA.bt kb1
  have hN1 := hN.below kb1
  by_cases hsz : 200 < s.size
  · go_wp2_with fail
    go_returns
    exact ⟨rfl, kb1⟩
  have l1 := blk_lt k1
  have l10 : w1.cell? ⟨w.heap.size, 0, none⟩ = some (.int .i64 a0) := blk_cell k1 rfl
  have l11 : w1.cell? ⟨w.heap.size, 1, none⟩ = some (.int .i64 a1) := blk_cell k1 rfl
  have l12 : w1.cell? ⟨w.heap.size, 2, none⟩ = some (.int .i64 a2) := blk_cell k1 rfl
  clear k1 kbA
  go_wp2_with fail
  refine wp_region_over (by kernel_rfl) (by kernel_rfl) ?_
  repeat (go_big_quiet_step (fail))
  refine wpQuiet_nil ?_
  intro w2 kb2
  have hN2 := hN1.below kb2
  have kbT := kb1.bt kb2
  clear kb2 kb1 hN1 l1 l10 l11 l12 hN
  go_upto_region 7 with fail
  go_cut [32] (fun z wx => z = .bool (decide (0 ≤ a0 ∧ a0 ≤ 15)) ∧ wx = w2)
  case first =>
    by_cases h0 : 0 ≤ a0
    · by_cases h1 : a0 ≤ 15
      · have h2 : a0 < 16 := by omega
        go_wp2_with fail
        go_meet
        exact ⟨congrArg Value.bool (decide_eq_true (p := 0 ≤ a0 ∧ a0 ≤ 15) ⟨h0, h1⟩).symm, rfl⟩
      · have h2 : ¬ a0 < 16 := by omega
        go_wp2_with fail
        go_meet
        exact ⟨congrArg Value.bool (decide_eq_false (p := 0 ≤ a0 ∧ a0 ≤ 15) fun h => by omega).symm, rfl⟩
    · go_wp2_with fail
      go_meet
      exact ⟨congrArg Value.bool (decide_eq_false (p := 0 ≤ a0 ∧ a0 ≤ 15) fun h => by omega).symm, rfl⟩
  case rest =>
    obtain ⟨hc, hw⟩ := hcut
    subst hc hw
    go_upto_if 32 with (fail)
    go_cut [8] (fun z wx => z = .string ⟨⟨wantF a0 a1⟩⟩ ∧ Below w.heap.size w wx)
    case first =>
      by_cases hr : 0 ≤ a0 ∧ a0 ≤ 15
      · rw [decide_eq_true hr]
        obtain ⟨n, rfl⟩ : ∃ n : Nat, a0 = n := ⟨a0.toNat, by omega⟩
        have hn : n < 16 := by omega
        go_wp2_with fail
        refine (regs_run _ hN2).mono ?_
        rintro e w3 ⟨rfl, kb3⟩
        have kbT := kbT.bt kb3
        have HN3 := Lib.hid (hN2.below kb3)
        clear kb3
        have c0 : (w3.alloc (.cells ⟨regC⟩ 34)).cell? ⟨w3.heap.size, n * 4, none⟩ = some (.string ⟨⟨regN n 3⟩⟩) := blk_cell (blk_new w3 _) (by simpa using regC_at hn (k := 0) (by decide))
        have c1 : (w3.alloc (.cells ⟨regC⟩ 34)).cell? ⟨w3.heap.size, n * 4 + 1, none⟩ = some (.string ⟨⟨regN n 2⟩⟩) := blk_cell (blk_new w3 _) (by simpa using regC_at hn (k := 1) (by decide))
        have c2 : (w3.alloc (.cells ⟨regC⟩ 34)).cell? ⟨w3.heap.size, n * 4 + 2, none⟩ = some (.string ⟨⟨regN n 1⟩⟩) := blk_cell (blk_new w3 _) (by simpa using regC_at hn (k := 2) (by decide))
        have c3 : (w3.alloc (.cells ⟨regC⟩ 34)).cell? ⟨w3.heap.size, n * 4 + 3, none⟩ = some (.string ⟨⟨regN n 0⟩⟩) := blk_cell (blk_new w3 _) (by simpa using regC_at hn (k := 3) (by decide))
        have HW : Hid (∀ x : Int, wantF n x = if x = 8 then regN n 3 else if x = 4 then regN n 2 else if x = 2 then regN n 1 else if x = 1 then regN n 0 else []) := Lib.hid (fun x => by unfold wantF; rw [if_pos hr, Int.toNat_natCast])
        have HT := Lib.hid (below_alloc (.cells ⟨regC⟩ 34) kbT)
        clear hr
        by_cases h8 : a1 = 8
        · subst h8
          go_wp2_with (refine wpList_store_new (cs := ⟨regC⟩) (by rfl) 34 _ _ (by rfl) (by rfl) (by rfl) (by rfl) (by kernel_rfl) (by kernel_rfl) ?_)
          go_meet
          exact ⟨by rw [HW.out]; rfl, HT.out⟩
        by_cases h4 : a1 = 4
        · subst h4
          go_wp2_with (refine wpList_store_new (cs := ⟨regC⟩) (by rfl) 34 _ _ (by rfl) (by rfl) (by rfl) (by rfl) (by kernel_rfl) (by kernel_rfl) ?_)
          go_meet
          exact ⟨by rw [HW.out]; rfl, HT.out⟩
        by_cases h2 : a1 = 2
        · subst h2
          go_wp2_with (refine wpList_store_new (cs := ⟨regC⟩) (by rfl) 34 _ _ (by rfl) (by rfl) (by rfl) (by rfl) (by kernel_rfl) (by kernel_rfl) ?_)
          go_meet
          exact ⟨by rw [HW.out]; rfl, HT.out⟩
        by_cases h1 : a1 = 1
        · subst h1
          go_wp2_with (refine wpList_store_new (cs := ⟨regC⟩) (by rfl) 34 _ _ (by rfl) (by rfl) (by rfl) (by rfl) (by kernel_rfl) (by kernel_rfl) ?_)
          go_meet
          exact ⟨by rw [HW.out]; rfl, HT.out⟩
        have b8 : (a1 == 8) = false := by simpa using h8
        have b4 : (a1 == 4) = false := by simpa using h4
        have b2 : (a1 == 2) = false := by simpa using h2
        have b1 : (a1 == 1) = false := by simpa using h1
        go_wp2_with (refine wpList_store_new (cs := ⟨regC⟩) (by rfl) 34 _ _ (by rfl) (by rfl) (by rfl) (by rfl) (by kernel_rfl) (by kernel_rfl) ?_)
        go_meet
        exact ⟨by rw [HW.out, if_neg h8, if_neg h4, if_neg h2, if_neg h1], HT.out⟩
      · rw [decide_eq_false hr]
        have hw : wantF a0 a1 = [] := by unfold wantF; rw [if_neg hr]
        go_wp2_with fail
        go_meet
        exact ⟨by rw [hw], kbT⟩
    case rest =>
      obtain ⟨hc8, kbc⟩ := hcut
      subst hc8
      have HB := Lib.hid kbc
      clear kbc kbT hN2
      go_upto_region 19 with fail
      go_cut [64] (fun z wx => z = .bool (decide (0 ≤ a2 ∧ a2 ≤ 9)) ∧ wx = wc)
      case first =>
        by_cases h0 : 0 ≤ a2
        · by_cases h1 : a2 ≤ 9
          · go_wp2_with fail
            go_meet
            exact ⟨congrArg Value.bool (decide_eq_true (p := 0 ≤ a2 ∧ a2 ≤ 9) ⟨h0, h1⟩).symm, rfl⟩
          · go_wp2_with fail
            go_meet
            exact ⟨congrArg Value.bool (decide_eq_false (p := 0 ≤ a2 ∧ a2 ≤ 9) fun h => by omega).symm, rfl⟩
        · go_wp2_with fail
          go_meet
          exact ⟨congrArg Value.bool (decide_eq_false (p := 0 ≤ a2 ∧ a2 ≤ 9) fun h => by omega).symm, rfl⟩
      case rest =>
        obtain ⟨hc, hw⟩ := hcut
        subst hc hw
        go_upto_if 64 with (fail)
        go_cut [10] (fun z wx => z = .string ⟨⟨condF a2⟩⟩ ∧ Below w.heap.size w wx)
        case first =>
          by_cases hr : 0 ≤ a2 ∧ a2 ≤ 9
          · rw [decide_eq_true hr]
            obtain ⟨n, rfl⟩ : ∃ n : Nat, a2 = n := ⟨a2.toNat, by omega⟩
            have hn : n < 10 := by omega
            go_wp2_with fail
            go_meet
            exact ⟨cond_list hn, below_alloc _ HB.out⟩
          · rw [decide_eq_false hr]
            have hw : condF a2 = [] := by unfold condF; rw [if_neg hr]
            go_wp2_with fail
            go_meet
            exact ⟨by rw [hw], HB.out⟩
        case rest =>
          obtain ⟨hc10, kbd⟩ := hcut
          subst hc10
          have HB := Lib.hid kbd
          have HN := Lib.hid (HN0.out.below kbd)
          clear kbd
          obtain ⟨k, hk, ek⟩ := and_bits a1 2 (by decide)
          have ek : bits .and .i64 a1 3 = (k : Int) := ek
          obtain ⟨g, hg⟩ : ∃ g, decide (0 < bits .and .i64 a1 4) = g := ⟨_, rfl⟩
          have hkc : k = 0 ∨ k = 1 ∨ k = 2 ∨ k = 3 := by omega
          clear hk
          rcases hkc with rfl | rfl | rfl | rfl
          · have ek : bits .and .i64 a1 3 = 0 := ek
            cases g
            · go_wp2_with fail
              refine (move_all _ HN.out 0 false (by decide)).mono ?_
              rintro e v0 ⟨rfl, kv0⟩
              have HB := Lib.hid (HB.out.bt kv0)
              have HN := Lib.hid (HN.out.below kv0)
              clear kv0
              go_wp2_with fail
              refine (wide_all _ HN.out 0 false (by decide)).mono ?_
              rintro e v1 ⟨rfl, kv1⟩
              have HB := Lib.hid (HB.out.bt kv1)
              have HN := Lib.hid (HN.out.below kv1)
              clear kv1
              go_wp2_with fail
              refine (reg_all _ HN.out a0 a1).mono ?_
              rintro e v2 ⟨rfl, kv2⟩
              have HB := Lib.hid (HB.out.bt kv2)
              have HN := Lib.hid (HN.out.below kv2)
              clear kv2
              go_wp2_with fail
              refine (cond_all _ HN.out a2).mono ?_
              rintro e v3 ⟨rfl, kv3⟩
              have HB := Lib.hid (HB.out.bt kv3)
              have HN := Lib.hid (HN.out.below kv3)
              clear kv3
              go_wp2_with fail
              refine (named_any _ s hs).mono ?_
              rintro e v4 ⟨rfl, kv4⟩
              have HB := Lib.hid (HB.out.bt kv4)
              clear kv4
              go_wp2_with fail
              refine (rnamed_any _ s hs).mono ?_
              rintro e v5 ⟨rfl, kv5⟩
              have HB := Lib.hid (HB.out.bt kv5)
              clear kv5
              go_wp2_with fail
              go_returns
              exact ⟨by simp, HB.out⟩
            · go_wp2_with fail
              refine (move_all _ HN.out 0 true (by decide)).mono ?_
              rintro e v0 ⟨rfl, kv0⟩
              have HB := Lib.hid (HB.out.bt kv0)
              have HN := Lib.hid (HN.out.below kv0)
              clear kv0
              go_wp2_with fail
              refine (wide_all _ HN.out 0 true (by decide)).mono ?_
              rintro e v1 ⟨rfl, kv1⟩
              have HB := Lib.hid (HB.out.bt kv1)
              have HN := Lib.hid (HN.out.below kv1)
              clear kv1
              go_wp2_with fail
              refine (reg_all _ HN.out a0 a1).mono ?_
              rintro e v2 ⟨rfl, kv2⟩
              have HB := Lib.hid (HB.out.bt kv2)
              have HN := Lib.hid (HN.out.below kv2)
              clear kv2
              go_wp2_with fail
              refine (cond_all _ HN.out a2).mono ?_
              rintro e v3 ⟨rfl, kv3⟩
              have HB := Lib.hid (HB.out.bt kv3)
              have HN := Lib.hid (HN.out.below kv3)
              clear kv3
              go_wp2_with fail
              refine (named_any _ s hs).mono ?_
              rintro e v4 ⟨rfl, kv4⟩
              have HB := Lib.hid (HB.out.bt kv4)
              clear kv4
              go_wp2_with fail
              refine (rnamed_any _ s hs).mono ?_
              rintro e v5 ⟨rfl, kv5⟩
              have HB := Lib.hid (HB.out.bt kv5)
              clear kv5
              go_wp2_with fail
              go_returns
              exact ⟨by simp, HB.out⟩
          · have ek : bits .and .i64 a1 3 = 1 := ek
            cases g
            · go_wp2_with fail
              refine (move_all _ HN.out 1 false (by decide)).mono ?_
              rintro e v0 ⟨rfl, kv0⟩
              have HB := Lib.hid (HB.out.bt kv0)
              have HN := Lib.hid (HN.out.below kv0)
              clear kv0
              go_wp2_with fail
              refine (wide_all _ HN.out 1 false (by decide)).mono ?_
              rintro e v1 ⟨rfl, kv1⟩
              have HB := Lib.hid (HB.out.bt kv1)
              have HN := Lib.hid (HN.out.below kv1)
              clear kv1
              go_wp2_with fail
              refine (reg_all _ HN.out a0 a1).mono ?_
              rintro e v2 ⟨rfl, kv2⟩
              have HB := Lib.hid (HB.out.bt kv2)
              have HN := Lib.hid (HN.out.below kv2)
              clear kv2
              go_wp2_with fail
              refine (cond_all _ HN.out a2).mono ?_
              rintro e v3 ⟨rfl, kv3⟩
              have HB := Lib.hid (HB.out.bt kv3)
              have HN := Lib.hid (HN.out.below kv3)
              clear kv3
              go_wp2_with fail
              refine (named_any _ s hs).mono ?_
              rintro e v4 ⟨rfl, kv4⟩
              have HB := Lib.hid (HB.out.bt kv4)
              clear kv4
              go_wp2_with fail
              refine (rnamed_any _ s hs).mono ?_
              rintro e v5 ⟨rfl, kv5⟩
              have HB := Lib.hid (HB.out.bt kv5)
              clear kv5
              go_wp2_with fail
              go_returns
              exact ⟨by simp, HB.out⟩
            · go_wp2_with fail
              refine (move_all _ HN.out 1 true (by decide)).mono ?_
              rintro e v0 ⟨rfl, kv0⟩
              have HB := Lib.hid (HB.out.bt kv0)
              have HN := Lib.hid (HN.out.below kv0)
              clear kv0
              go_wp2_with fail
              refine (wide_all _ HN.out 1 true (by decide)).mono ?_
              rintro e v1 ⟨rfl, kv1⟩
              have HB := Lib.hid (HB.out.bt kv1)
              have HN := Lib.hid (HN.out.below kv1)
              clear kv1
              go_wp2_with fail
              refine (reg_all _ HN.out a0 a1).mono ?_
              rintro e v2 ⟨rfl, kv2⟩
              have HB := Lib.hid (HB.out.bt kv2)
              have HN := Lib.hid (HN.out.below kv2)
              clear kv2
              go_wp2_with fail
              refine (cond_all _ HN.out a2).mono ?_
              rintro e v3 ⟨rfl, kv3⟩
              have HB := Lib.hid (HB.out.bt kv3)
              have HN := Lib.hid (HN.out.below kv3)
              clear kv3
              go_wp2_with fail
              refine (named_any _ s hs).mono ?_
              rintro e v4 ⟨rfl, kv4⟩
              have HB := Lib.hid (HB.out.bt kv4)
              clear kv4
              go_wp2_with fail
              refine (rnamed_any _ s hs).mono ?_
              rintro e v5 ⟨rfl, kv5⟩
              have HB := Lib.hid (HB.out.bt kv5)
              clear kv5
              go_wp2_with fail
              go_returns
              exact ⟨by simp, HB.out⟩
          · have ek : bits .and .i64 a1 3 = 2 := ek
            cases g
            · go_wp2_with fail
              refine (move_all _ HN.out 2 false (by decide)).mono ?_
              rintro e v0 ⟨rfl, kv0⟩
              have HB := Lib.hid (HB.out.bt kv0)
              have HN := Lib.hid (HN.out.below kv0)
              clear kv0
              go_wp2_with fail
              refine (wide_all _ HN.out 2 false (by decide)).mono ?_
              rintro e v1 ⟨rfl, kv1⟩
              have HB := Lib.hid (HB.out.bt kv1)
              have HN := Lib.hid (HN.out.below kv1)
              clear kv1
              go_wp2_with fail
              refine (reg_all _ HN.out a0 a1).mono ?_
              rintro e v2 ⟨rfl, kv2⟩
              have HB := Lib.hid (HB.out.bt kv2)
              have HN := Lib.hid (HN.out.below kv2)
              clear kv2
              go_wp2_with fail
              refine (cond_all _ HN.out a2).mono ?_
              rintro e v3 ⟨rfl, kv3⟩
              have HB := Lib.hid (HB.out.bt kv3)
              have HN := Lib.hid (HN.out.below kv3)
              clear kv3
              go_wp2_with fail
              refine (named_any _ s hs).mono ?_
              rintro e v4 ⟨rfl, kv4⟩
              have HB := Lib.hid (HB.out.bt kv4)
              clear kv4
              go_wp2_with fail
              refine (rnamed_any _ s hs).mono ?_
              rintro e v5 ⟨rfl, kv5⟩
              have HB := Lib.hid (HB.out.bt kv5)
              clear kv5
              go_wp2_with fail
              go_returns
              exact ⟨by simp, HB.out⟩
            · go_wp2_with fail
              refine (move_all _ HN.out 2 true (by decide)).mono ?_
              rintro e v0 ⟨rfl, kv0⟩
              have HB := Lib.hid (HB.out.bt kv0)
              have HN := Lib.hid (HN.out.below kv0)
              clear kv0
              go_wp2_with fail
              refine (wide_all _ HN.out 2 true (by decide)).mono ?_
              rintro e v1 ⟨rfl, kv1⟩
              have HB := Lib.hid (HB.out.bt kv1)
              have HN := Lib.hid (HN.out.below kv1)
              clear kv1
              go_wp2_with fail
              refine (reg_all _ HN.out a0 a1).mono ?_
              rintro e v2 ⟨rfl, kv2⟩
              have HB := Lib.hid (HB.out.bt kv2)
              have HN := Lib.hid (HN.out.below kv2)
              clear kv2
              go_wp2_with fail
              refine (cond_all _ HN.out a2).mono ?_
              rintro e v3 ⟨rfl, kv3⟩
              have HB := Lib.hid (HB.out.bt kv3)
              have HN := Lib.hid (HN.out.below kv3)
              clear kv3
              go_wp2_with fail
              refine (named_any _ s hs).mono ?_
              rintro e v4 ⟨rfl, kv4⟩
              have HB := Lib.hid (HB.out.bt kv4)
              clear kv4
              go_wp2_with fail
              refine (rnamed_any _ s hs).mono ?_
              rintro e v5 ⟨rfl, kv5⟩
              have HB := Lib.hid (HB.out.bt kv5)
              clear kv5
              go_wp2_with fail
              go_returns
              exact ⟨by simp, HB.out⟩
          · have ek : bits .and .i64 a1 3 = 3 := ek
            cases g
            · go_wp2_with fail
              refine (move_all _ HN.out 3 false (by decide)).mono ?_
              rintro e v0 ⟨rfl, kv0⟩
              have HB := Lib.hid (HB.out.bt kv0)
              have HN := Lib.hid (HN.out.below kv0)
              clear kv0
              go_wp2_with fail
              refine (wide_all _ HN.out 3 false (by decide)).mono ?_
              rintro e v1 ⟨rfl, kv1⟩
              have HB := Lib.hid (HB.out.bt kv1)
              have HN := Lib.hid (HN.out.below kv1)
              clear kv1
              go_wp2_with fail
              refine (reg_all _ HN.out a0 a1).mono ?_
              rintro e v2 ⟨rfl, kv2⟩
              have HB := Lib.hid (HB.out.bt kv2)
              have HN := Lib.hid (HN.out.below kv2)
              clear kv2
              go_wp2_with fail
              refine (cond_all _ HN.out a2).mono ?_
              rintro e v3 ⟨rfl, kv3⟩
              have HB := Lib.hid (HB.out.bt kv3)
              have HN := Lib.hid (HN.out.below kv3)
              clear kv3
              go_wp2_with fail
              refine (named_any _ s hs).mono ?_
              rintro e v4 ⟨rfl, kv4⟩
              have HB := Lib.hid (HB.out.bt kv4)
              clear kv4
              go_wp2_with fail
              refine (rnamed_any _ s hs).mono ?_
              rintro e v5 ⟨rfl, kv5⟩
              have HB := Lib.hid (HB.out.bt kv5)
              clear kv5
              go_wp2_with fail
              go_returns
              exact ⟨by simp, HB.out⟩
            · go_wp2_with fail
              refine (move_all _ HN.out 3 false (by decide)).mono ?_
              rintro e v0 ⟨rfl, kv0⟩
              have HB := Lib.hid (HB.out.bt kv0)
              have HN := Lib.hid (HN.out.below kv0)
              clear kv0
              go_wp2_with fail
              refine (wide_all _ HN.out 3 false (by decide)).mono ?_
              rintro e v1 ⟨rfl, kv1⟩
              have HB := Lib.hid (HB.out.bt kv1)
              have HN := Lib.hid (HN.out.below kv1)
              clear kv1
              go_wp2_with fail
              refine (reg_all _ HN.out a0 a1).mono ?_
              rintro e v2 ⟨rfl, kv2⟩
              have HB := Lib.hid (HB.out.bt kv2)
              have HN := Lib.hid (HN.out.below kv2)
              clear kv2
              go_wp2_with fail
              refine (cond_all _ HN.out a2).mono ?_
              rintro e v3 ⟨rfl, kv3⟩
              have HB := Lib.hid (HB.out.bt kv3)
              have HN := Lib.hid (HN.out.below kv3)
              clear kv3
              go_wp2_with fail
              refine (named_any _ s hs).mono ?_
              rintro e v4 ⟨rfl, kv4⟩
              have HB := Lib.hid (HB.out.bt kv4)
              clear kv4
              go_wp2_with fail
              refine (rnamed_any _ s hs).mono ?_
              rintro e v5 ⟨rfl, kv5⟩
              have HB := Lib.hid (HB.out.bt kv5)
              clear kv5
              go_wp2_with fail
              go_returns
              exact ⟨by simp, HB.out⟩
end Go.Proofs.YtpkbkmppkgeklaaDoor
