/- read.one: a part of a line. No condition. -/
import Derived.Test.YtmmpkkpmlaiapaaGreatDoorQa
import Derived.Test.YtmmpkkpmlaiapaaGreatDoorQd
import Derived.Test.YtmmpkkpmlaiapaaGreatDoorAsN
namespace Go.Proofs.YtmmpkkpmlaiapaaGreatDoor
open Go.RowKit
set_option linter.unusedVariables false
set_option maxHeartbeats 4000000
set_option maxRecDepth 100000
structure Opd where
  kind : Int
  reg : Int
  size : Int
  num : Int
  name : List UInt8
def opdV (o : Opd) : Array Value := #[.int .i64 o.kind, .int .i64 o.reg, .int .i64 o.size, .int .i64 o.num, .string ⟨⟨o.name⟩⟩]
def ripL : List UInt8 := [40, 37, 114, 105, 112, 41]
def NumV (s : List UInt8) (v : Int) (b : Bool) : Prop := In64 v ∧ b = (numF s).isSome ∧ ∀ u, numF s = some u → v = u
def OneR (s : List UInt8) (o : Opd) (b : Bool) : Prop :=
  ∃ r sz, RegS s r sz ∧
    ((0 ≤ r ∧ o = ⟨1, r, sz, 0, []⟩ ∧ b = true) ∨
     (r < 0 ∧ Lib.hasPrefix s [36] = true ∧ ∃ v, NumV (Lib.trimPrefix s [36]) v b ∧ o = ⟨2, 0, 0, v, []⟩) ∨
     (r < 0 ∧ Lib.hasPrefix s [36] = false ∧ Lib.hasPrefix s [42] = true ∧ ∃ r2 sz2, RegS (Lib.trimPrefix s [42]) r2 sz2 ∧ o = ⟨6, r2, 0, 0, []⟩ ∧ b = (decide (r2 ≥ 0) && (sz2 == 8))) ∨
     (r < 0 ∧ Lib.hasPrefix s [36] = false ∧ Lib.hasPrefix s [42] = false ∧ Lib.hasSuffix s ripL = true ∧ o = ⟨4, 0, 0, 0, Lib.trimSuffix s ripL⟩ ∧ b = namedB ⟨⟨Lib.trimSuffix s ripL⟩⟩) ∨
     (r < 0 ∧ Lib.hasPrefix s [36] = false ∧ Lib.hasPrefix s [42] = false ∧ Lib.hasSuffix s ripL = false ∧ Lib.hasSuffix s [41] = true ∧
        ∃ r2 sz2 v g, RegS (Lib.cut (Lib.trimSuffix s [41]) [40]).2.1 r2 sz2 ∧ (((Lib.cut (Lib.trimSuffix s [41]) [40]).1 = [] ∧ v = 0 ∧ g = true) ∨ ((Lib.cut (Lib.trimSuffix s [41]) [40]).1 ≠ [] ∧ NumV (Lib.cut (Lib.trimSuffix s [41]) [40]).1 v g)) ∧
          o = ⟨3, r2, 0, v, []⟩ ∧ b = ((Lib.cut (Lib.trimSuffix s [41]) [40]).2.2 && g && decide (r2 ≥ 0) && (sz2 == 8))) ∨
     (r < 0 ∧ Lib.hasPrefix s [36] = false ∧ Lib.hasPrefix s [42] = false ∧ Lib.hasSuffix s ripL = false ∧ Lib.hasSuffix s [41] = false ∧ o = ⟨5, 0, 0, 0, s⟩ ∧ b = namedB ⟨⟨s⟩⟩))
def OneO (s : List UInt8) (w : World) (e : Ending) (w' : World) : Prop := ∃ o b, e = .returned (.tuple #[.agg (opdV o), .bool b]) ∧ OneR s o b ∧ Below w.heap.size w w'
theorem trimPrefix_le (s p : List UInt8) : (⟨(Lib.trimPrefix s p).toArray⟩ : ByteArray).size ≤ s.length := by
  show (Lib.trimPrefix s p).length ≤ _
  unfold Lib.trimPrefix
  split <;> simp
theorem trimSuffix_le (s p : List UInt8) : (⟨(Lib.trimSuffix s p).toArray⟩ : ByteArray).size ≤ s.length := by
  show (Lib.trimSuffix s p).length ≤ _
  unfold Lib.trimSuffix
  split <;> simp <;> omega
theorem cut_le (s p : List UInt8) : (⟨(Lib.cut s p).1.toArray⟩ : ByteArray).size ≤ s.length := by
  show (Lib.cut s p).1.length ≤ _
  unfold Lib.cut
  split
  · simp; omega
  · exact Nat.le_refl _
theorem one_any (w : World) (hR : RdOk w) (hG : GsOk w) (s : ByteArray) (hs : s.size ≤ 1000000) : Calls Tryz.prog 42 #[.string s] w (OneO s.data.toList w) := by
  have HR := Lib.hid hR
  have HG := Lib.hid hG
  have HS := Lib.hid hs
  clear hR hG hs
  have HX0 := Lib.hid (blk_new w (.cells #[.int .i64 0, .int .i64 0, .int .i64 0, .int .i64 0, .string ⟨#[]⟩] 90))
  have HB0 := Lib.hid (below_alloc (.cells #[.int .i64 0, .int .i64 0, .int .i64 0, .int .i64 0, .string ⟨#[]⟩] 90) (Below.refl w.heap.size w))
  go_enter Tryz.func42, Tryz.ntmps42
  go_upto_region 1 with (fail)
  obtain ⟨w1, hw1⟩ : ∃ z, z = w.alloc (.cells #[.int .i64 0, .int .i64 0, .int .i64 0, .int .i64 0, .string ⟨#[]⟩] 90) := ⟨_, rfl⟩
  obtain ⟨g, hg⟩ : ∃ z, z = w.heap.size := ⟨_, rfl⟩
  have HGE := Lib.hid (show w.heap.size ≤ g by rw [hg]; exact Nat.le_refl _)
  rw [← hw1] at HX0 HB0 ⊢
  rw [← hg] at HX0 ⊢
  clear hw1 hg
  go_wp2_with fail
  refine (rreg_any w1 (HG.out.below HB0.out) s).mono ?_
  rintro e w2 ⟨r, sz, rfl, hrs, hb⟩
  have HRS := Lib.hid hrs
  have HB2 := Lib.hid (HB0.out.trans (hb.mono HB0.out.size))
  have HX2 := Lib.hid (blk_below HX0.out hb)
  clear hrs hb HX0 HB0
  by_cases hr0 : 0 ≤ r
  · have d1 : decide (r ≥ 0) = true := decide_eq_true hr0
    have d2 : decide (0 ≤ r) = true := decide_eq_true hr0
    have HR0 := Lib.hid hr0
    clear hr0
    go_wp2_with (refine wpList_store_blk (by rfl) 90 _ _ (by rfl) g (by rfl) (by rfl) HX2.out (by rfl) (by kernel_rfl) (by kernel_rfl) ?_; intro x7 k7 hb7 hz7 ho7; obtain ⟨q0, q1, q2, q3, q4⟩ := c5q k7)
    refine bodyPost_ret (by simp [results, Tryz.results42, go_sem, q0, q1, q2, q3, q4]; try rfl) rfl ?_
    exact ⟨⟨1, r, sz, 0, []⟩, true, rfl, ⟨r, sz, HRS.out, Or.inl ⟨HR0.out, rfl, rfl⟩⟩, hb7 _ _ HGE.out HB2.out⟩
  · have d1 : decide (r ≥ 0) = false := decide_eq_false hr0
    have d2 : decide (0 ≤ r) = false := decide_eq_false hr0
    have HR0 := Lib.hid (show r < 0 by omega)
    clear hr0
    obtain ⟨T36, hT36⟩ : ∃ T : ByteArray, T = ⟨(Lib.trimPrefix s.data.toList [36]).toArray⟩ := ⟨_, rfl⟩
    obtain ⟨f36, hf36⟩ : ∃ f : Bool, f = Lib.hasPrefix s.data.toList [36] := ⟨_, rfl⟩
    have HC36 := Lib.hid (show ∀ W, Calls Tryz.prog 33 #[.string s, .string ⟨#[36]⟩] W (fun e w' => e = .returned (.tuple #[.string T36, .bool f36]) ∧ w' = W) from fun W => by rw [hT36, hf36]; exact Tryz.strings_CutPrefix s ⟨#[36]⟩ W)
    have HT36 := Lib.hid hT36
    have HF36 := Lib.hid hf36
    have HL36 := Lib.hid (show T36.size ≤ 1000000 by rw [hT36]; exact Nat.le_trans (trimPrefix_le s.data.toList [36]) HS.out)
    clear hT36 hf36
    go_wp2_with fail
    refine (HC36.out _).mono ?_
    rintro e wz ⟨rfl, hz⟩
    subst hz
    clear HC36
    cases hf36 : f36 with
    | true =>
      have HF := Lib.hid hf36
      subst hf36
      go_wp2_with fail
      refine (number_any wz (HR.out.later HB2.out) T36 HL36.out).mono ?_
      rintro e w3 ⟨v, hv, rfl, hu, hb⟩
      have HV := Lib.hid hv
      have HU := Lib.hid hu
      have HX3 := Lib.hid (blk_below HX2.out hb)
      have HB3 := Lib.hid (HB2.out.trans (hb.mono HB2.out.size))
      clear hv hu hb
      go_wp2_with (refine wpList_store_blk (by rfl) 90 _ _ (by rfl) g (by rfl) (by rfl) HX3.out (by rfl) (by kernel_rfl) (by kernel_rfl) ?_; intro x7 k7 hb7 hz7 ho7; obtain ⟨q0, q1, q2, q3, q4⟩ := c5q k7)
      refine bodyPost_ret (by simp [results, Tryz.results42, go_sem, q0, q1, q2, q3, q4]; try rfl) rfl ?_
      have e1 : T36.data.toList = Lib.trimPrefix s.data.toList [36] := by rw [HT36.out]
      refine ⟨⟨2, 0, 0, v, []⟩, _, rfl, ⟨r, sz, HRS.out, Or.inr (Or.inl ⟨HR0.out, HF36.out.symm, v, ⟨HV.out, by rw [e1], fun u h => HU.out u (by rw [e1]; exact h)⟩, rfl⟩)⟩, hb7 _ _ HGE.out HB3.out⟩
    | false =>
      have HF := Lib.hid hf36
      subst hf36
      obtain ⟨T42, hT42⟩ : ∃ T : ByteArray, T = ⟨(Lib.trimPrefix s.data.toList [42]).toArray⟩ := ⟨_, rfl⟩
      obtain ⟨f42, hf42⟩ : ∃ f : Bool, f = Lib.hasPrefix s.data.toList [42] := ⟨_, rfl⟩
      have HC42 := Lib.hid (show ∀ W, Calls Tryz.prog 33 #[.string s, .string ⟨#[42]⟩] W (fun e w' => e = .returned (.tuple #[.string T42, .bool f42]) ∧ w' = W) from fun W => by rw [hT42, hf42]; exact Tryz.strings_CutPrefix s ⟨#[42]⟩ W)
      have HT42 := Lib.hid hT42
      have HF42 := Lib.hid hf42
      have HL42 := Lib.hid (show T42.size ≤ 1000000 by rw [hT42]; exact Nat.le_trans (trimPrefix_le s.data.toList [42]) HS.out)
      clear hT42 hf42
      go_wp2_with fail
      refine (HC42.out _).mono ?_
      rintro e wz ⟨rfl, hz⟩
      subst hz
      clear HC42
      cases hf42 : f42 with
      | true =>
        have HFF := Lib.hid hf42
        subst hf42
        go_wp2_with fail
        refine (rreg_any wz (HG.out.below HB2.out) T42).mono ?_
        rintro e w3 ⟨r2, sz2, rfl, hrs, hb⟩
        have HRS2 := Lib.hid hrs
        have HX3 := Lib.hid (blk_below HX2.out hb)
        have HB3 := Lib.hid (HB2.out.trans (hb.mono HB2.out.size))
        clear hrs hb
        by_cases h2 : 0 ≤ r2
        · have d3 : decide (r2 ≥ 0) = true := decide_eq_true h2
          have d4 : decide (0 ≤ r2) = true := decide_eq_true h2
          have H2 := Lib.hid h2
          clear h2
          go_wp2_with (refine wpList_store_blk (by rfl) 90 _ _ (by rfl) g (by rfl) (by rfl) HX3.out (by rfl) (by kernel_rfl) (by kernel_rfl) ?_; intro x7 k7 hb7 hz7 ho7; obtain ⟨q0, q1, q2, q3, q4⟩ := c5q k7)
          refine bodyPost_ret (by simp [results, Tryz.results42, go_sem, q0, q1, q2, q3, q4]; try rfl) rfl ?_
          exact ⟨⟨6, r2, 0, 0, []⟩, _, rfl, ⟨r, sz, HRS.out, Or.inr (Or.inr (Or.inl ⟨HR0.out, HF36.out.symm, HF42.out.symm, r2, sz2, by have h := HRS2.out; rw [HT42.out] at h; exact h, rfl, by rw [decide_eq_true (show r2 ≥ 0 from H2.out), Bool.true_and]⟩))⟩, hb7 _ _ HGE.out HB3.out⟩
        · have d3 : decide (r2 ≥ 0) = false := decide_eq_false h2
          have d4 : decide (0 ≤ r2) = false := decide_eq_false h2
          have H2 := Lib.hid h2
          clear h2
          go_wp2_with (refine wpList_store_blk (by rfl) 90 _ _ (by rfl) g (by rfl) (by rfl) HX3.out (by rfl) (by kernel_rfl) (by kernel_rfl) ?_; intro x7 k7 hb7 hz7 ho7; obtain ⟨q0, q1, q2, q3, q4⟩ := c5q k7)
          refine bodyPost_ret (by simp [results, Tryz.results42, go_sem, q0, q1, q2, q3, q4]; try rfl) rfl ?_
          exact ⟨⟨6, r2, 0, 0, []⟩, _, rfl, ⟨r, sz, HRS.out, Or.inr (Or.inr (Or.inl ⟨HR0.out, HF36.out.symm, HF42.out.symm, r2, sz2, by have h := HRS2.out; rw [HT42.out] at h; exact h, rfl, by rw [decide_eq_false (show ¬ r2 ≥ 0 by have := H2.out; omega), Bool.false_and]⟩))⟩, hb7 _ _ HGE.out HB3.out⟩
      | false =>
        have HFF := Lib.hid hf42
        subst hf42
        obtain ⟨TR, hTR⟩ : ∃ T : ByteArray, T = ⟨(Lib.trimSuffix s.data.toList ripL).toArray⟩ := ⟨_, rfl⟩
        obtain ⟨fR, hfR⟩ : ∃ f : Bool, f = Lib.hasSuffix s.data.toList ripL := ⟨_, rfl⟩
        have HCR := Lib.hid (show ∀ W, Calls Tryz.prog 32 #[.string s, .string ⟨#[40, 37, 114, 105, 112, 41]⟩] W (fun e w' => e = .returned (.tuple #[.string TR, .bool fR]) ∧ w' = W) from fun W => by rw [hTR, hfR]; exact Tryz.strings_CutSuffix s ⟨#[40, 37, 114, 105, 112, 41]⟩ W (Nat.le_trans HS.out (by decide)))
        have HTR := Lib.hid hTR
        have HFR := Lib.hid hfR
        have HLR := Lib.hid (show TR.size ≤ 1000000 by rw [hTR]; exact Nat.le_trans (trimSuffix_le s.data.toList ripL) HS.out)
        clear hTR hfR
        go_wp2_with fail
        refine (HCR.out _).mono ?_
        rintro e wz ⟨rfl, hz⟩
        subst hz
        clear HCR
        cases hfR : fR with
        | true =>
          have HFFR := Lib.hid hfR
          subst hfR
          go_wp2_with fail
          refine (named_any wz TR (Nat.le_trans HLR.out (by unfold maxLen; decide))).mono ?_
          rintro e w3 ⟨rfl, hb⟩
          have HX3 := Lib.hid (blk_below HX2.out hb)
          have HB3 := Lib.hid (HB2.out.trans (hb.mono HB2.out.size))
          clear hb
          go_wp2_with (refine wpList_store_blk (by rfl) 90 _ _ (by rfl) g (by rfl) (by rfl) HX3.out (by rfl) (by kernel_rfl) (by kernel_rfl) ?_; intro x7 k7 hb7 hz7 ho7; obtain ⟨q0, q1, q2, q3, q4⟩ := c5q k7)
          refine bodyPost_ret (by simp [results, Tryz.results42, go_sem, q0, q1, q2, q3, q4]; try rfl) rfl ?_
          refine ⟨⟨4, 0, 0, 0, Lib.trimSuffix s.data.toList ripL⟩, _, ?_, ⟨r, sz, HRS.out, Or.inr (Or.inr (Or.inr (Or.inl ⟨HR0.out, HF36.out.symm, HF42.out.symm, HFR.out.symm, rfl, rfl⟩)))⟩, hb7 _ _ HGE.out HB3.out⟩
          rw [HTR.out]
          rfl
        | false =>
          have HFFR := Lib.hid hfR
          subst hfR
          obtain ⟨TP, hTP⟩ : ∃ T : ByteArray, T = ⟨(Lib.trimSuffix s.data.toList [41]).toArray⟩ := ⟨_, rfl⟩
          obtain ⟨fP, hfP⟩ : ∃ f : Bool, f = Lib.hasSuffix s.data.toList [41] := ⟨_, rfl⟩
          have HCP := Lib.hid (show ∀ W, Calls Tryz.prog 32 #[.string s, .string ⟨#[41]⟩] W (fun e w' => e = .returned (.tuple #[.string TP, .bool fP]) ∧ w' = W) from fun W => by rw [hTP, hfP]; exact Tryz.strings_CutSuffix s ⟨#[41]⟩ W (Nat.le_trans HS.out (by decide)))
          have HTP := Lib.hid hTP
          have HFP := Lib.hid hfP
          have HLP := Lib.hid (show TP.size ≤ 1000000 by rw [hTP]; exact Nat.le_trans (trimSuffix_le s.data.toList [41]) HS.out)
          clear hTP hfP
          go_wp2_with fail
          refine (HCP.out _).mono ?_
          rintro e wz ⟨rfl, hz⟩
          subst hz
          clear HCP
          cases hfP : fP with
          | true =>
            have HFFP := Lib.hid hfP
            subst hfP
            obtain ⟨OF, hOF⟩ : ∃ T : ByteArray, T = ⟨(Lib.cut TP.data.toList [40]).1.toArray⟩ := ⟨_, rfl⟩
            obtain ⟨BA, hBA⟩ : ∃ T : ByteArray, T = ⟨(Lib.cut TP.data.toList [40]).2.1.toArray⟩ := ⟨_, rfl⟩
            obtain ⟨is_, his⟩ : ∃ b : Bool, b = (Lib.cut TP.data.toList [40]).2.2 := ⟨_, rfl⟩
            obtain ⟨mm, hmm⟩ := (HR.out.later HB2.out).ml
            have HCC := Lib.hid (show Calls Tryz.prog 24 #[.string TP, .string ⟨#[40]⟩] wz (fun e w' => e = .returned (.tuple #[.string OF, .string BA, .bool is_]) ∧ ∃ n, w' = wz.drewN n) from by rw [hOF, hBA, his]; exact Tryz.strings_Cut TP ⟨#[40]⟩ mm wz (by have := HLP.out; omega) hmm)
            have HOF := Lib.hid hOF
            have HBA := Lib.hid hBA
            have HIS := Lib.hid his
            have HLO := Lib.hid (show OF.size ≤ 1000000 by rw [hOF]; exact Nat.le_trans (cut_le TP.data.toList [40]) HLP.out)
            clear hOF hBA his hmm mm
            go_wp2_with fail
            refine HCC.out.mono ?_
            rintro e w3 ⟨rfl, nn, hw3⟩
            have hb3 : Below wz.heap.size wz w3 := by rw [hw3]; exact below_drewN (Below.refl _ _) nn
            have HX3 := Lib.hid (blk_below HX2.out hb3)
            have HB3 := Lib.hid (HB2.out.trans (hb3.mono HB2.out.size))
            clear hw3 hb3 HCC
            go_wp2_with fail
            refine (rreg_any w3 (HG.out.below HB3.out) BA).mono ?_
            rintro e w4 ⟨r2, sz2, rfl, hrs, hb⟩
            have HRS2 := Lib.hid hrs
            have HX4 := Lib.hid (blk_below HX3.out hb)
            have HB4 := Lib.hid (HB3.out.trans (hb.mono HB3.out.size))
            clear hrs hb
            have HX5 := Lib.hid (blk_below HX4.out (below_alloc (.cells #[.int .i64 3, .int .i64 r2, .int .i64 0, .int .i64 0, .string ⟨#[]⟩] 90) (Below.refl w4.heap.size w4)))
            have HB5 := Lib.hid (HB4.out.trans ((below_alloc (.cells #[.int .i64 3, .int .i64 r2, .int .i64 0, .int .i64 0, .string ⟨#[]⟩] 90) (Below.refl w4.heap.size w4)).mono HB4.out.size))
            have HZ5 := Lib.hid (blk_new w4 (.cells #[.int .i64 3, .int .i64 r2, .int .i64 0, .int .i64 0, .string ⟨#[]⟩] 90))
            have HNE := Lib.hid (show g < w4.heap.size from blk_lt HX4.out)
            go_upto_region 21 with (fail)
            obtain ⟨w5, hw5⟩ : ∃ z, z = w4.alloc (.cells #[.int .i64 3, .int .i64 r2, .int .i64 0, .int .i64 0, .string ⟨#[]⟩] 90) := ⟨_, rfl⟩
            obtain ⟨g2, hg2⟩ : ∃ z, z = w4.heap.size := ⟨_, rfl⟩
            have HN2 := Lib.hid (show g ≠ g2 by have := HNE.out; omega)
            rw [← hw5] at HX5 HB5 HZ5 ⊢
            rw [← hg2] at HZ5 ⊢
            have HG2 := Lib.hid (show w.heap.size ≤ g2 by rw [hg2]; exact HB4.out.size)
            clear hw5 hg2 HNE
            have HCT := Lib.hid (show Lib.cut (Lib.trimSuffix s.data.toList [41]) [40] = (OF.data.toList, BA.data.toList, is_) by
              have e1 := HTP.out
              rw [HOF.out, HBA.out, HIS.out, e1])
            clear HIS HOF HBA
            by_cases hoe : OF.data.toList = []
            · have dO : OF.toList.isEmpty = true := by rw [Lib.toList_data, hoe]; rfl
              have HOE := Lib.hid hoe
              clear hoe
              obtain ⟨z0, z1, z2, z3, z4⟩ := c5q HZ5.out
              have zl := blk_lt HZ5.out
              cases hi : is_ with
              | false =>
                rw [hi] at HCT
                subst hi
                go_wp2_with (refine wpList_store_blk (by rfl) 90 _ _ (by rfl) g (by rfl) (by rfl) HX5.out (by rfl) (by kernel_rfl) (by kernel_rfl) ?_; intro x7 k7 hb7 hz7 ho7; obtain ⟨q0, q1, q2, q3, q4⟩ := c5q k7)
                refine bodyPost_ret (by simp [results, Tryz.results42, go_sem, q0, q1, q2, q3, q4]; try rfl) rfl ?_
                refine ⟨⟨3, r2, 0, 0, []⟩, _, rfl, ⟨r, sz, HRS.out, Or.inr (Or.inr (Or.inr (Or.inr (Or.inl ⟨HR0.out, HF36.out.symm, HF42.out.symm, HFR.out.symm, HFP.out.symm, r2, sz2, 0, true, ?_, ?_, rfl, ?_⟩))))⟩, hb7 _ _ HGE.out HB5.out⟩
                · rw [HCT.out]; exact HRS2.out
                · rw [HCT.out]; exact Or.inl ⟨HOE.out, rfl, rfl⟩
                · rw [HCT.out]; simp
              | true =>
                rw [hi] at HCT
                subst hi
                by_cases h2 : 0 ≤ r2
                · have d3 : decide (r2 ≥ 0) = true := decide_eq_true h2
                  have d4 : decide (0 ≤ r2) = true := decide_eq_true h2
                  have H2 := Lib.hid h2
                  clear h2
                  go_wp2_with (refine wpList_store_blk (by rfl) 90 _ _ (by rfl) g (by rfl) (by rfl) HX5.out (by rfl) (by kernel_rfl) (by kernel_rfl) ?_; intro x7 k7 hb7 hz7 ho7; obtain ⟨q0, q1, q2, q3, q4⟩ := c5q k7)
                  refine bodyPost_ret (by simp [results, Tryz.results42, go_sem, q0, q1, q2, q3, q4]; try rfl) rfl ?_
                  refine ⟨⟨3, r2, 0, 0, []⟩, _, rfl, ⟨r, sz, HRS.out, Or.inr (Or.inr (Or.inr (Or.inr (Or.inl ⟨HR0.out, HF36.out.symm, HF42.out.symm, HFR.out.symm, HFP.out.symm, r2, sz2, 0, true, ?_, ?_, rfl, ?_⟩))))⟩, hb7 _ _ HGE.out HB5.out⟩
                  · rw [HCT.out]; exact HRS2.out
                  · rw [HCT.out]; exact Or.inl ⟨HOE.out, rfl, rfl⟩
                  · rw [HCT.out]; rw [decide_eq_true (show r2 ≥ 0 by have := H2.out; omega)]; simp
                · have d3 : decide (r2 ≥ 0) = false := decide_eq_false h2
                  have d4 : decide (0 ≤ r2) = false := decide_eq_false h2
                  have H2 := Lib.hid (show ¬ 0 ≤ r2 from h2)
                  clear h2
                  go_wp2_with (refine wpList_store_blk (by rfl) 90 _ _ (by rfl) g (by rfl) (by rfl) HX5.out (by rfl) (by kernel_rfl) (by kernel_rfl) ?_; intro x7 k7 hb7 hz7 ho7; obtain ⟨q0, q1, q2, q3, q4⟩ := c5q k7)
                  refine bodyPost_ret (by simp [results, Tryz.results42, go_sem, q0, q1, q2, q3, q4]; try rfl) rfl ?_
                  refine ⟨⟨3, r2, 0, 0, []⟩, _, rfl, ⟨r, sz, HRS.out, Or.inr (Or.inr (Or.inr (Or.inr (Or.inl ⟨HR0.out, HF36.out.symm, HF42.out.symm, HFR.out.symm, HFP.out.symm, r2, sz2, 0, true, ?_, ?_, rfl, ?_⟩))))⟩, hb7 _ _ HGE.out HB5.out⟩
                  · rw [HCT.out]; exact HRS2.out
                  · rw [HCT.out]; exact Or.inl ⟨HOE.out, rfl, rfl⟩
                  · rw [HCT.out]; rw [decide_eq_false (show ¬ r2 ≥ 0 by have := H2.out; omega)]; simp
            · have dO : OF.toList.isEmpty = false := by rw [Lib.toList_data]; simpa using hoe
              have HOE := Lib.hid hoe
              clear hoe
              go_wp2_with fail
              refine (number_any w5 (HR.out.later HB5.out) OF HLO.out).mono ?_
              rintro e w6 ⟨v, hv, rfl, hu, hb⟩
              have HV := Lib.hid hv
              have HU := Lib.hid hu
              have HX6 := Lib.hid (blk_below HX5.out hb)
              have HZ6 := Lib.hid (blk_below HZ5.out hb)
              have HB6 := Lib.hid (HB5.out.trans (hb.mono HB5.out.size))
              clear hv hu hb
              obtain ⟨gd, hgd⟩ : ∃ b, b = (numF OF.data.toList).isSome := ⟨_, rfl⟩
              rw [← hgd]
              have HGD := Lib.hid hgd
              clear hgd
              have y3 := blk_cell (i := 3) HZ6.out rfl
              have y3f : w6.frozen? ⟨g2, 3, none⟩ = false := blk_free HZ6.out
              have yl := blk_lt HZ6.out
              go_upto_region 23 with (fail)
              have HZ7 := Lib.hid (show (w6.setCell ⟨g2, 3, none⟩ (.int .i64 v)).heap[g2]? = some (.cells #[.int .i64 3, .int .i64 r2, .int .i64 0, .int .i64 v, .string ⟨#[]⟩] 90 (0, 0)) from blk_setCell HZ6.out _)
              have HX7 := Lib.hid (show (w6.setCell ⟨g2, 3, none⟩ (.int .i64 v)).heap[g]? = _ from (Below.heap_setCell _ _ _ g (fun e => HN2.out e)).trans HX6.out)
              have HB7 := Lib.hid (show Below w.heap.size w (w6.setCell ⟨g2, 3, none⟩ (.int .i64 v)) from ⟨HB6.out.os, HB6.out.tape, HB6.out.output, by simpa using HB6.out.size, fun k hk => (Below.heap_setCell _ _ _ k (fun e => by have e2 : k = g2 := e; have := HG2.out; omega)).trans (HB6.out.block k hk)⟩)
              obtain ⟨w7, hw7⟩ : ∃ z, z = w6.setCell ⟨g2, 3, none⟩ (.int .i64 v) := ⟨_, rfl⟩
              rw [← hw7] at HZ7 HX7 HB7 ⊢
              clear hw7 y3 y3f yl
              cases hgd : gd with
              | false =>
                rw [hgd] at HGD
                subst hgd
                obtain ⟨z0, z1, z2, z3, z4⟩ := c5q HZ7.out
                have zl := blk_lt HZ7.out
                cases hi : is_ with
                | false =>
                  rw [hi] at HCT
                  subst hi
                  go_wp2_with (refine wpList_store_blk (by rfl) 90 _ _ (by rfl) g (by rfl) (by rfl) HX7.out (by rfl) (by kernel_rfl) (by kernel_rfl) ?_; intro x7 k7 hb7 hz7 ho7; obtain ⟨q0, q1, q2, q3, q4⟩ := c5q k7)
                  refine bodyPost_ret (by simp [results, Tryz.results42, go_sem, q0, q1, q2, q3, q4]; try rfl) rfl ?_
                  refine ⟨⟨3, r2, 0, v, []⟩, _, rfl, ⟨r, sz, HRS.out, Or.inr (Or.inr (Or.inr (Or.inr (Or.inl ⟨HR0.out, HF36.out.symm, HF42.out.symm, HFR.out.symm, HFP.out.symm, r2, sz2, v, false, ?_, ?_, rfl, ?_⟩))))⟩, hb7 _ _ HGE.out HB7.out⟩
                  · rw [HCT.out]; exact HRS2.out
                  · rw [HCT.out]; exact Or.inr ⟨HOE.out, HV.out, HGD.out, HU.out⟩
                  · rw [HCT.out]; simp
                | true =>
                  rw [hi] at HCT
                  subst hi
                  go_wp2_with (refine wpList_store_blk (by rfl) 90 _ _ (by rfl) g (by rfl) (by rfl) HX7.out (by rfl) (by kernel_rfl) (by kernel_rfl) ?_; intro x7 k7 hb7 hz7 ho7; obtain ⟨q0, q1, q2, q3, q4⟩ := c5q k7)
                  refine bodyPost_ret (by simp [results, Tryz.results42, go_sem, q0, q1, q2, q3, q4]; try rfl) rfl ?_
                  refine ⟨⟨3, r2, 0, v, []⟩, _, rfl, ⟨r, sz, HRS.out, Or.inr (Or.inr (Or.inr (Or.inr (Or.inl ⟨HR0.out, HF36.out.symm, HF42.out.symm, HFR.out.symm, HFP.out.symm, r2, sz2, v, false, ?_, ?_, rfl, ?_⟩))))⟩, hb7 _ _ HGE.out HB7.out⟩
                  · rw [HCT.out]; exact HRS2.out
                  · rw [HCT.out]; exact Or.inr ⟨HOE.out, HV.out, HGD.out, HU.out⟩
                  · rw [HCT.out]; simp
              | true =>
                rw [hgd] at HGD
                subst hgd
                obtain ⟨z0, z1, z2, z3, z4⟩ := c5q HZ7.out
                have zl := blk_lt HZ7.out
                cases hi : is_ with
                | false =>
                  rw [hi] at HCT
                  subst hi
                  go_wp2_with (refine wpList_store_blk (by rfl) 90 _ _ (by rfl) g (by rfl) (by rfl) HX7.out (by rfl) (by kernel_rfl) (by kernel_rfl) ?_; intro x7 k7 hb7 hz7 ho7; obtain ⟨q0, q1, q2, q3, q4⟩ := c5q k7)
                  refine bodyPost_ret (by simp [results, Tryz.results42, go_sem, q0, q1, q2, q3, q4]; try rfl) rfl ?_
                  refine ⟨⟨3, r2, 0, v, []⟩, _, rfl, ⟨r, sz, HRS.out, Or.inr (Or.inr (Or.inr (Or.inr (Or.inl ⟨HR0.out, HF36.out.symm, HF42.out.symm, HFR.out.symm, HFP.out.symm, r2, sz2, v, true, ?_, ?_, rfl, ?_⟩))))⟩, hb7 _ _ HGE.out HB7.out⟩
                  · rw [HCT.out]; exact HRS2.out
                  · rw [HCT.out]; exact Or.inr ⟨HOE.out, HV.out, HGD.out, HU.out⟩
                  · rw [HCT.out]; simp
                | true =>
                  rw [hi] at HCT
                  subst hi
                  by_cases h2 : 0 ≤ r2
                  · have d3 : decide (r2 ≥ 0) = true := decide_eq_true h2
                    have d4 : decide (0 ≤ r2) = true := decide_eq_true h2
                    have H2 := Lib.hid h2
                    clear h2
                    go_wp2_with (refine wpList_store_blk (by rfl) 90 _ _ (by rfl) g (by rfl) (by rfl) HX7.out (by rfl) (by kernel_rfl) (by kernel_rfl) ?_; intro x7 k7 hb7 hz7 ho7; obtain ⟨q0, q1, q2, q3, q4⟩ := c5q k7)
                    refine bodyPost_ret (by simp [results, Tryz.results42, go_sem, q0, q1, q2, q3, q4]; try rfl) rfl ?_
                    refine ⟨⟨3, r2, 0, v, []⟩, _, rfl, ⟨r, sz, HRS.out, Or.inr (Or.inr (Or.inr (Or.inr (Or.inl ⟨HR0.out, HF36.out.symm, HF42.out.symm, HFR.out.symm, HFP.out.symm, r2, sz2, v, true, ?_, ?_, rfl, ?_⟩))))⟩, hb7 _ _ HGE.out HB7.out⟩
                    · rw [HCT.out]; exact HRS2.out
                    · rw [HCT.out]; exact Or.inr ⟨HOE.out, HV.out, HGD.out, HU.out⟩
                    · rw [HCT.out]; rw [decide_eq_true (show r2 ≥ 0 by have := H2.out; omega)]; simp
                  · have d3 : decide (r2 ≥ 0) = false := decide_eq_false h2
                    have d4 : decide (0 ≤ r2) = false := decide_eq_false h2
                    have H2 := Lib.hid (show ¬ 0 ≤ r2 from h2)
                    clear h2
                    go_wp2_with (refine wpList_store_blk (by rfl) 90 _ _ (by rfl) g (by rfl) (by rfl) HX7.out (by rfl) (by kernel_rfl) (by kernel_rfl) ?_; intro x7 k7 hb7 hz7 ho7; obtain ⟨q0, q1, q2, q3, q4⟩ := c5q k7)
                    refine bodyPost_ret (by simp [results, Tryz.results42, go_sem, q0, q1, q2, q3, q4]; try rfl) rfl ?_
                    refine ⟨⟨3, r2, 0, v, []⟩, _, rfl, ⟨r, sz, HRS.out, Or.inr (Or.inr (Or.inr (Or.inr (Or.inl ⟨HR0.out, HF36.out.symm, HF42.out.symm, HFR.out.symm, HFP.out.symm, r2, sz2, v, true, ?_, ?_, rfl, ?_⟩))))⟩, hb7 _ _ HGE.out HB7.out⟩
                    · rw [HCT.out]; exact HRS2.out
                    · rw [HCT.out]; exact Or.inr ⟨HOE.out, HV.out, HGD.out, HU.out⟩
                    · rw [HCT.out]; rw [decide_eq_false (show ¬ r2 ≥ 0 by have := H2.out; omega)]; simp
          | false =>
            have HFFP := Lib.hid hfP
            subst hfP
            go_wp2_with fail
            refine (named_any wz s (Nat.le_trans HS.out (by unfold maxLen; decide))).mono ?_
            rintro e w3 ⟨rfl, hb⟩
            have HX3 := Lib.hid (blk_below HX2.out hb)
            have HB3 := Lib.hid (HB2.out.trans (hb.mono HB2.out.size))
            clear hb
            go_wp2_with (refine wpList_store_blk (by rfl) 90 _ _ (by rfl) g (by rfl) (by rfl) HX3.out (by rfl) (by kernel_rfl) (by kernel_rfl) ?_; intro x7 k7 hb7 hz7 ho7; obtain ⟨q0, q1, q2, q3, q4⟩ := c5q k7)
            refine bodyPost_ret (by simp [results, Tryz.results42, go_sem, q0, q1, q2, q3, q4]; try rfl) rfl ?_
            exact ⟨⟨5, 0, 0, 0, s.data.toList⟩, _, rfl, ⟨r, sz, HRS.out, Or.inr (Or.inr (Or.inr (Or.inr (Or.inr ⟨HR0.out, HF36.out.symm, HF42.out.symm, HFR.out.symm, HFP.out.symm, rfl, rfl⟩))))⟩, hb7 _ _ HGE.out HB3.out⟩
end Go.Proofs.YtmmpkkpmlaiapaaGreatDoor
