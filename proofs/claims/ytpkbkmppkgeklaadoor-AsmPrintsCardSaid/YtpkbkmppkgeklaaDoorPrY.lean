/- merlonlaw22.Light. No condition. -/
import Derived.Test.YtpkbkmppkgeklaaDoorPrS
import Derived.Test.YtpkbkmppkgeklaaDoorPrI
import Derived.Laws.StructEq
namespace Go.Proofs.YtpkbkmppkgeklaaDoor
open Go.RowKit
set_option linter.unusedVariables false
set_option linter.unusedSimpArgs false
set_option maxHeartbeats 100000000
set_option maxRecDepth 20000
def eqInsB (op dst src imm size : Int) (g : Bool) (cond : Int) (s : ByteArray) (op1 dst1 src1 imm1 size1 : Int) (g1 : Bool) (cond1 : Int) (s1 : ByteArray) : Bool :=
  op == op1 && (dst == dst1 && (src == src1 && (imm == imm1 && (size == size1 && (g == g1 && (cond == cond1 && s.toList == s1.toList))))))
theorem eq_ins (op dst src imm size : Int) (g : Bool) (cond : Int) (s : ByteArray) (op1 dst1 src1 imm1 size1 : Int) (g1 : Bool) (cond1 : Int) (s1 : ByteArray) (w : World) :
    (Op.equalIn 10000 23 (.agg #[.int .i64 op, .int .i64 dst, .int .i64 src, .int .i64 imm, .int .i64 size, .bool g, .int .i64 cond, .string s]) (.agg #[.int .i64 op1, .int .i64 dst1, .int .i64 src1, .int .i64 imm1, .int .i64 size1, .bool g1, .int .i64 cond1, .string s1])).run Tryd.prog w
      = .ok (eqInsB op dst src imm size g cond s op1 dst1 src1 imm1 size1 g1 cond1 s1) w := by
  have u1 := Tryd.underlying3
  have a1 := Tryd.isAgg3
  have z1 := Tryd.sizeOf3
  have u2 := Tryd.underlying2
  have a2 := Tryd.isAgg2
  have z2 := Tryd.sizeOf2
  have u3 := Tryd.underlying4
  have a3 := Tryd.isAgg4
  have z3 := Tryd.sizeOf4
  have u4 := Tryd.underlying9
  have a4 := Tryd.isAgg9
  have z4 := Tryd.sizeOf9
  have hS : Tryd.prog.underlying 23 = some (.struct (Tryd.prog.fieldsOf 23)) := by kernel_rfl
  have hp : Tryd.prog.stoodInHeld 23 = false := by kernel_rfl
  rw [show (10000 : Nat) = 9999 + 1 from rfl, run_equalIn_agg w 9999 23 _ _ hS hp]
  simp only [Program.fieldsOf, Tryd.underlying23]
  go_simp
  unfold eqInsB
  repeat' split
  all_goals simp_all
def LightC (l : List XItemD) : Prop := ∀ (i : Nat) c, l[i]? = some c → c.label.size ≤ 100 ∧ (c.label.size = 0 → c.ins.to_.size ≤ 100)
def LightD (l : List XDatumD) : Prop := ∀ (i : Nat) d, l[i]? = some d → d.name.size ≤ 100
theorem at_more {α : Type} {Q : α → Prop} {l : List α} {k : Nat} {x : α} (hx : l[k]? = some x) (h : ∀ (i : Nat) c, (l.take k)[i]? = some c → Q c) (hq : Q x) : ∀ (i : Nat) c, (l.take (k + 1))[i]? = some c → Q c := by
  rw [take_more hx]
  intro i c hi
  by_cases hlt : i < (l.take k).length
  · rw [List.getElem?_append_left hlt] at hi
    exact h i c hi
  · rw [List.getElem?_append_right (by omega)] at hi
    have : i - (l.take k).length = 0 := by have := (List.getElem?_eq_some_iff.1 hi).1; simp at this ⊢; omega
    rw [this] at hi
    simp at hi
    exact hi ▸ hq
/-- what Light tells -/
def LightR (w : World) (p : XProgD) (e : Ending) (w' : World) : Prop := ∃ b, e = .returned (.bool b) ∧ (b = true → p.data.length ≤ 200 ∧ p.code.length ≤ 500 ∧ sumD p.data ≤ 5000 ∧ LightD p.data ∧ LightC p.code) ∧ Below w.heap.size w w'
theorem light_any (w : World) (hN : GsOk w) (hP : PowOk w) (p : XProgD) (vd vc : Value) (hd : SlR w 4 (XDatumR w) vd p.data) (hc : SlR w 9 XItemR vc p.code) (hdl : p.data.length ≤ 140737488351232) (hcl : p.code.length ≤ 140737488351232) :
    Calls Tryd.prog 19 #[.agg #[vd, vc]] w (LightR w p) := by
  obtain ⟨A1, cap1, rfl, h11, h12, h13⟩ := hd
  obtain ⟨A2, cap2, rfl, h21, h22, h23⟩ := hc
  have H1 := Lib.hid (show SlR w 4 (XDatumR w) (.slice A1 p.data.length cap1) p.data from ⟨A1, cap1, rfl, h11, h12, h13⟩)
  have H2 := Lib.hid (show SlR w 9 XItemR (.slice A2 p.code.length cap2) p.code from ⟨A2, cap2, rfl, h21, h22, h23⟩)
  have HN := Lib.hid hN
  have HP := Lib.hid hP
  clear h11 h12 h13 h21 h22 h23 hN hP
  obtain ⟨data, code⟩ := p
  simp only at *
  have HBI := Lib.hid (show Below w.heap.size w (w.alloc (.cells #[.slice A1 data.length cap1, .slice A2 code.length cap2] 47)) from below_alloc _ (Below.refl _ _))
  have HKP := Lib.hid (blk_new w (.cells #[.slice A1 data.length cap1, .slice A2 code.length cap2] 47))
  have hno : ∀ {Q : Prop}, (false = true → Q) := fun h => by cases h
  by_cases hbc : 500 < code.length
  · have d1 : decide ((500 : Int) < code.length) = true := decide_eq_true (by omega)
    go_enter Tryd.func19, Tryd.ntmps19
    as_aux_lemma =>
      go_wp2_with fail
      go_returns
      exact ⟨false, rfl, hno, HBI.out⟩
  have d1 : decide ((500 : Int) < code.length) = false := decide_eq_false (by omega)
  by_cases hbd : 200 < data.length
  · have d2 : decide ((200 : Int) < data.length) = true := decide_eq_true (by omega)
    go_enter Tryd.func19, Tryd.ntmps19
    as_aux_lemma =>
      go_wp2_with fail
      go_returns
      exact ⟨false, rfl, hno, HBI.out⟩
  have d2 : decide ((200 : Int) < data.length) = false := decide_eq_false (by omega)
  go_enter Tryd.func19, Tryd.ntmps19
  go_wp2_with fail
  go_loopw [22] (fun i wr => ∃ k : Nat, k ≤ code.length ∧ i = .int .i64 k ∧ LightC (code.take k) ∧ wr.heap[w.heap.size]? = some (.cells #[.slice A1 data.length cap1, .slice A2 code.length cap2] 47 (0, 0)) ∧ Below w.heap.size w wr) (fun i _ => code.length - (intOf i).toNat)
  case atStart => exact ⟨0, by omega, rfl, (fun i c h => by simp at h), HKP.out, HBI.out⟩
  case round =>
    obtain ⟨k, hk, rfl, hC, hK, hB⟩ := hrel
    have HB := Lib.hid hB
    have HK := Lib.hid hK
    have HC := Lib.hid hC
    by_cases hlt : k < code.length
    · obtain ⟨x, hx⟩ : ∃ x, code[k]? = some x := ⟨_, List.getElem?_eq_getElem hlt⟩
      obtain ⟨A4, c4, e1, _, _, e4⟩ := H2.out.later (by decide) HB.out
      simp only [Value.slice.injEq] at e1
      obtain ⟨rfl, _, rfl⟩ := e1
      obtain ⟨b, o, cs, rfl, g2, g3, g4⟩ := e4 k x hx
      have HLT := Lib.hid hlt
      obtain ⟨lab, ⟨op, dst, src, imm, size, sg, cond, to_⟩⟩ := x
      obtain ⟨rfl, n0, n1, n2, n3, n4, n5, n6, n7⟩ := g4
      have HM := Lib.hid (fun q1 q2 => (at_more (Q := fun c : XItemD => c.label.size ≤ 100 ∧ (c.label.size = 0 → c.ins.to_.size ≤ 100)) hx HC.out (And.intro q1 q2) : LightC (code.take (k + 1))))
      have z0 : wr.cell? ⟨b, o + k * 9, none⟩ = some (.string lab) := g3 0 (by decide)
      have z1 : wr.cell? ⟨b, o + k * 9 + 1, none⟩ = some (.int .i64 op) := g3 1 (by decide)
      have z2 : wr.cell? ⟨b, o + k * 9 + 2, none⟩ = some (.int .i64 dst) := g3 2 (by decide)
      have z3 : wr.cell? ⟨b, o + k * 9 + 3, none⟩ = some (.int .i64 src) := g3 3 (by decide)
      have z4 : wr.cell? ⟨b, o + k * 9 + 4, none⟩ = some (.int .i64 imm) := g3 4 (by decide)
      have z5 : wr.cell? ⟨b, o + k * 9 + 5, none⟩ = some (.int .i64 size) := g3 5 (by decide)
      have z6 : wr.cell? ⟨b, o + k * 9 + 6, none⟩ = some (.bool sg) := g3 6 (by decide)
      have z7 : wr.cell? ⟨b, o + k * 9 + 7, none⟩ = some (.int .i64 cond) := g3 7 (by decide)
      have z8 : wr.cell? ⟨b, o + k * 9 + 8, none⟩ = some (.string to_) := g3 8 (by decide)
      have hlx := World.block_lt_of_cell? _ _ z0
      have HI := Lib.hid (And.intro n1 (And.intro n2 (And.intro n3 (And.intro n4 (And.intro n5 n6)))))
      have HNL := Lib.hid n0
      obtain ⟨wa, hwa⟩ : ∃ wa, wa = wr.alloc (.cells #[.string lab, .int .i64 op, .int .i64 dst, .int .i64 src, .int .i64 imm, .int .i64 size, .bool sg, .int .i64 cond, .string to_] 62) := ⟨_, rfl⟩
      have hba : Below wr.heap.size wr wa := by rw [hwa]; exact below_alloc _ (Below.refl _ _)
      have HKX := Lib.hid (show wa.heap[wr.heap.size]? = some (.cells #[.string lab, .int .i64 op, .int .i64 dst, .int .i64 src, .int .i64 imm, .int .i64 size, .bool sg, .int .i64 cond, .string to_] 62 (0, 0)) by rw [hwa]; exact blk_new _ _)
      have HBA := Lib.hid (HB.out.bt hba)
      have HKA := Lib.hid (blk_below HK.out hba)
      clear g3 e4 hx n0 n1 n2 n3 n4 n5 n6 hba hC hK hB
      unfold maxLen at n7
      by_cases h100 : 100 < lab.size
      · have d3 : decide ((100 : Int) < lab.size) = true := decide_eq_true (by omega)
        as_aux_lemma =>
          go_wp2_with fail
          go_returns
          exact ⟨false, rfl, hno, by rw [← hwa]; exact HBA.out⟩
      have d3 : decide ((100 : Int) < lab.size) = false := decide_eq_false (by omega)
      by_cases h0 : lab.size = 0
      · have HLZ := Lib.hid h0
        obtain rfl := lab_emp h0
        have hq1 : ((⟨⟨[]⟩⟩ : ByteArray).toList.isEmpty) = true := by kernel_rfl
        clear h0 h100
        by_cases ht : 100 < to_.size
        · have d4 : decide ((100 : Int) < to_.size) = true := decide_eq_true (by omega)
          as_aux_lemma =>
            go_wp2_with fail
            go_returns
            exact ⟨false, rfl, hno, by rw [← hwa]; exact HBA.out⟩
        have d4 : decide ((100 : Int) < to_.size) = false := decide_eq_false (by omega)
        have HTL := Lib.hid (show to_.size ≤ 100 by omega)
        have HS := Lib.hid (show Calls Tryd.prog 10 #[.agg #[.int .i64 op, .int .i64 dst, .int .i64 src, .int .i64 imm, .int .i64 size, .bool sg, .int .i64 cond, .string to_]] wa (fun en w' => en = .returned (.string ⟨⟨showB op dst src imm size sg cond to_.data.toList⟩⟩) ∧ Below wa.heap.size wa w') from rshow_any wa (HN.out.below HBA.out) (HP.out.below HBA.out) op dst src imm size cond sg to_.data.toList HI.out.1 HI.out.2.1 HI.out.2.2.1 HI.out.2.2.2.1 HI.out.2.2.2.2.1 HI.out.2.2.2.2.2 (by have : to_.data.toList.length ≤ 100 := (HTL.out : to_.size ≤ 100); omega))
        obtain ⟨M, hM⟩ : ∃ M : ByteArray, M = ⟨⟨showB op dst src imm size sg cond to_.data.toList⟩⟩ := ⟨_, rfl⟩
        rw [← hM] at HS
        clear hM
        go_wp2_with fail
        rw [← hwa]
        clear hwa z0 z1 z2 z3 z4 z5 z6 z7 z8 hlx
        refine HS.out.mono ?_
        rintro e w2 ⟨rfl, kb⟩
        have kx := blk_below HKX.out kb
        have y0 := blk_cell (i := 0) kx rfl
        have yl := blk_lt kx
        have HB2 := Lib.hid (HBA.out.bt kb)
        have HK2 := Lib.hid (blk_below HKA.out kb)
        clear kb kx
        cases hm : M.toList.isEmpty with
        | true =>
          as_aux_lemma =>
            go_wp2_with fail
            go_returns
            exact ⟨false, rfl, hno, HB2.out⟩
        | false =>
          as_aux_lemma =>
            go_wp2_with fail
            have hlt := HLT.out
            go_roundw
            case rel => exact ⟨k + 1, by omega, by go_num, HM.out (by show 0 ≤ 100; omega) (fun _ => HTL.out), HK2.out, HB2.out⟩
            case measure => simp [intOf]; omega
      · have hq1 := lab_full h0
        have HNM := Lib.hid (rnamed_any wa lab HNL.out)
        go_wp2_with fail
        rw [← hwa]
        clear hwa z0 z1 z2 z3 z4 z5 z6 z7 z8 hlx
        refine HNM.out.mono ?_
        rintro e w2 ⟨rfl, kb⟩
        have kx := blk_below HKX.out kb
        have y0 := blk_cell (i := 0) kx rfl
        have y1 := blk_cell (i := 1) kx rfl
        have y2 := blk_cell (i := 2) kx rfl
        have y3 := blk_cell (i := 3) kx rfl
        have y4 := blk_cell (i := 4) kx rfl
        have y5 := blk_cell (i := 5) kx rfl
        have y6 := blk_cell (i := 6) kx rfl
        have y7 := blk_cell (i := 7) kx rfl
        have y8 := blk_cell (i := 8) kx rfl
        have yl := blk_lt kx
        have HB2 := Lib.hid (HBA.out.bt kb)
        have HK2 := Lib.hid (blk_below HKA.out kb)
        clear kb kx
        cases hm : namedB lab with
        | false =>
          as_aux_lemma =>
            go_wp2_with fail
            go_returns
            exact ⟨false, rfl, hno, HB2.out⟩
        | true =>
          have HE := fun W => eq_ins op dst src imm size sg cond to_ 0 0 0 0 0 false 0 ⟨#[]⟩ W
          cases hE : eqInsB op dst src imm size sg cond to_ 0 0 0 0 0 false 0 ⟨#[]⟩ with
          | false =>
            rw [hE] at HE
            as_aux_lemma =>
              go_wp2_with fail
              go_returns
              exact ⟨false, rfl, hno, HB2.out⟩
          | true =>
            rw [hE] at HE
            as_aux_lemma =>
              go_wp2_with fail
              have hlt := HLT.out
              go_roundw
              case rel => exact ⟨k + 1, by omega, by go_num, HM.out (by show lab.size ≤ 100; omega) (fun h => absurd h h0), HK2.out, HB2.out⟩
              case measure => simp [intOf]; omega
    · have e : k = code.length := by omega
      subst e
      rw [List.take_length] at HC
      have p0 := blk_cell (i := 0) hK rfl
      have pl := blk_lt hK
      clear hK hB hC
      go_wp2_with fail
      clear p0 pl HK
      go_loopw [5, 74] (fun a i wr => ∃ k : Nat, k ≤ data.length ∧ i = .int .i64 k ∧ a = .int .i64 (sumD (data.take k) : Nat) ∧ sumD (data.take k) ≤ 5000 ∧ LightD (data.take k) ∧ Below w.heap.size w wr) (fun _ i _ => data.length - (intOf i).toNat)
      case atStart => exact ⟨0, by omega, rfl, rfl, by simp [sumD], (fun i c h => by simp at h), HB.out⟩
      case round =>
        obtain ⟨k, hk, rfl, rfl, hs, hD, hB⟩ := hrel
        have HB := Lib.hid hB
        have HD := Lib.hid hD
        obtain ⟨m, hm⟩ : ∃ m, m = sumD (data.take k) := ⟨_, rfl⟩
        rw [← hm] at hs ⊢
        by_cases hlt : k < data.length
        · obtain ⟨x, hx⟩ : ∃ x, data[k]? = some x := ⟨_, List.getElem?_eq_getElem hlt⟩
          obtain ⟨A4, c4, e1, _, _, e4⟩ := H1.out.later (by decide) HB.out
          simp only [Value.slice.injEq] at e1
          obtain ⟨rfl, _, rfl⟩ := e1
          obtain ⟨b, o, cs, rfl, g2, g3, g4⟩ := e4 k x hx
          have HLT := Lib.hid hlt
          have HSU := Lib.hid (show sumD (data.take (k + 1)) = m + x.data.length by rw [take_more hx, sumD_snoc, hm])
          obtain ⟨kind, name, bytes, n⟩ := x
          obtain ⟨v, rfl, n1, n2, n3, n4, n5⟩ := g4
          obtain ⟨A5, c5, rfl, _⟩ := n3
          have HM := Lib.hid (fun q1 => (at_more (Q := fun d : XDatumD => d.name.size ≤ 100) hx HD.out q1 : LightD (data.take (k + 1))))
          have z0 : wr.cell? ⟨b, o + k * 4, none⟩ = some (.int .i64 kind) := g3 0 (by decide)
          have z1 : wr.cell? ⟨b, o + k * 4 + 1, none⟩ = some (.string name) := g3 1 (by decide)
          have z2 : wr.cell? ⟨b, o + k * 4 + 2, none⟩ = some (.slice A5 bytes.length c5) := g3 2 (by decide)
          have z3 : wr.cell? ⟨b, o + k * 4 + 3, none⟩ = some (.int .i64 n) := g3 3 (by decide)
          have hlx := World.block_lt_of_cell? _ _ z0
          have hbl : bytes.length ≤ 140737488351232 := n4
          obtain ⟨wa, hwa⟩ : ∃ wa, wa = wr.alloc (.cells #[.int .i64 kind, .string name, .slice A5 bytes.length c5, .int .i64 n] 65) := ⟨_, rfl⟩
          have hba : Below wr.heap.size wr wa := by rw [hwa]; exact below_alloc _ (Below.refl _ _)
          have HKX := Lib.hid (show wa.heap[wr.heap.size]? = some (.cells #[.int .i64 kind, .string name, .slice A5 bytes.length c5, .int .i64 n] 65 (0, 0)) by rw [hwa]; exact blk_new _ _)
          have HBA := Lib.hid (HB.out.bt hba)
          have HNL := Lib.hid n2
          have HBW := Lib.hid (show Below w.heap.size w (wr.alloc (.cells #[.int .i64 kind, .string name, .slice A5 bytes.length c5, .int .i64 n] 65)) by rw [← hwa]; exact HBA.out)
          simp only at HSU n1 n5
          have HI := Lib.hid (And.intro n1 n5)
          clear g3 e4 hx n1 n2 n4 n5 hba hD hB hm
          by_cases h5 : 5000 < m + bytes.length
          · have d5 : decide ((5000 : Int) < (m : Int) + bytes.length) = true := decide_eq_true (by omega)
            as_aux_lemma =>
              go_wp2_with fail
              go_returns
              exact ⟨false, rfl, hno, HBW.out⟩
          have d5 : decide ((5000 : Int) < (m : Int) + bytes.length) = false := decide_eq_false (by omega)
          have HSM := Lib.hid h5
          by_cases ka : kind < 0
          · have ea : decide (kind < 0) = true := decide_eq_true ka
            as_aux_lemma =>
              go_wp2_with fail
              go_returns
              exact ⟨false, rfl, hno, HBW.out⟩
          have ea : decide (kind < 0) = false := decide_eq_false ka
          by_cases kb : 5 < kind
          · have eb : decide (5 < kind) = true := decide_eq_true kb
            as_aux_lemma =>
              go_wp2_with fail
              go_returns
              exact ⟨false, rfl, hno, HBW.out⟩
          have eb : decide (5 < kind) = false := decide_eq_false kb
          by_cases kc : n < 0
          · have ec : decide (n < 0) = true := decide_eq_true kc
            as_aux_lemma =>
              go_wp2_with fail
              go_returns
              exact ⟨false, rfl, hno, HBW.out⟩
          have ec : decide (n < 0) = false := decide_eq_false kc
          by_cases kd : 65536 < n
          · have ed : decide (65536 < n) = true := decide_eq_true kd
            as_aux_lemma =>
              go_wp2_with fail
              go_returns
              exact ⟨false, rfl, hno, HBW.out⟩
          have ed : decide (65536 < n) = false := decide_eq_false kd
          by_cases h8 : 100 < name.size
          · have d8 : decide ((100 : Int) < name.size) = true := decide_eq_true (by omega)
            have hkk : kind = 0 ∨ kind = 2 ∨ (kind ≠ 0 ∧ kind ≠ 2) := by omega
            rcases hkk with rfl | rfl | ⟨q1, q2⟩
            · as_aux_lemma =>
                go_wp2_with fail
                go_returns
                exact ⟨false, rfl, hno, HBW.out⟩
            · as_aux_lemma =>
                go_wp2_with fail
                go_returns
                exact ⟨false, rfl, hno, HBW.out⟩
            · as_aux_lemma =>
                go_wp2_with fail
                go_returns
                exact ⟨false, rfl, hno, HBW.out⟩
          have d8 : decide ((100 : Int) < name.size) = false := decide_eq_false (by omega)
          have HN8 := Lib.hid (show name.size ≤ 100 by omega)
          have hkk : kind = 0 ∨ kind = 1 ∨ kind = 2 ∨ kind = 3 ∨ kind = 4 ∨ kind = 5 := by omega
          rcases hkk with rfl | rfl | rfl | rfl | rfl | rfl
          · by_cases h0 : name.size = 0
            · obtain rfl := lab_emp h0
              have hq1 : ((⟨⟨[]⟩⟩ : ByteArray).toList.isEmpty) = true := by kernel_rfl
              as_aux_lemma =>
                go_wp2_with fail
                go_returns
                exact ⟨false, rfl, hno, HBW.out⟩
            · have hq1 := lab_full h0
              have HNM := Lib.hid (rnamed_any wa name HNL.out)
              go_wp2_with fail
              rw [← hwa]
              clear hwa z0 z1 z2 z3 hlx
              refine HNM.out.mono ?_
              rintro e w2 ⟨rfl, kb⟩
              have kx := blk_below HKX.out kb
              have y0 := blk_cell (i := 0) kx rfl
              have y1 := blk_cell (i := 1) kx rfl
              have y2 := blk_cell (i := 2) kx rfl
              have y3 := blk_cell (i := 3) kx rfl
              have yl := blk_lt kx
              have HB2 := Lib.hid (HBA.out.bt kb)
              clear kb kx
              cases hnm : namedB name with
              | false =>
                as_aux_lemma =>
                  go_wp2_with fail
                  go_returns
                  exact ⟨false, rfl, hno, HB2.out⟩
              | true =>
                by_cases hq : bytes.length = 0
                · have dq : decide ((0 : Int) < bytes.length) = false := decide_eq_false (by omega)
                  by_cases hn : n = 0
                  · subst hn
                    as_aux_lemma =>
                      go_wp2_with fail
                      have hlt := HLT.out
                      go_roundw
                      case rel => exact ⟨k + 1, by omega, by go_num, by rw [HSU.out]; go_num, by rw [HSU.out]; have := HSM.out; omega, HM.out HN8.out, HB2.out⟩
                      case measure => simp [intOf]; omega
                  · have dn : decide (n = 0) = false := decide_eq_false hn
                    as_aux_lemma =>
                      go_wp2_with fail
                      go_returns
                      exact ⟨false, rfl, hno, HB2.out⟩
                · have dq : decide ((0 : Int) < bytes.length) = true := decide_eq_true (by omega)
                  as_aux_lemma =>
                    go_wp2_with fail
                    go_returns
                    exact ⟨false, rfl, hno, HB2.out⟩
          · by_cases h0 : name.size = 0
            · obtain rfl := lab_emp h0
              have hq1 : ((⟨⟨[]⟩⟩ : ByteArray).toList.isEmpty) = true := by kernel_rfl
              by_cases hq : bytes.length = 0
              · have dq : decide ((0 : Int) < bytes.length) = false := decide_eq_false (by omega)
                have hbz := HBW.out
                rw [hq] at hbz
                have HBZ := Lib.hid hbz
                clear hbz
                as_aux_lemma =>
                  go_wp2_with fail
                  go_returns
                  exact ⟨false, rfl, hno, HBZ.out⟩
              · have dq : decide ((0 : Int) < bytes.length) = true := decide_eq_true (by omega)
                by_cases hn : n = 0
                · subst hn
                  as_aux_lemma =>
                    go_wp2_with fail
                    have hlt := HLT.out
                    go_roundw
                    case rel => exact ⟨k + 1, by omega, by go_num, by rw [HSU.out]; go_num, by rw [HSU.out]; have := HSM.out; omega, HM.out HN8.out, HBW.out⟩
                    case measure => simp [intOf]; omega
                · have dn : decide (n = 0) = false := decide_eq_false hn
                  as_aux_lemma =>
                    go_wp2_with fail
                    go_returns
                    exact ⟨false, rfl, hno, HBW.out⟩
            · have hq1 := lab_full h0
              as_aux_lemma =>
                go_wp2_with fail
                go_returns
                exact ⟨false, rfl, hno, HBW.out⟩
          · by_cases h0 : name.size = 0
            · obtain rfl := lab_emp h0
              have hq1 : ((⟨⟨[]⟩⟩ : ByteArray).toList.isEmpty) = true := by kernel_rfl
              as_aux_lemma =>
                go_wp2_with fail
                go_returns
                exact ⟨false, rfl, hno, HBW.out⟩
            · have hq1 := lab_full h0
              have HNM := Lib.hid (rnamed_any wa name HNL.out)
              go_wp2_with fail
              rw [← hwa]
              clear hwa z0 z1 z2 z3 hlx
              refine HNM.out.mono ?_
              rintro e w2 ⟨rfl, kb⟩
              have kx := blk_below HKX.out kb
              have y0 := blk_cell (i := 0) kx rfl
              have y1 := blk_cell (i := 1) kx rfl
              have y2 := blk_cell (i := 2) kx rfl
              have y3 := blk_cell (i := 3) kx rfl
              have yl := blk_lt kx
              have HB2 := Lib.hid (HBA.out.bt kb)
              clear kb kx
              cases hnm : namedB name with
              | false =>
                as_aux_lemma =>
                  go_wp2_with fail
                  go_returns
                  exact ⟨false, rfl, hno, HB2.out⟩
              | true =>
                by_cases hq : bytes.length = 0
                · have dq : decide ((0 : Int) < bytes.length) = false := decide_eq_false (by omega)
                  by_cases hn : n = 0
                  · subst hn
                    as_aux_lemma =>
                      go_wp2_with fail
                      have hlt := HLT.out
                      go_roundw
                      case rel => exact ⟨k + 1, by omega, by go_num, by rw [HSU.out]; go_num, by rw [HSU.out]; have := HSM.out; omega, HM.out HN8.out, HB2.out⟩
                      case measure => simp [intOf]; omega
                  · have dn : decide (n = 0) = false := decide_eq_false hn
                    as_aux_lemma =>
                      go_wp2_with fail
                      go_returns
                      exact ⟨false, rfl, hno, HB2.out⟩
                · have dq : decide ((0 : Int) < bytes.length) = true := decide_eq_true (by omega)
                  as_aux_lemma =>
                    go_wp2_with fail
                    go_returns
                    exact ⟨false, rfl, hno, HB2.out⟩
          · by_cases h0 : name.size = 0
            · obtain rfl := lab_emp h0
              have hq1 : ((⟨⟨[]⟩⟩ : ByteArray).toList.isEmpty) = true := by kernel_rfl
              by_cases hq : bytes.length = 0
              · have dq : decide ((0 : Int) < bytes.length) = false := decide_eq_false (by omega)
                have hbz := HBW.out
                rw [hq] at hbz
                have HBZ := Lib.hid hbz
                clear hbz
                by_cases hn : n = 0
                · subst hn
                  as_aux_lemma =>
                    go_wp2_with fail
                    have hlt := HLT.out
                    go_roundw
                    case rel => exact ⟨k + 1, by omega, by go_num, by rw [HSU.out]; go_num, by rw [HSU.out]; have := HSM.out; omega, HM.out HN8.out, HBZ.out⟩
                    case measure => simp [intOf]; omega
                · have dn : decide (n = 0) = false := decide_eq_false hn
                  as_aux_lemma =>
                    go_wp2_with fail
                    have hlt := HLT.out
                    go_roundw
                    case rel => exact ⟨k + 1, by omega, by go_num, by rw [HSU.out]; go_num, by rw [HSU.out]; have := HSM.out; omega, HM.out HN8.out, HBZ.out⟩
                    case measure => simp [intOf]; omega
              · have dq : decide ((0 : Int) < bytes.length) = true := decide_eq_true (by omega)
                as_aux_lemma =>
                  go_wp2_with fail
                  go_returns
                  exact ⟨false, rfl, hno, HBW.out⟩
            · have hq1 := lab_full h0
              as_aux_lemma =>
                go_wp2_with fail
                go_returns
                exact ⟨false, rfl, hno, HBW.out⟩
          · by_cases h0 : name.size = 0
            · obtain rfl := lab_emp h0
              have hq1 : ((⟨⟨[]⟩⟩ : ByteArray).toList.isEmpty) = true := by kernel_rfl
              by_cases hq : bytes.length = 0
              · have dq : decide ((0 : Int) < bytes.length) = false := decide_eq_false (by omega)
                have hbz := HBW.out
                rw [hq] at hbz
                have HBZ := Lib.hid hbz
                clear hbz
                by_cases hn : n = 0
                · subst hn
                  as_aux_lemma =>
                    go_wp2_with fail
                    have hlt := HLT.out
                    go_roundw
                    case rel => exact ⟨k + 1, by omega, by go_num, by rw [HSU.out]; go_num, by rw [HSU.out]; have := HSM.out; omega, HM.out HN8.out, HBZ.out⟩
                    case measure => simp [intOf]; omega
                · have dn : decide (n = 0) = false := decide_eq_false hn
                  as_aux_lemma =>
                    go_wp2_with fail
                    have hlt := HLT.out
                    go_roundw
                    case rel => exact ⟨k + 1, by omega, by go_num, by rw [HSU.out]; go_num, by rw [HSU.out]; have := HSM.out; omega, HM.out HN8.out, HBZ.out⟩
                    case measure => simp [intOf]; omega
              · have dq : decide ((0 : Int) < bytes.length) = true := decide_eq_true (by omega)
                as_aux_lemma =>
                  go_wp2_with fail
                  go_returns
                  exact ⟨false, rfl, hno, HBW.out⟩
            · have hq1 := lab_full h0
              as_aux_lemma =>
                go_wp2_with fail
                go_returns
                exact ⟨false, rfl, hno, HBW.out⟩
          · by_cases h0 : name.size = 0
            · obtain rfl := lab_emp h0
              have hq1 : ((⟨⟨[]⟩⟩ : ByteArray).toList.isEmpty) = true := by kernel_rfl
              by_cases hq : bytes.length = 0
              · have dq : decide ((0 : Int) < bytes.length) = false := decide_eq_false (by omega)
                have hbz := HBW.out
                rw [hq] at hbz
                have HBZ := Lib.hid hbz
                clear hbz
                by_cases hn : n = 0
                · subst hn
                  as_aux_lemma =>
                    go_wp2_with fail
                    have hlt := HLT.out
                    go_roundw
                    case rel => exact ⟨k + 1, by omega, by go_num, by rw [HSU.out]; go_num, by rw [HSU.out]; have := HSM.out; omega, HM.out HN8.out, HBZ.out⟩
                    case measure => simp [intOf]; omega
                · have dn : decide (n = 0) = false := decide_eq_false hn
                  as_aux_lemma =>
                    go_wp2_with fail
                    have hlt := HLT.out
                    go_roundw
                    case rel => exact ⟨k + 1, by omega, by go_num, by rw [HSU.out]; go_num, by rw [HSU.out]; have := HSM.out; omega, HM.out HN8.out, HBZ.out⟩
                    case measure => simp [intOf]; omega
              · have dq : decide ((0 : Int) < bytes.length) = true := decide_eq_true (by omega)
                as_aux_lemma =>
                  go_wp2_with fail
                  go_returns
                  exact ⟨false, rfl, hno, HBW.out⟩
            · have hq1 := lab_full h0
              as_aux_lemma =>
                go_wp2_with fail
                go_returns
                exact ⟨false, rfl, hno, HBW.out⟩
        · have e : k = data.length := by omega
          subst e
          rw [List.take_length] at HD hm
          go_wp2_with fail
          go_returns
          exact ⟨true, rfl, fun _ => ⟨by show data.length ≤ 200; omega, by show code.length ≤ 500; omega, by show sumD data ≤ 5000; omega, HD.out, HC.out⟩, HB.out⟩
end Go.Proofs.YtpkbkmppkgeklaaDoor
