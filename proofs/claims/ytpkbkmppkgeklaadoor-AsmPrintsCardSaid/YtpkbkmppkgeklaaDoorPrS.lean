/- asm.Print and merlonref22.Print. No condition. -/
import Derived.Test.YtpkbkmppkgeklaaDoorPrI
import Derived.Test.YtpkbkmppkgeklaaDoorShK
namespace Go.Proofs.YtpkbkmppkgeklaaDoor
open Go.RowKit
set_option linter.unusedVariables false
set_option linter.unusedSimpArgs false
noncomputable def insL (x : XInsD) : List UInt8 := showB x.op x.dst x.src x.imm x.size x.signed x.cond x.to_.data.toList
noncomputable def codeL (c : XItemD) : List UInt8 := if c.label.size = 0 then [9] ++ insL c.ins ++ [10] else c.label.data.toList ++ [58, 10]
noncomputable def codT (data : List XDatumD) (l : List XItemD) : List UInt8 := datT data ++ [9, 46, 116, 101, 120, 116, 10] ++ (l.map codeL).flatten
theorem codT_nil (data : List XDatumD) : codT data [] = datT data ++ [9, 46, 116, 101, 120, 116, 10] := by simp [codT]
theorem codT_snoc (data : List XDatumD) (l : List XItemD) (c : XItemD) : codT data (l ++ [c]) = codT data l ++ codeL c := by
  unfold codT
  rw [List.map_append, List.flatten_append, ← List.append_assoc]
  simp
theorem moveF_len (k : Nat) (g : Bool) : (moveF k g).1.length ≤ 6 := move_len k g
theorem leL_len (k : Nat) : (leL k).length ≤ 1 := by unfold leL; split <;> decide
theorem atL_len (b : Int) {n : Int} (h : In64 n) : (atL b n).length ≤ 30 := atB_size b h
theorem condF_len (c : Int) : (condF c).length ≤ 2 := cond_len c
theorem ite_len {c : Prop} [Decidable c] {a b : List UInt8} {n : Nat} (ha : a.length ≤ n) (hb : b.length ≤ n) : (if c then a else b).length ≤ n := by split <;> assumption
theorem showL_len (op dst src imm size : Int) (k : Nat) (g : Bool) (cond : Int) (tl : List UInt8) (hi : In64 imm) : (showL op dst src imm size k g cond tl).length ≤ 100 + tl.length := by
  have a1 := want_len src 8
  have a2 := want_len dst 8
  have a3 := want_len src size
  have a4 := want_len dst (mvN k g)
  have a5 := want_len dst 1
  have a6 := itoa_len hi
  have a7 := moveF_len k g
  have a8 := leL_len k
  have a9 := atL_len src hi
  have b1 := atL_len dst hi
  have b2 := condF_len cond
  unfold showL
  repeat' (refine ite_len ?_ ?_)
  all_goals (try simp only [List.length_append, List.length_cons, List.length_nil])
  all_goals omega
theorem insL_len (x : XInsD) (hi : In64 x.imm) (ht : x.to_.size ≤ 100) : (insL x).length ≤ 200 := by
  have h3 : x.to_.data.toList.length ≤ 100 := ht
  unfold insL showB
  split
  · have := showL_len x.op x.dst x.src x.imm x.size (kOf x.size) x.signed x.cond x.to_.data.toList hi
    omega
  · simp
theorem lab_emp {a : ByteArray} (h : a.size = 0) : a = ⟨⟨[]⟩⟩ := by
  obtain ⟨⟨l⟩⟩ := a
  have : l.length = 0 := h
  rw [List.length_eq_zero_iff.1 this]
theorem lab_full {a : ByteArray} (h : a.size ≠ 0) : a.toList.isEmpty = false := by
  obtain ⟨⟨l⟩⟩ := a
  rw [toList_data]
  cases l with
  | nil => exact absurd rfl h
  | cons => rfl
theorem codeL_lab {c : XItemD} (h : c.label.size ≠ 0) : (⟨⟨codeL c⟩⟩ : ByteArray) = c.label ++ ⟨#[58, 10]⟩ := by
  unfold codeL
  rw [if_neg h]
  obtain ⟨⟨⟨l⟩⟩, ins⟩ := c
  exact (app_eq l [58, 10]).symm
theorem codeL_ins {c : XItemD} (h : c.label.size = 0) : (⟨⟨codeL c⟩⟩ : ByteArray) = ⟨#[9]⟩ ++ ⟨⟨insL c.ins⟩⟩ ++ ⟨#[10]⟩ := by
  unfold codeL
  rw [if_pos h]
  rw [show (⟨#[9]⟩ : ByteArray) = ⟨⟨[9]⟩⟩ from rfl, show (⟨#[10]⟩ : ByteArray) = ⟨⟨[10]⟩⟩ from rfl, app_eq, app_eq]
structure CodOk (l : List XItemD) : Prop where
  each : ∀ (i : Nat) c, l[i]? = some c → c.label.size ≤ 100 ∧ (c.label.size = 0 → c.ins.to_.size ≤ 100) ∧ In64 c.ins.imm
  len : l.length ≤ 500
theorem codeL_len {l : List XItemD} (h : CodOk l) {i : Nat} {c : XItemD} (hc : l[i]? = some c) : (codeL c).length ≤ 202 := by
  obtain ⟨h1, h2, h3⟩ := h.each i c hc
  have h4 : c.label.data.toList.length ≤ 100 := h1
  unfold codeL
  split
  · rename_i e
    have := insL_len c.ins h3 (h2 e)
    simp only [List.length_append, List.length_cons, List.length_nil]; omega
  · simp only [List.length_append, List.length_cons, List.length_nil]; omega
theorem codT_len {data : List XDatumD} {l : List XItemD} (hd : DatOk data) (h : CodOk l) : ∀ k, k ≤ l.length → (codT data (l.take k)).length ≤ 200007 + k * 202
  | 0, _ => by
    have := datT_small data hd data.length (Nat.le_refl _)
    rw [List.take_length] at this
    simp [codT]; omega
  | k + 1, hk => by
    have ih := codT_len hd h k (by omega)
    obtain ⟨c, hc⟩ : ∃ c, l[k]? = some c := ⟨_, List.getElem?_eq_getElem (by omega)⟩
    have := codeL_len h hc
    rw [take_more hc, codT_snoc]
    simp only [List.length_append, Nat.add_mul, Nat.one_mul]
    omega
theorem codT_small {data : List XDatumD} {l : List XItemD} (hd : DatOk data) (h : CodOk l) (k : Nat) (hk : k ≤ l.length) : (codT data (l.take k)).length ≤ 400000 := by
  have h1 := codT_len hd h k hk
  have h2 := h.len
  omega
end Go.Proofs.YtpkbkmppkgeklaaDoor
namespace Go.Proofs.YtpkbkmppkgeklaaDoor
open Go.RowKit
set_option linter.unusedVariables false
set_option maxHeartbeats 2000000
set_option maxRecDepth 20000
theorem print_any (w : World) (hN : GsOk w) (hP : PowOk w) (p : XProgD) (vd vc : Value) (hd : SlR w 4 (XDatumR w) vd p.data) (hc : SlR w 9 XItemR vc p.code) (kd : DatOk p.data) (kc : CodOk p.code) :
    Calls Tryd.prog 20 #[.agg #[vd, vc]] w fun e w' => e = .returned (.string ⟨⟨codT p.data p.code⟩⟩) ∧ Below w.heap.size w w' := by
  obtain ⟨A1, cap1, rfl, h11, h12, h13⟩ := hd
  obtain ⟨A2, cap2, rfl, h21, h22, h23⟩ := hc
  have H1 := Lib.hid (show SlR w 4 (XDatumR w) (.slice A1 p.data.length cap1) p.data from ⟨A1, cap1, rfl, h11, h12, h13⟩)
  have H2 := Lib.hid (show SlR w 9 XItemR (.slice A2 p.code.length cap2) p.code from ⟨A2, cap2, rfl, h21, h22, h23⟩)
  have KD := Lib.hid kd
  have KC := Lib.hid kc
  have HN := Lib.hid hN
  have HP := Lib.hid hP
  clear h11 h12 h13 h21 h22 h23 kd kc hN hP
  obtain ⟨data, code⟩ := p
  simp only at *
  obtain ⟨wi, hwi⟩ : ∃ wi, wi = (w.alloc (.cells #[.slice A1 data.length cap1, .slice A2 code.length cap2] 47)).alloc (.cells #[.pointer none, .slice none 0 0] 68) := ⟨_, rfl⟩
  have HBI := Lib.hid (show Below w.heap.size w wi by rw [hwi]; exact below_alloc _ (below_alloc _ (Below.refl _ _)))
  have HKP := Lib.hid (show wi.heap[w.heap.size]? = some (.cells #[.slice A1 data.length cap1, .slice A2 code.length cap2] 47 (0, 0)) by rw [hwi]; exact blk_alloc (blk_new w _) _)
  have HFB := Lib.hid (show Lib.IsBuilder 68 5 (w.heap.size + 1) (w.heap.size + 1) [] wi by
    have := Lib.fresh_isBuilder 68 5 (w.alloc (.cells #[.slice A1 data.length cap1, .slice A2 code.length cap2] 47))
    rw [hwi]; simpa using this)
  have hdl : data.length ≤ 200 := KD.out.len
  have hcl : code.length ≤ 500 := KC.out.len
  have hmf : ∀ (fn : Fn) (first cap : Array Value) (w : World), (Instr.makeFunc fn first cap).run Tryd.prog w = .ok (.func fn first cap) w := fun _ _ _ _ => rfl
  go_enter Tryd.func20, Tryd.ntmps20
  go_wp2_with fail
  rw [← hwi]
  refine (put_first (w.heap.size + 1) (w.heap.size + 1) [9, 46, 100, 97, 116, 97, 10] wi HFB.out (by decide) (by rw [hwi]; simp)).mono ?_
  rintro e w1 ⟨rfl, hb1, kb1⟩
  have HB1 := Lib.hid (HBI.out.trans (kb1.mono (by omega)))
  have k1 := (kb1.block w.heap.size (by omega)).trans HKP.out
  have HK1 := Lib.hid k1
  have HL1 := Lib.hid hb1
  have p0 := blk_cell (i := 0) k1 rfl
  have pl := blk_lt k1
  clear hb1 kb1 k1 hwi HFB HKP HBI
  go_wp2_with fail
  go_loopw [15] (fun i wr => ∃ k : Nat, k ≤ data.length ∧ i = .int .i64 k ∧ BLD (w.heap.size + 1) (w.heap.size + 1) (datT (data.take k)) wr ∧ wr.heap[w.heap.size]? = some (.cells #[.slice A1 data.length cap1, .slice A2 code.length cap2] 47 (0, 0)) ∧ Below w.heap.size w wr) (fun i _ => data.length - (intOf i).toNat)
  case atStart => exact ⟨0, by omega, rfl, HL1.out, HK1.out, HB1.out⟩
  case round =>
    obtain ⟨k, hk, rfl, hL, hK, hB⟩ := hrel
    have HB := Lib.hid hB
    have HL := Lib.hid hL
    have HK := Lib.hid hK
    have HSM := Lib.hid (datT_small data KD.out k hk)
    clear hL hK hB
    by_cases hlt : k < data.length
    · obtain ⟨x, hx⟩ : ∃ x, data[k]? = some x := ⟨_, List.getElem?_eq_getElem hlt⟩
      obtain ⟨A4, c4, e1, _, _, e4⟩ := H1.out.later (by decide) HB.out
      simp only [Value.slice.injEq] at e1
      obtain ⟨rfl, _, rfl⟩ := e1
      obtain ⟨b, o, cs, rfl, g2, g3, g4⟩ := e4 k x hx
      obtain ⟨v, rfl, n1, n2, n3, n4, n5⟩ := g4
      have HSV := Lib.hid (n3.later (by decide) HB.out)
      obtain ⟨A5, c5, rfl, _⟩ := n3
      have z0 : wr.cell? ⟨b, o + k * 4, none⟩ = some (.int .i64 x.kind) := g3 0 (by decide)
      have z1 : wr.cell? ⟨b, o + k * 4 + 1, none⟩ = some (.string x.name) := g3 1 (by decide)
      have z2 : wr.cell? ⟨b, o + k * 4 + 2, none⟩ = some (.slice A5 x.data.length c5) := g3 2 (by decide)
      have z3 : wr.cell? ⟨b, o + k * 4 + 3, none⟩ = some (.int .i64 x.n) := g3 3 (by decide)
      have hlx := World.block_lt_of_cell? _ _ z0
      have HLT := Lib.hid hlt
      have HX := Lib.hid (take_more hx)
      have HE := Lib.hid (KD.out.each k x hx)
      have HDL := Lib.hid (KD.out.dat hx)
      obtain ⟨wa, hwa⟩ : ∃ wa, wa = wr.alloc (.cells #[.int .i64 x.kind, .string x.name, .slice A5 x.data.length c5, .int .i64 x.n] 65) := ⟨_, rfl⟩
      have hba : Below wr.heap.size wr wa := by rw [hwa]; exact below_alloc _ (Below.refl _ _)
      have HBA := Lib.hid hba
      have HD := Lib.hid (datum_any wa (HP.out.below (HB.out.bt hba)) x (.slice A5 x.data.length c5) (HSV.out.later (by decide) hba) HDL.out HE.out.1 HE.out.2.1)
      clear g3 e4 hx n1 n2 n4 n5 hba
      go_wp2_with fail
      rw [← hwa]
      clear hwa z0 z1 z2 z3 hlx
      refine HD.out.mono ?_
      rintro e w2 ⟨rfl, kb2⟩
      have hsz : (⟨⟨datL x⟩⟩ : ByteArray).size ≤ 110000 := by have := datL_len x HE.out.1 HE.out.2.1 HE.out.2.2; have := HDL.out; rw [size_mk]; omega
      have hL2 := (HL.out.later HBA.out).later kb2
      have HW := Lib.hid (put_more (w.heap.size + 1) (w.heap.size + 1) (datT (data.take k)) (datL x ++ [10]) w2 hL2 (by have := HSM.out; omega) (by rw [size_mk] at hsz; simp; omega) (Nat.le_of_lt hL2.lt))
      have HK2 := Lib.hid (blk_below (blk_below HK.out HBA.out) kb2)
      have HB2 := Lib.hid ((HB.out.bt HBA.out).bt kb2)
      obtain ⟨S, hS⟩ : ∃ S : ByteArray, S = ⟨⟨datL x⟩⟩ := ⟨_, rfl⟩
      have hSS : (⟨⟨datL x ++ [10]⟩⟩ : ByteArray) = S ++ ⟨#[10]⟩ := by rw [hS]; exact (app_eq (datL x) [10]).symm
      rw [hSS] at HW
      rw [← hS] at hsz ⊢
      clear hL2 kb2 hS hSS HD
      go_wp2_with fail
      refine HW.out.mono ?_
      rintro e w3 ⟨rfl, hb3, kb3⟩
      have HL3 := Lib.hid hb3
      have HK3 := Lib.hid ((kb3.block w.heap.size (by omega)).trans HK2.out)
      have HB3 := Lib.hid (HB2.out.trans (kb3.mono (by omega)))
      clear hb3 kb3
      go_wp2_with fail
      have hlt := HLT.out
      go_roundw
      case rel => exact ⟨k + 1, by omega, by go_num, by rw [HX.out, datT_snoc]; exact HL3.out, HK3.out, HB3.out⟩
      case measure => simp [intOf]; omega
    · have e : k = data.length := by omega
      subst e
      rw [List.take_length] at HL HSM
      have HW := Lib.hid (put_more (w.heap.size + 1) (w.heap.size + 1) (datT data) [9, 46, 116, 101, 120, 116, 10] wr HL.out (by have := HSM.out; omega) (by decide) (Nat.le_of_lt HL.out.lt))
      rw [← codT_nil] at HW
      go_wp2_with fail
      refine HW.out.mono ?_
      rintro e w4 ⟨rfl, hb4, kb4⟩
      have k4 := (kb4.block w.heap.size (by omega)).trans HK.out
      have HK4 := Lib.hid k4
      have HB4 := Lib.hid (HB.out.trans (kb4.mono (by omega)))
      have HL4 := Lib.hid hb4
      have q1 := blk_cell (i := 1) k4 rfl
      have ql := blk_lt k4
      clear hb4 kb4 k4 HW HL HK HB HL1 HK1 HB1 p0 pl hk hlt
      go_wp2_with fail
      go_loopw [30] (fun i wr => ∃ k : Nat, k ≤ code.length ∧ i = .int .i64 k ∧ BLD (w.heap.size + 1) (w.heap.size + 1) (codT data (code.take k)) wr ∧ Below w.heap.size w wr) (fun i _ => code.length - (intOf i).toNat)
      case atStart => exact ⟨0, by omega, rfl, HL4.out, HB4.out⟩
      case round =>
        obtain ⟨k, hk, rfl, hL, hB⟩ := hrel
        have HB := Lib.hid hB
        have HL := Lib.hid hL
        have HSM := Lib.hid (codT_small KD.out KC.out k hk)
        clear hL hB
        by_cases hlt : k < code.length
        · obtain ⟨x, hx⟩ : ∃ x, code[k]? = some x := ⟨_, List.getElem?_eq_getElem hlt⟩
          obtain ⟨A4, c4, e1, _, _, e4⟩ := H2.out.later (by decide) HB.out
          simp only [Value.slice.injEq] at e1
          obtain ⟨rfl, _, rfl⟩ := e1
          obtain ⟨b, o, cs, rfl, g2, g3, g4⟩ := e4 k x hx
          have HX := Lib.hid (take_more hx)
          have HE := Lib.hid (KC.out.each k x hx)
          have HCL := Lib.hid (codeL_len KC.out hx)
          obtain ⟨lab, ⟨op, dst, src, imm, size, sg, cond, to_⟩⟩ := x
          obtain ⟨⟨tl⟩⟩ := to_
          obtain ⟨rfl, n0, n1, n2, n3, n4, n5, n6, n7⟩ := g4
          simp only at g3
          have z0 : wr.cell? ⟨b, o + k * 9, none⟩ = some (.string lab) := g3 0 (by decide)
          have z1 : wr.cell? ⟨b, o + k * 9 + 1, none⟩ = some (.int .i64 op) := g3 1 (by decide)
          have z2 : wr.cell? ⟨b, o + k * 9 + 2, none⟩ = some (.int .i64 dst) := g3 2 (by decide)
          have z3 : wr.cell? ⟨b, o + k * 9 + 3, none⟩ = some (.int .i64 src) := g3 3 (by decide)
          have z4 : wr.cell? ⟨b, o + k * 9 + 4, none⟩ = some (.int .i64 imm) := g3 4 (by decide)
          have z5 : wr.cell? ⟨b, o + k * 9 + 5, none⟩ = some (.int .i64 size) := g3 5 (by decide)
          have z6 : wr.cell? ⟨b, o + k * 9 + 6, none⟩ = some (.bool sg) := g3 6 (by decide)
          have z7 : wr.cell? ⟨b, o + k * 9 + 7, none⟩ = some (.int .i64 cond) := g3 7 (by decide)
          have z8 : wr.cell? ⟨b, o + k * 9 + 8, none⟩ = some (.string ⟨⟨tl⟩⟩) := g3 8 (by decide)
          have hlx := World.block_lt_of_cell? _ _ z0
          have HLT := Lib.hid hlt
          have HI := Lib.hid (And.intro n1 (And.intro n2 (And.intro n3 (And.intro n4 (And.intro n5 n6)))))
          have hlab : lab.size ≤ 100 := HE.out.1
          obtain ⟨wa, hwa⟩ : ∃ wa, wa = wr.alloc (.cells #[.string lab, .int .i64 op, .int .i64 dst, .int .i64 src, .int .i64 imm, .int .i64 size, .bool sg, .int .i64 cond, .string ⟨⟨tl⟩⟩] 62) := ⟨_, rfl⟩
          have hba : Below wr.heap.size wr wa := by rw [hwa]; exact below_alloc _ (Below.refl _ _)
          have HBA := Lib.hid hba
          clear g3 e4 hx n0 n1 n2 n3 n4 n5 n6 n7 hba
          by_cases h0 : lab.size = 0
          · have HCI := Lib.hid (codeL_ins (c := ⟨lab, ⟨op, dst, src, imm, size, sg, cond, ⟨⟨tl⟩⟩⟩⟩) h0)
            have htl := HE.out.2.1 h0
            obtain rfl := lab_emp h0
            have hq1 : ((⟨⟨[]⟩⟩ : ByteArray).toList.isEmpty) = true := by kernel_rfl
            have HS := Lib.hid (show_any wa ((HN.out.below HB.out).below HBA.out) ((HP.out.below HB.out).below HBA.out) op dst src imm size cond sg tl HI.out.1 HI.out.2.1 HI.out.2.2.1 HI.out.2.2.2.1 HI.out.2.2.2.2.1 HI.out.2.2.2.2.2 (by rw [size_mk] at htl; omega))
            go_wp2_with fail
            rw [← hwa]
            clear hwa z0 z1 z2 z3 z4 z5 z6 z7 z8 hlx
            refine HS.out.mono ?_
            rintro e w2 ⟨rfl, kb2⟩
            have hsz : (⟨⟨showB op dst src imm size sg cond tl⟩⟩ : ByteArray).size ≤ 200 := insL_len ⟨op, dst, src, imm, size, sg, cond, ⟨⟨tl⟩⟩⟩ HI.out.2.2.2.1 htl
            have hLA := (HL.out.later HBA.out).later kb2
            have HW := Lib.hid (put_more (w.heap.size + 1) (w.heap.size + 1) (codT data (code.take k)) (codeL ⟨⟨⟨[]⟩⟩, ⟨op, dst, src, imm, size, sg, cond, ⟨⟨tl⟩⟩⟩⟩) w2 hLA (by have := HSM.out; omega) (by have := HCL.out; omega) (Nat.le_of_lt hLA.lt))
            rw [HCI.out, show insL ⟨op, dst, src, imm, size, sg, cond, ⟨⟨tl⟩⟩⟩ = showB op dst src imm size sg cond tl from rfl] at HW
            have HB2 := Lib.hid ((HB.out.bt HBA.out).bt kb2)
            obtain ⟨S, hS⟩ : ∃ S : ByteArray, S = ⟨⟨showB op dst src imm size sg cond tl⟩⟩ := ⟨_, rfl⟩
            rw [← hS] at HW hsz ⊢
            clear hLA kb2 hS HS htl
            go_wp2_with fail
            refine HW.out.mono ?_
            rintro e w3 ⟨rfl, hb3, kb3⟩
            have HL3 := Lib.hid hb3
            have HB3 := Lib.hid (HB2.out.trans (kb3.mono (by omega)))
            clear hb3 kb3
            go_wp2_with fail
            have hlt := HLT.out
            go_roundw
            case rel => exact ⟨k + 1, by omega, by go_num, by rw [HX.out, codT_snoc]; exact HL3.out, HB3.out⟩
            case measure => simp [intOf]; omega
          · have HCI := Lib.hid (codeL_lab (c := ⟨lab, ⟨op, dst, src, imm, size, sg, cond, ⟨⟨tl⟩⟩⟩⟩) h0)
            have hq1 := lab_full h0
            have hLA := HL.out.later HBA.out
            have HW := Lib.hid (put_more (w.heap.size + 1) (w.heap.size + 1) (codT data (code.take k)) (codeL ⟨lab, ⟨op, dst, src, imm, size, sg, cond, ⟨⟨tl⟩⟩⟩⟩) wa hLA (by have := HSM.out; omega) (by have := HCL.out; omega) (Nat.le_of_lt hLA.lt))
            rw [HCI.out] at HW
            clear hLA
            go_wp2_with fail
            rw [← hwa]
            clear hwa z0 z1 z2 z3 z4 z5 z6 z7 z8 hlx
            refine HW.out.mono ?_
            rintro e w3 ⟨rfl, hb3, kb3⟩
            have HL3 := Lib.hid hb3
            have HB3 := Lib.hid ((HB.out.bt HBA.out).trans (kb3.mono (by omega)))
            clear hb3 kb3
            go_wp2_with fail
            have hlt := HLT.out
            go_roundw
            case rel => exact ⟨k + 1, by omega, by go_num, by rw [HX.out, codT_snoc]; exact HL3.out, HB3.out⟩
            case measure => simp [intOf]; omega
        · have e : k = code.length := by omega
          subst e
          rw [List.take_length] at HL
          have HT := Lib.hid (text_of (w.heap.size + 1) (w.heap.size + 1) (codT data code) wr HL.out (Nat.le_of_lt HL.out.lt))
          go_wp2_with fail
          refine HT.out.mono ?_
          rintro e w5 ⟨rfl, kb5⟩
          have HB5 := Lib.hid (HB.out.trans (kb5.mono (by omega)))
          clear kb5
          go_wp2_with fail
          go_returns
          exact ⟨rfl, HB5.out⟩
end Go.Proofs.YtpkbkmppkgeklaaDoor
namespace Go.Proofs.YtpkbkmppkgeklaaDoor
open Go.RowKit
set_option linter.unusedVariables false
set_option maxHeartbeats 2000000
set_option maxRecDepth 20000
theorem cat_lit (L l : List UInt8) : (⟨⟨L⟩⟩ ++ ⟨⟨l⟩⟩ : ByteArray) = ⟨⟨L ++ l⟩⟩ := app_eq L l
theorem dat_0 (L : List UInt8) (d : XDatumD) (h : d.kind = 0) : (⟨⟨L⟩⟩ ++ (d.name ++ ⟨#[58, 10]⟩) : ByteArray) = ⟨⟨L ++ (datL d ++ [10])⟩⟩ := by
  unfold datL
  rw [if_pos h]
  obtain ⟨kind, ⟨⟨nl⟩⟩, data, n⟩ := d
  rw [show (⟨#[58, 10]⟩ : ByteArray) = ⟨⟨[58, 10]⟩⟩ from rfl]
  simp only [cat_lit, List.append_assoc, List.cons_append, List.nil_append]
theorem dat_2 (L : List UInt8) (d : XDatumD) (h : d.kind = 2) : (⟨⟨L⟩⟩ ++ (⟨#[9, 46, 113, 117, 97, 100, 32]⟩ ++ d.name ++ ⟨#[10]⟩) : ByteArray) = ⟨⟨L ++ (datL d ++ [10])⟩⟩ := by
  unfold datL
  rw [if_neg (by omega), if_neg (by omega), if_pos h]
  obtain ⟨kind, ⟨⟨nl⟩⟩, data, n⟩ := d
  rw [show (⟨#[9, 46, 113, 117, 97, 100, 32]⟩ : ByteArray) = ⟨⟨[9, 46, 113, 117, 97, 100, 32]⟩⟩ from rfl, show (⟨#[10]⟩ : ByteArray) = ⟨⟨[10]⟩⟩ from rfl]
  simp only [cat_lit]
theorem dat_n (L l : List UInt8) (a : ByteArray) (ha : a = ⟨⟨l⟩⟩) (d : XDatumD) (hl : datL d = l ++ Lib.itoa d.n) : (⟨⟨L⟩⟩ ++ (a ++ numB d.n ++ ⟨#[10]⟩) : ByteArray) = ⟨⟨L ++ (datL d ++ [10])⟩⟩ := by
  rw [hl, ha, show (⟨#[10]⟩ : ByteArray) = ⟨⟨[10]⟩⟩ from rfl]
  unfold numB
  simp only [cat_lit]
theorem rprint_any (w : World) (hN : GsOk w) (p : XProgD) (vd vc : Value) (hd : SlR w 4 (XDatumR w) vd p.data) (hc : SlR w 9 XItemR vc p.code) (kd : DatOk p.data) (kc : CodOk p.code) (hP : PowOk w) :
    Calls Tryd.prog 21 #[.agg #[vd, vc]] w fun e w' => e = .returned (.string ⟨⟨codT p.data p.code⟩⟩) ∧ Below w.heap.size w w' := by
  obtain ⟨A1, cap1, rfl, h11, h12, h13⟩ := hd
  obtain ⟨A2, cap2, rfl, h21, h22, h23⟩ := hc
  have H1 := Lib.hid (show SlR w 4 (XDatumR w) (.slice A1 p.data.length cap1) p.data from ⟨A1, cap1, rfl, h11, h12, h13⟩)
  have H2 := Lib.hid (show SlR w 9 XItemR (.slice A2 p.code.length cap2) p.code from ⟨A2, cap2, rfl, h21, h22, h23⟩)
  have KD := Lib.hid kd
  have KC := Lib.hid kc
  have HN := Lib.hid hN
  have HP := Lib.hid hP
  clear h11 h12 h13 h21 h22 h23 kd kc hN hP
  obtain ⟨data, code⟩ := p
  simp only at *
  have hdl : data.length ≤ 200 := KD.out.len
  have hcl : code.length ≤ 500 := KC.out.len
  have HBI := Lib.hid (show Below w.heap.size w (w.alloc (.cells #[.slice A1 data.length cap1, .slice A2 code.length cap2] 54)) from below_alloc _ (Below.refl _ _))
  have HKP := Lib.hid (blk_new w (.cells #[.slice A1 data.length cap1, .slice A2 code.length cap2] 54))
  go_enter Tryd.func21, Tryd.ntmps21
  go_wp2_with fail
  go_loopw [3, 4] (fun s i wr => ∃ k : Nat, k ≤ data.length ∧ i = .int .i64 k ∧ s = .string ⟨⟨datT (data.take k)⟩⟩ ∧ wr.heap[w.heap.size]? = some (.cells #[.slice A1 data.length cap1, .slice A2 code.length cap2] 54 (0, 0)) ∧ Below w.heap.size w wr) (fun _ i _ => data.length - (intOf i).toNat)
  case atStart => exact ⟨0, by omega, rfl, rfl, HKP.out, HBI.out⟩
  case round =>
    obtain ⟨k, hk, rfl, rfl, hK, hB⟩ := hrel
    have HB := Lib.hid hB
    have HK := Lib.hid hK
    have hSM := datT_small data KD.out k hk
    obtain ⟨L, hL⟩ : ∃ L, L = datT (data.take k) := ⟨_, rfl⟩
    rw [← hL] at hSM ⊢
    obtain ⟨S, hS⟩ : ∃ S : ByteArray, S = ⟨⟨L⟩⟩ := ⟨_, rfl⟩
    have hsz : S.size ≤ 200000 := by rw [hS]; exact hSM
    rw [← hS]
    have HLE := Lib.hid hL
    have HSE := Lib.hid hS
    have p0 := blk_cell (i := 0) hK rfl
    have pl := blk_lt hK
    clear hL hS hK hB hSM
    by_cases hlt : k < data.length
    · obtain ⟨x, hx⟩ : ∃ x, data[k]? = some x := ⟨_, List.getElem?_eq_getElem hlt⟩
      obtain ⟨A4, c4, e1, _, _, e4⟩ := H1.out.later (by decide) HB.out
      simp only [Value.slice.injEq] at e1
      obtain ⟨rfl, _, rfl⟩ := e1
      obtain ⟨b, o, cs, rfl, g2, g3, g4⟩ := e4 k x hx
      obtain ⟨v, rfl, n1, n2, n3, n4, n5⟩ := g4
      have HSV := Lib.hid (n3.later (by decide) HB.out)
      obtain ⟨A5, c5, rfl, _⟩ := n3
      have z0 : wr.cell? ⟨b, o + k * 4, none⟩ = some (.int .i64 x.kind) := g3 0 (by decide)
      have z1 : wr.cell? ⟨b, o + k * 4 + 1, none⟩ = some (.string x.name) := g3 1 (by decide)
      have z2 : wr.cell? ⟨b, o + k * 4 + 2, none⟩ = some (.slice A5 x.data.length c5) := g3 2 (by decide)
      have z3 : wr.cell? ⟨b, o + k * 4 + 3, none⟩ = some (.int .i64 x.n) := g3 3 (by decide)
      have hlx := World.block_lt_of_cell? _ _ z0
      have HLT := Lib.hid hlt
      have HX := Lib.hid (take_more hx)
      have HE := Lib.hid (KD.out.each k x hx)
      have hdx := KD.out.dat hx
      have hnm : x.name.size ≤ 100 := HE.out.2.1
      obtain ⟨wa, hwa⟩ : ∃ wa, wa = wr.alloc (.cells #[.int .i64 x.kind, .string x.name, .slice A5 x.data.length c5, .int .i64 x.n] 75) := ⟨_, rfl⟩
      have hba : Below wr.heap.size wr wa := by rw [hwa]; exact below_alloc _ (Below.refl _ _)
      have HKX := Lib.hid (show wa.heap[wr.heap.size]? = some (.cells #[.int .i64 x.kind, .string x.name, .slice A5 x.data.length c5, .int .i64 x.n] 75 (0, 0)) by rw [hwa]; exact blk_new _ _)
      have HBX := Lib.hid hba
      have HBA := Lib.hid (HB.out.bt hba)
      have HKA := Lib.hid (blk_below HK.out hba)
      have HNM := Lib.hid (num_any wa (HN.out.below (HB.out.bt hba)) x.n HE.out.1)
      have hnz := numB_size HE.out.1
      obtain ⟨M, hM⟩ : ∃ M : ByteArray, M = numB x.n := ⟨_, rfl⟩
      rw [← hM] at hnz HNM
      have HME := Lib.hid hM
      have HST := Lib.hid (show datT (data.take (k + 1)) = L ++ (datL x ++ [10]) by rw [HX.out, datT_snoc, HLE.out])
      clear g3 e4 hx n1 n2 n4 n5 hba hM
      by_cases k0 : x.kind = 0
      · have HQ := Lib.hid (dat_0 L x k0)
        rw [k0] at z0 hwa
        go_wp2_with fail
        have hlt := HLT.out
        go_roundw
        case rel =>
          rw [← hwa]
          exact ⟨k + 1, by omega, by go_num, by rw [HST.out, ← HQ.out, HSE.out], HKA.out, HBA.out⟩
        case measure => simp [intOf]; omega
      by_cases k2 : x.kind = 2
      · have HQ := Lib.hid (dat_2 L x k2)
        rw [k2] at z0 hwa
        go_wp2_with fail
        have hlt := HLT.out
        go_roundw
        case rel =>
          rw [← hwa]
          exact ⟨k + 1, by omega, by go_num, by rw [HST.out, ← HQ.out, HSE.out], HKA.out, HBA.out⟩
        case measure => simp [intOf]; omega
      by_cases k3 : x.kind = 3
      · have HQ := Lib.hid (dat_n L [9, 46, 112, 117, 98, 108, 105, 99, 32] ⟨#[9, 46, 112, 117, 98, 108, 105, 99, 32]⟩ rfl x (by unfold datL; rw [if_neg k0, if_neg (by omega), if_neg k2, if_pos k3]))
        rw [k3] at z0 hwa
        go_wp2_with fail
        rw [← hwa]
        clear z0 z1 z2 z3 hwa
        refine HNM.out.mono ?_
        rintro e w2 ⟨rfl, kb⟩
        have HKB := Lib.hid (HBA.out.bt kb)
        have HK2 := Lib.hid (blk_below HKA.out kb)
        clear kb
        go_wp2_with fail
        have hlt := HLT.out
        go_roundw
        case rel => exact ⟨k + 1, by omega, by go_num, by rw [HST.out, ← HQ.out, HSE.out, HME.out], HK2.out, HKB.out⟩
        case measure => simp [intOf]; omega
      by_cases k4 : x.kind = 4
      · have HQ := Lib.hid (dat_n L [9, 46, 115, 101, 99, 114, 101, 116, 32] ⟨#[9, 46, 115, 101, 99, 114, 101, 116, 32]⟩ rfl x (by unfold datL; rw [if_neg k0, if_neg (by omega), if_neg k2, if_neg k3, if_pos k4]))
        rw [k4] at z0 hwa
        go_wp2_with fail
        rw [← hwa]
        clear z0 z1 z2 z3 hwa
        refine HNM.out.mono ?_
        rintro e w2 ⟨rfl, kb⟩
        have HKB := Lib.hid (HBA.out.bt kb)
        have HK2 := Lib.hid (blk_below HKA.out kb)
        clear kb
        go_wp2_with fail
        have hlt := HLT.out
        go_roundw
        case rel => exact ⟨k + 1, by omega, by go_num, by rw [HST.out, ← HQ.out, HSE.out, HME.out], HK2.out, HKB.out⟩
        case measure => simp [intOf]; omega
      by_cases k1 : x.kind = 1
      · have HDQ := Lib.hid (show datL x = [9, 46, 98, 121, 116, 101, 32] ++ byteLs x.data by unfold datL; rw [if_neg k0, if_pos k1])
        rw [k1] at z0 hwa HKX
        go_wp2_with fail
        rw [← hwa]
        clear z0 z1 z2 z3 hwa HNM hnz HME p0 pl
        go_loopw [3, 6] (fun s i wb => ∃ j : Nat, j ≤ x.data.length ∧ i = .int .i64 j ∧ s = .string ⟨⟨L ++ [9, 46, 98, 121, 116, 101, 32] ++ byteLs (x.data.take j)⟩⟩ ∧ Below wa.heap.size wa wb) (fun _ i _ => x.data.length - (intOf i).toNat)
        case atStart => exact ⟨0, by omega, rfl, by rw [HSE.out]; exact congrArg Value.string ((cat_lit L [9, 46, 98, 121, 116, 101, 32]).trans (by simp [byteLs_nil])), Below.refl _ _⟩
        case round =>
          obtain ⟨j, hj, rfl, rfl, hb⟩ := hrel
          have HBJ := Lib.hid hb
          have kx := blk_below HKX.out hb
          have y2 := blk_cell (i := 2) kx rfl
          have yl := blk_lt kx
          have hTl : (L ++ [9, 46, 98, 121, 116, 101, 32] ++ byteLs (x.data.take j)).length ≤ 310000 := by
            have h1 := byteLs_len _ (HE.out.2.2.take j)
            have h2 : L.length ≤ 200000 := by rw [HSE.out] at hsz; exact hsz
            simp only [List.length_append, List.length_take, List.length_cons, List.length_nil] at h1 ⊢
            omega
          obtain ⟨T, hT⟩ : ∃ T : ByteArray, T = ⟨⟨L ++ [9, 46, 98, 121, 116, 101, 32] ++ byteLs (x.data.take j)⟩⟩ := ⟨_, rfl⟩
          have htz : T.size ≤ 310000 := by rw [hT]; exact hTl
          rw [← hT]
          have HTE := Lib.hid hT
          clear hT hTl hb kx
          by_cases hltj : j < x.data.length
          · obtain ⟨c, hc⟩ : ∃ c, x.data[j]? = some c := ⟨_, List.getElem?_eq_getElem hltj⟩
            obtain ⟨A6, c6, f1, _, _, f4⟩ := HSV.out.later (by decide) (HBX.out.bt HBJ.out)
            simp only [Value.slice.injEq] at f1
            obtain ⟨rfl, _, rfl⟩ := f1
            obtain ⟨b5, o5, cs, rfl, q2, q3, rfl, q4, q5⟩ := f4 j c hc
            have u0 : wr.cell? ⟨b5, o5 + j, none⟩ = some (.int .u8 c) := by simpa using q3 0 (by decide)
            have hlu := World.block_lt_of_cell? _ _ u0
            have HCX := Lib.hid (take_more hc)
            have HLJ := Lib.hid hltj
            have HNC := Lib.hid (num_any wr (HN.out.below (HBA.out.bt HBJ.out)) c ⟨by omega, by omega⟩)
            have hcz := numB_size (n := c) ⟨by omega, by omega⟩
            obtain ⟨M, hM⟩ : ∃ M : ByteArray, M = numB c := ⟨_, rfl⟩
            rw [← hM] at hcz HNC
            have HME := Lib.hid hM
            clear hc q3 f4 hM
            by_cases hj0 : j = 0
            · subst hj0
              have HNX := Lib.hid (show T ++ numB c = ⟨⟨L ++ [9, 46, 98, 121, 116, 101, 32] ++ byteLs (x.data.take (0 + 1))⟩⟩ by
                rw [HTE.out, HCX.out, List.take_zero, List.nil_append, byteLs_one, byteLs_nil, List.append_nil]
                exact cat_lit _ _)
              rw [show ((0 : Nat) : Int) = 0 from rfl]
              rw [Nat.add_zero] at u0
              go_wp2_with fail
              refine HNC.out.mono ?_
              rintro e w2 ⟨rfl, kb⟩
              have HKB := Lib.hid (HBJ.out.bt kb)
              clear kb
              go_wp2_with fail
              have hltj := HLJ.out
              go_roundw
              case rel => exact ⟨0 + 1, by omega, by go_num, by rw [← HNX.out, HME.out], HKB.out⟩
              case measure => simp [intOf]; omega
            · have HNX := Lib.hid (show T ++ ⟨#[44]⟩ ++ numB c = ⟨⟨L ++ [9, 46, 98, 121, 116, 101, 32] ++ byteLs (x.data.take (j + 1))⟩⟩ by
                rw [HTE.out, HCX.out, byteLs_snoc _ _ (by intro e; have := congrArg List.length e; rw [List.length_take, List.length_nil] at this; omega), show (⟨#[44]⟩ : ByteArray) = ⟨⟨[44]⟩⟩ from rfl, show numB c = ⟨⟨Lib.itoa c⟩⟩ from rfl, cat_lit, cat_lit]
                simp only [List.append_assoc])
              have hjp : 0 < j := by omega
              go_wp2_with fail
              refine HNC.out.mono ?_
              rintro e w2 ⟨rfl, kb⟩
              have HKB := Lib.hid (HBJ.out.bt kb)
              clear kb
              go_wp2_with fail
              have hltj := HLJ.out
              go_roundw
              case rel => exact ⟨j + 1, by omega, by go_num, by rw [← HNX.out, HME.out], HKB.out⟩
              case measure => simp [intOf]; omega
          · have e : j = x.data.length := by omega
            subst e
            rw [List.take_length] at HTE
            have HNX := Lib.hid (show T ++ ⟨#[10]⟩ = ⟨⟨L ++ (datL x ++ [10])⟩⟩ by
              rw [HTE.out, HDQ.out, show (⟨#[10]⟩ : ByteArray) = ⟨⟨[10]⟩⟩ from rfl, cat_lit]
              simp only [List.append_assoc])
            go_wp2_with fail
            have hlt := HLT.out
            go_roundw
            case rel => exact ⟨k + 1, by omega, by go_num, by rw [HST.out, ← HNX.out], blk_below HKA.out HBJ.out, HBA.out.bt HBJ.out⟩
            case measure => simp [intOf]; omega
      · have HQ := Lib.hid (dat_n L [9, 46, 122, 101, 114, 111, 32] ⟨#[9, 46, 122, 101, 114, 111, 32]⟩ rfl x (by unfold datL; rw [if_neg k0, if_neg k1, if_neg k2, if_neg k3, if_neg k4]))
        go_wp2_with fail
        rw [← hwa]
        clear z0 z1 z2 z3 hwa
        refine HNM.out.mono ?_
        rintro e w2 ⟨rfl, kb⟩
        have HKB := Lib.hid (HBA.out.bt kb)
        have HK2 := Lib.hid (blk_below HKA.out kb)
        clear kb
        go_wp2_with fail
        have hlt := HLT.out
        go_roundw
        case rel => exact ⟨k + 1, by omega, by go_num, by rw [HST.out, ← HQ.out, HSE.out, HME.out], HK2.out, HKB.out⟩
        case measure => simp [intOf]; omega
    · have e : k = data.length := by omega
      subst e
      go_wp2_with fail
      have HL0 := Lib.hid (show (Value.string (S ++ ⟨#[9, 46, 116, 101, 120, 116, 10]⟩)) = .string ⟨⟨codT data (code.take 0)⟩⟩ by
        rw [HSE.out, HLE.out, List.take_length, List.take_zero, codT_nil]
        exact congrArg Value.string (cat_lit _ _))
      clear HSE HLE hsz
      go_loopw [3, 7] (fun s i wr => ∃ k : Nat, k ≤ code.length ∧ i = .int .i64 k ∧ s = .string ⟨⟨codT data (code.take k)⟩⟩ ∧ wr.heap[w.heap.size]? = some (.cells #[.slice A1 data.length cap1, .slice A2 code.length cap2] 54 (0, 0)) ∧ Below w.heap.size w wr) (fun _ i _ => code.length - (intOf i).toNat)
      case atStart => exact ⟨0, by omega, rfl, HL0.out, HK.out, HB.out⟩
      case round =>
        obtain ⟨k, hk, rfl, rfl, hK, hB⟩ := hrel
        have HB := Lib.hid hB
        have HK := Lib.hid hK
        have hSM := codT_small KD.out KC.out k hk
        obtain ⟨L, hL⟩ : ∃ L, L = codT data (code.take k) := ⟨_, rfl⟩
        rw [← hL] at hSM ⊢
        obtain ⟨S, hS⟩ : ∃ S : ByteArray, S = ⟨⟨L⟩⟩ := ⟨_, rfl⟩
        have hsz : S.size ≤ 400000 := by rw [hS]; exact hSM
        rw [← hS]
        have HLE := Lib.hid hL
        have HSE := Lib.hid hS
        have p0 := blk_cell (i := 1) hK rfl
        have pl := blk_lt hK
        clear hL hS hK hB hSM HL0
        by_cases hlt : k < code.length
        · obtain ⟨x, hx⟩ : ∃ x, code[k]? = some x := ⟨_, List.getElem?_eq_getElem hlt⟩
          obtain ⟨A4, c4, e1, _, _, e4⟩ := H2.out.later (by decide) HB.out
          simp only [Value.slice.injEq] at e1
          obtain ⟨rfl, _, rfl⟩ := e1
          obtain ⟨b, o, cs, rfl, g2, g3, g4⟩ := e4 k x hx
          have HLT := Lib.hid hlt
          have HE := Lib.hid (KC.out.each k x hx)
          have HST := Lib.hid (show codT data (code.take (k + 1)) = L ++ codeL x by rw [take_more hx, codT_snoc, HLE.out])
          obtain ⟨lab, ⟨op, dst, src, imm, size, sg, cond, to_⟩⟩ := x
          obtain ⟨⟨tl⟩⟩ := to_
          obtain ⟨rfl, n0, n1, n2, n3, n4, n5, n6, n7⟩ := g4
          have z0 : wr.cell? ⟨b, o + k * 9, none⟩ = some (.string lab) := g3 0 (by decide)
          have z1 : wr.cell? ⟨b, o + k * 9 + 1, none⟩ = some (.int .i64 op) := g3 1 (by decide)
          have z2 : wr.cell? ⟨b, o + k * 9 + 1 + 1, none⟩ = some (.int .i64 dst) := g3 2 (by decide)
          have z3 : wr.cell? ⟨b, o + k * 9 + 1 + 2, none⟩ = some (.int .i64 src) := g3 3 (by decide)
          have z4 : wr.cell? ⟨b, o + k * 9 + 1 + 3, none⟩ = some (.int .i64 imm) := g3 4 (by decide)
          have z5 : wr.cell? ⟨b, o + k * 9 + 1 + 4, none⟩ = some (.int .i64 size) := g3 5 (by decide)
          have z6 : wr.cell? ⟨b, o + k * 9 + 1 + 5, none⟩ = some (.bool sg) := g3 6 (by decide)
          have z7 : wr.cell? ⟨b, o + k * 9 + 1 + 6, none⟩ = some (.int .i64 cond) := g3 7 (by decide)
          have z8 : wr.cell? ⟨b, o + k * 9 + 1 + 7, none⟩ = some (.string ⟨⟨tl⟩⟩) := g3 8 (by decide)
          have hlx := World.block_lt_of_cell? _ _ z0
          have HI := Lib.hid (And.intro n1 (And.intro n2 (And.intro n3 (And.intro n4 (And.intro n5 n6)))))
          have hlab : lab.size ≤ 100 := HE.out.1
          clear g3 e4 hx n0 n1 n2 n3 n4 n5 n6 n7
          by_cases h0 : lab.size = 0
          · have HCI := Lib.hid (codeL_ins (c := ⟨lab, ⟨op, dst, src, imm, size, sg, cond, ⟨⟨tl⟩⟩⟩⟩) h0)
            have htl := HE.out.2.1 h0
            obtain rfl := lab_emp h0
            have hq1 : ((⟨⟨[]⟩⟩ : ByteArray).toList.isEmpty) = true := by kernel_rfl
            have HS := Lib.hid (rshow_any wr (HN.out.below HB.out) (HP.out.below HB.out) op dst src imm size cond sg tl HI.out.1 HI.out.2.1 HI.out.2.2.1 HI.out.2.2.2.1 HI.out.2.2.2.2.1 HI.out.2.2.2.2.2 (by rw [size_mk] at htl; omega))
            have hmz : (⟨⟨showB op dst src imm size sg cond tl⟩⟩ : ByteArray).size ≤ 200 := insL_len ⟨op, dst, src, imm, size, sg, cond, ⟨⟨tl⟩⟩⟩ HI.out.2.2.2.1 htl
            obtain ⟨M, hM⟩ : ∃ M : ByteArray, M = ⟨⟨showB op dst src imm size sg cond tl⟩⟩ := ⟨_, rfl⟩
            rw [← hM] at HS hmz
            have HNX := Lib.hid (show S ++ (⟨#[9]⟩ ++ M ++ ⟨#[10]⟩) = ⟨⟨codT data (code.take (k + 1))⟩⟩ by
              rw [HST.out, HSE.out, hM]
              exact (congrArg (fun z => (⟨⟨L⟩⟩ : ByteArray) ++ z) HCI.out.symm).trans (cat_lit _ _))
            clear hM htl
            go_wp2_with fail
            clear z0 z1 z2 z3 z4 z5 z6 z7 z8 hlx
            refine HS.out.mono ?_
            rintro e w2 ⟨rfl, kb2⟩
            have HB2 := Lib.hid (HB.out.bt kb2)
            have HK2 := Lib.hid (blk_below HK.out kb2)
            clear kb2
            go_wp2_with fail
            have hlt := HLT.out
            go_roundw
            case rel => exact ⟨k + 1, by omega, by go_num, by rw [← HNX.out], HK2.out, HB2.out⟩
            case measure => simp [intOf]; omega
          · have HCI := Lib.hid (codeL_lab (c := ⟨lab, ⟨op, dst, src, imm, size, sg, cond, ⟨⟨tl⟩⟩⟩⟩) h0)
            have hq1 := lab_full h0
            have HNX := Lib.hid (show S ++ (lab ++ ⟨#[58, 10]⟩) = ⟨⟨codT data (code.take (k + 1))⟩⟩ by
              rw [HST.out, HSE.out]
              exact (congrArg (fun z => (⟨⟨L⟩⟩ : ByteArray) ++ z) HCI.out.symm).trans (cat_lit _ _))
            go_wp2_with fail
            have hlt := HLT.out
            go_roundw
            case rel => exact ⟨k + 1, by omega, by go_num, by rw [← HNX.out], HK.out, HB.out⟩
            case measure => simp [intOf]; omega
        · have e : k = code.length := by omega
          subst e
          go_wp2_with fail
          go_returns
          exact ⟨by rw [HSE.out, HLE.out, List.take_length]; rfl, HB.out⟩
end Go.Proofs.YtpkbkmppkgeklaaDoor
