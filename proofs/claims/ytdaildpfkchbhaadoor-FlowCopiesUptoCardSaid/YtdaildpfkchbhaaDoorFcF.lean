/- FlowCopies: (rtl.Func).Show. No condition. -/
import Derived.Test.YtdaildpfkchbhaaDoorFcI
import Derived.Test.YtdaildpfkchbhaaDoorFcK
import Derived.Deep.CutBlock
import Derived.Test.YtdaildpfkchbhaaDoorHu
namespace Go.Proofs.YtdaildpfkchbhaaDoor
open Go.RowKit
set_option linter.unusedVariables false
set_option maxHeartbeats 4000000
theorem name_eta (s : ByteArray) : (⟨⟨s.data.toList⟩⟩ : ByteArray) = s := rfl
theorem head_text (s : ByteArray) (n : Int) : (s ++ { data := #[32] } ++ numB n ++ { data := #[58] } : ByteArray) = ⟨⟨s.data.toList ++ [32] ++ numS n ++ [58]⟩⟩ := by
  rw [show ({ data := #[32] } : ByteArray) = ⟨⟨[32]⟩⟩ from rfl, show ({ data := #[58] } : ByteArray) = ⟨⟨[58]⟩⟩ from rfl, numB, ← name_eta s, app_eq, app_eq, app_eq]; rfl
theorem mid_text (c d : UInt8) (n : Int) : ({ data := #[c] } ++ numB n ++ { data := #[d] } : ByteArray) = ⟨⟨c :: numS n ++ [d]⟩⟩ := by
  rw [show ({ data := #[c] } : ByteArray) = ⟨⟨[c]⟩⟩ from rfl, show ({ data := #[d] } : ByteArray) = ⟨⟨[d]⟩⟩ from rfl, numB, app_eq, app_eq]; rfl
theorem br_text (a b c : List UInt8) (n m : Int) : (({ data := #[32, 32, 105, 102, 32] } ++ ⟨⟨a⟩⟩ ++ { data := #[32] } ++ ⟨⟨b⟩⟩ ++ { data := #[32] } ++ ⟨⟨c⟩⟩ ++ { data := #[32, 98] } ++ numB n ++ { data := #[32, 101, 108, 115, 101, 32, 98] } ++ numB m) : ByteArray)
    = ⟨⟨[32, 32, 105, 102, 32] ++ a ++ [32] ++ b ++ [32] ++ c ++ [32, 98] ++ numS n ++ [32, 101, 108, 115, 101, 32, 98] ++ numS m⟩⟩ := by
  rw [show ({ data := #[32, 32, 105, 102, 32] } : ByteArray) = ⟨⟨[32, 32, 105, 102, 32]⟩⟩ from rfl, show ({ data := #[32] } : ByteArray) = ⟨⟨[32]⟩⟩ from rfl, show ({ data := #[32, 98] } : ByteArray) = ⟨⟨[32, 98]⟩⟩ from rfl, show ({ data := #[32, 101, 108, 115, 101, 32, 98] } : ByteArray) = ⟨⟨[32, 101, 108, 115, 101, 32, 98]⟩⟩ from rfl, numB, numB]
  simp only [app_eq]; rfl
theorem insS_eta (x : InsD) : insS ⟨x.op, x.dst, ⟨x.a.reg, x.a.num⟩, ⟨x.b.reg, x.b.num⟩, x.size, x.signed, x.secret, x.ref, x.off, x.args⟩ = insS x := rfl
set_option maxRecDepth 100000 in
theorem funcshow_any (w : World) (hP : PowOk w) (hM : NmOk w) (f : FuncD) (vs vl vb : Value) (hb : SlR w 9 (BlockR w) vb f.blocks) (hpar : In64 f.params) (hf : FunOk f) :
    Calls Tryd.prog 7 #[.agg #[.string f.name, .int .i64 f.params, vs, .int .i64 f.regs, vl, vb]] w fun e w' => e = .returned (.string ⟨⟨funcS f⟩⟩) ∧ Below w.heap.size w w' := by
  have HP := Lib.hid hP
  have HM := Lib.hid hM
  have HF := Lib.hid hf
  have HBl := Lib.hid hb
  have HAll := Lib.hid (fun b hm => by obtain ⟨cs, hc⟩ := hb.all b hm; exact blockR_in hc : ∀ b ∈ f.blocks, (∀ x ∈ b.ins, InsIn x) ∧ TermIn b.term)
  have hnm := hf.2.2
  obtain ⟨BA, cb, rfl, _, hcb, _⟩ := hb
  have HI := Lib.hid (fun w2 (h : Below w.heap.size w w2) => itoa_any w2 (HP.out.below h) f.params hpar)
  have hz := numB_size hpar
  have hbl := hf.2.1
  have HPar := Lib.hid hpar
  obtain ⟨w1, hw1⟩ : ∃ w1, w1 = w.alloc (.cells #[.string f.name, .int .i64 f.params, vs, .int .i64 f.regs, vl, .slice BA f.blocks.length cb] 32) := ⟨_, rfl⟩
  have HB1 := Lib.hid (show Below w.heap.size w w1 by rw [hw1]; exact below_alloc _ (Below.refl _ _))
  have hx1 : w1.heap[w.heap.size]? = some (.cells #[.string f.name, .int .i64 f.params, vs, .int .i64 f.regs, vl, .slice BA f.blocks.length cb] 32 (0, 0)) := by rw [hw1]; exact blk_new _ _
  have HX1 := Lib.hid hx1
  have c0 := blk_cell (i := 0) (v := .string f.name) hx1 rfl
  have c1 := blk_cell (i := 1) (v := .int .i64 f.params) hx1 rfl
  have l1 := blk_lt hx1
  clear hP hM hf hpar hx1
  obtain ⟨nm, hnmE⟩ : ∃ nm, nm = f.name := ⟨_, rfl⟩
  rw [← hnmE] at c0 hnm hw1 HX1 ⊢
  have HNM := Lib.hid hnmE
  clear hnmE
  go_enter Tryd.func7, Tryd.ntmps7
  go_upto_region 2 with fail
  rw [← hw1]
  clear hw1
  generalize hV : Value.slice none 0 0 = V0
  obtain ⟨A0, n0, c0', hV', hown⟩ : ∃ A n c, V0 = .slice A n c ∧ ∀ (w2 : World) (B : Nat), w2.ownsRow B 9 1 (.slice A n c) 0 [] := ⟨none, 0, 0, hV.symm, fun w2 B => World.ownsRow_nil w2 B _ 1⟩
  clear hV
  subst hV'
  have HOwn := Lib.hid hown
  clear hown
  refine upto_begin 11 (fun w' => w'.cell? ⟨w.heap.size, 0, none⟩ = some (.string nm) ∧ w'.cell? ⟨w.heap.size, 1, none⟩ = some (.int .i64 f.params)) (by kernel_rfl) ?_ (fun hU0 => ?_)
  · exact ⟨c0, c1⟩
  first | refine upto_run 0 (v := ?_) hU0 (by kernel_rfl) rfl (by kernel_rfl) (by kernel_rfl) (by kernel_rfl) (by kernel_rfl) (fun _ _ _ h => h) (Or.inl ⟨by rfl, ?_⟩) ?_ | fail
  rotate_left
  · first | (intro w _; go_simp; with_reducible rfl) | (intro w _; go_simp; done) | (intro w _; go_simp; rw [if_neg (by omega)]) | fail
  try simp only [Act.put, List.setIfInBounds_toArray, List.set_cons_zero, List.set_cons_succ]
  first | refine upto_run 1 (v := ?_) hU0 (by kernel_rfl) rfl (by kernel_rfl) (by kernel_rfl) (by kernel_rfl) (by kernel_rfl) (fun _ _ _ h => h) (Or.inl ⟨by rfl, ?_⟩) ?_ | fail
  rotate_left
  · first | (intro w _; go_simp; with_reducible rfl) | (intro w _; go_simp; done) | (intro w _; go_simp; rw [if_neg (by omega)]) | fail
  try simp only [Act.put, List.setIfInBounds_toArray, List.set_cons_zero, List.set_cons_succ]
  first | refine upto_read 2 (v := ?_) hU0 (by kernel_rfl) rfl (by kernel_rfl) (by kernel_rfl) (by kernel_rfl) (by kernel_rfl) (by kernel_rfl) (fun _ _ _ h => h) (Or.inl ⟨by rfl, ?_⟩) ?_ | fail
  rotate_left
  · first | (intro w hSw; (try dsimp only at hSw); go_simp; with_reducible rfl) | (intro w hSw; (try dsimp only at hSw); go_simp; done) | fail
  try simp only [Act.put, List.setIfInBounds_toArray, List.set_cons_zero, List.set_cons_succ]
  first | refine upto_run 3 (v := ?_) hU0 (by kernel_rfl) rfl (by kernel_rfl) (by kernel_rfl) (by kernel_rfl) (by kernel_rfl) (fun _ _ _ h => h) (Or.inl ⟨by rfl, ?_⟩) ?_ | fail
  rotate_left
  · first | (intro w _; go_simp; with_reducible rfl) | (intro w _; go_simp; done) | (intro w _; go_simp; rw [if_neg (by omega)]) | fail
  try simp only [Act.put, List.setIfInBounds_toArray, List.set_cons_zero, List.set_cons_succ]
  first | refine upto_run 4 (v := ?_) hU0 (by kernel_rfl) rfl (by kernel_rfl) (by kernel_rfl) (by kernel_rfl) (by kernel_rfl) (fun _ _ _ h => h) (Or.inl ⟨by rfl, ?_⟩) ?_ | fail
  rotate_left
  · first | (intro w _; go_simp; with_reducible rfl) | (intro w _; go_simp; done) | (intro w _; go_simp; rw [if_neg (by omega)]) | fail
  try simp only [Act.put, List.setIfInBounds_toArray, List.set_cons_zero, List.set_cons_succ]
  first | refine upto_read 5 (v := ?_) hU0 (by kernel_rfl) rfl (by kernel_rfl) (by kernel_rfl) (by kernel_rfl) (by kernel_rfl) (by kernel_rfl) (fun _ _ _ h => h) (Or.inl ⟨by rfl, ?_⟩) ?_ | fail
  rotate_left
  · first | (intro w hSw; (try dsimp only at hSw); go_simp; with_reducible rfl) | (intro w hSw; (try dsimp only at hSw); go_simp; done) | fail
  try simp only [Act.put, List.setIfInBounds_toArray, List.set_cons_zero, List.set_cons_succ]
  first | refine upto_next 6 rfl (by kernel_rfl) (fun K hK => ?_) | fail
  go_simp
  go_at_call 18
  refine (HI.out w1.drew (HB1.out.bt (Below.drew (Below.refl _ _)))).mono ?_
  rintro e w2 ⟨rfl, hb8⟩
  have kb2 : Below w1.heap.size w1 w2 := ⟨hb8.os, hb8.tape, hb8.output, hb8.size, hb8.block⟩
  try go_simp
  first | refine hK.out _ _ ?_ (fun hU1 => ?_) | (go_wp2_with fail; refine hK.out _ _ ?_ (fun hU1 => ?_)) | fail
  · exact Or.inr ⟨later c0 kb2, later c1 kb2⟩
  clear hK K
  clear hU0
  try simp only [Act.put, List.setIfInBounds_toArray, List.set_cons_zero, List.set_cons_succ]
  first | refine upto_run 7 (v := ?_) hU1 (by kernel_rfl) rfl (by kernel_rfl) (by kernel_rfl) (by kernel_rfl) (by kernel_rfl) (fun _ _ _ h => h) (Or.inl ⟨by rfl, ?_⟩) ?_ | fail
  rotate_left
  · first | (intro w _; go_simp; with_reducible rfl) | (intro w _; go_simp; done) | (intro w _; go_simp; rw [if_neg (by omega)]) | fail
  try simp only [Act.put, List.setIfInBounds_toArray, List.set_cons_zero, List.set_cons_succ]
  first | refine upto_run 8 (v := ?_) hU1 (by kernel_rfl) rfl (by kernel_rfl) (by kernel_rfl) (by kernel_rfl) (by kernel_rfl) (fun _ _ _ h => h) (Or.inl ⟨by rfl, ?_⟩) ?_ | fail
  rotate_left
  · first | (intro w _; go_simp; with_reducible rfl) | (intro w _; go_simp; done) | (intro w _; go_simp; rw [if_neg (by omega)]) | fail
  try simp only [Act.put, List.setIfInBounds_toArray, List.set_cons_zero, List.set_cons_succ]
  have HM2 := Lib.hid (show MidF w #[.string nm, .int .i64 f.params, vs, .int .i64 f.regs, vl, .slice BA f.blocks.length cb] [] (.slice A0 n0 c0') w2 from ⟨HOwn.out _ _, HB1.out.bt kb2, blk_below HX1.out kb2⟩)
  obtain ⟨v3, w3, r3, m3, g3⟩ := HM2.out.appB (Below.refl _ _) (nm.data.toList ++ [32] ++ numS f.params ++ [58]) _ (head_text nm f.params) (Nat.zero_le _)
  have HM3 := Lib.hid m3
  have hbA : Below w1.heap.size w1 (w2.alloc (.cells #[.string (nm ++ { data := #[32] } ++ numB f.params ++ { data := #[58] })] 9)) := below_alloc _ kb2
  first | refine upto_next 9 rfl (by kernel_rfl) (fun K hK => ?_) | fail
  go_simp
  first | refine hK.out _ _ ?_ (fun hU2 => ?_) | (go_wp2_with fail; refine hK.out _ _ ?_ (fun hU2 => ?_)) | fail
  · exact Or.inr ⟨later c0 hbA, later c1 hbA⟩
  clear hK K
  clear hU1
  try simp only [Act.put, List.setIfInBounds_toArray, List.set_cons_zero, List.set_cons_succ]
  first | refine upto_next 10 rfl (by kernel_rfl) (fun K hK => ?_) | fail
  refine step_append_run rfl (.tmp 9) (.tmp 18) 60 rfl _ _ _ _ rfl rfl r3 ?_
  try go_simp
  first | refine hK.out _ _ ?_ (fun hU3 => ?_) | (go_wp2_with fail; refine hK.out _ _ ?_ (fun hU3 => ?_)) | fail
  · exact Or.inr ⟨blk_cell HM3.out.2.2 rfl, blk_cell HM3.out.2.2 rfl⟩
  clear hK K
  clear hU2
  try simp only [Act.put, List.setIfInBounds_toArray, List.set_cons_zero, List.set_cons_succ]
  first | refine upto_next 11 rfl (by kernel_rfl) (fun K hK => ?_) | fail
  go_simp
  first | refine hK.out _ _ ?_ (fun hU4 => ?_) | (go_wp2_with fail; refine hK.out _ _ ?_ (fun hU4 => ?_)) | fail
  · exact Or.inl (by kernel_rfl)
  clear hK K
  clear hU3
  try simp only [Act.put, List.setIfInBounds_toArray, List.set_cons_zero, List.set_cons_succ]
  refine upto_done (by kernel_rfl) ?_ _
  have d5 : w3.cell? ⟨w.heap.size, 5, none⟩ = some (.slice BA f.blocks.length cb) := blk_cell HM3.out.2.2 rfl
  clear c0 c1 l1 HX1 HB1 hbA m3 g3 r3 kb2 HM2 HI hb8
  obtain ⟨n, hn⟩ : ∃ n, n = f.blocks.length := ⟨_, rfl⟩
  have HN := Lib.hid hn
  obtain ⟨HD, hHD⟩ : ∃ HD, HD = nm.data.toList ++ [32] ++ numS f.params ++ [58] := ⟨_, rfl⟩
  rw [← hHD] at HM3
  have HHD := Lib.hid hHD
  obtain ⟨CS, hCS⟩ : ∃ CS : Array Value, CS = #[.string nm, .int .i64 f.params, vs, .int .i64 f.regs, vl, .slice BA f.blocks.length cb] := ⟨_, rfl⟩
  rw [← hCS] at HM3
  have HCS := Lib.hid hCS
  rw [← hn] at d5 hbl ⊢
  clear hn hHD hCS hz hnm hcb
  go_wp2_with fail
  go_loopw [3, 23] (fun v i wr => ∃ k : Nat, k ≤ n ∧ i = .int .i64 k ∧ MidF w CS ([HD] ++ linesG 0 (f.blocks.take k)) v wr) (fun _ i _ => n - (intOf i).toNat)
  case atStart => exact ⟨0, by omega, rfl, by rw [List.take_zero, linesG, List.append_nil]; exact HM3.out⟩
  case round =>
    obtain ⟨k, hk, rfl, hm⟩ := hrel
    have HMr := Lib.hid hm
    clear hm
    by_cases hlt : k < n
    · have hlk : k < f.blocks.length := by rw [← HN.out]; exact hlt
      obtain ⟨b, hb⟩ : ∃ b, f.blocks[k]? = some b := ⟨_, List.getElem?_eq_getElem hlk⟩
      have HBk := Lib.hid (HF.out.1 b (List.mem_of_getElem? hb))
      have HTk := Lib.hid (linesG_take f.blocks k b hb)
      obtain ⟨_, _, hA', _, _, hl3⟩ := HBl.out.later (by decide) HMr.out.2.1
      cases hA'
      obtain ⟨lb, lo, cs, rfl, e1, e2, vi, e3, hsi, e4, e5, e6, e7, e8, e9, e10, e11, e12⟩ := hl3 k b hb
      subst e3
      obtain ⟨IA, ci, rfl, _, hci, _⟩ := id hsi
      have HSI := Lib.hid hsi
      have HTI := Lib.hid (show TermIn b.term from ⟨e5, e6, ⟨e7, e8⟩, ⟨e9, e10⟩, e11, e12⟩)
      have q0 : wr.cell? ⟨lb, lo + k * 9, none⟩ = some (.slice IA b.ins.length ci) := e2 0 (by omega)
      have q1 := e2 1 (by omega)
      have q2 := e2 2 (by omega)
      have q3 := e2 3 (by omega)
      have q4 := e2 4 (by omega)
      have q5 := e2 5 (by omega)
      have q6 := e2 6 (by omega)
      have q7 := e2 7 (by omega)
      have q8 := e2 8 (by omega)
      have hb0 := World.block_lt_of_cell? _ _ q0
      have hnb := HBk.out.2.1
      obtain ⟨m, hm⟩ : ∃ m, m = b.ins.length := ⟨_, rfl⟩
      rw [← hm] at q0 hnb
      have HMm := Lib.hid hm
      have hkn := hbl
      clear e1 e2 e5 e6 e7 e8 e9 e10 e11 e12 hl3 hlk hsi hm hci e4
      have HAl := Lib.hid (below_alloc (.cells #[.slice IA m ci, .int .i64 b.term.kind, .int .i64 b.term.op, .int .i64 b.term.a.reg, .int .i64 b.term.a.num, .int .i64 b.term.b.reg, .int .i64 b.term.b.num, .int .i64 b.term.to_, .int .i64 b.term.els] 41) (Below.refl wr.heap.size wr))
      have hk64 : In64 (k : Int) := ⟨by omega, by omega⟩
      have HI := Lib.hid (itoa_any _ (HP.out.below (below_over HMr.out.2.1 HAl.out)) (k : Int) hk64)
      have hz := numB_size hk64
      have HX := Lib.hid (blk_new wr (.cells #[.slice IA m ci, .int .i64 b.term.kind, .int .i64 b.term.op, .int .i64 b.term.a.reg, .int .i64 b.term.a.num, .int .i64 b.term.b.reg, .int .i64 b.term.b.num, .int .i64 b.term.to_, .int .i64 b.term.els] 41))
      have hll := take_len HF.out HAll.out k
      clear hk64
      go_wp2_with fail
      refine HI.out.mono ?_
      rintro e w5 ⟨rfl, kb5⟩
      have HX5 := blk_below HX.out kb5
      have KB := below_over HAl.out kb5
      obtain ⟨gb, hgb⟩ : ∃ gb, gb = wr.heap.size := ⟨_, rfl⟩
      rw [← hgb] at HX5 ⊢
      clear hgb
      obtain ⟨v6, w6, r6, m6, g6⟩ := HMr.out.appB KB (98 :: numS (k : Int) ++ [58]) _ (mid_text 98 58 (k : Int)) (by rw [List.length_append, List.length_singleton]; omega)
      have HX6 := Lib.hid (HMr.out.kept KB g6 HX5 (by decide))
      have HM6 := Lib.hid m6
      have y0 : w6.cell? ⟨gb, 0, none⟩ = some (.slice IA m ci) := blk_cell HX6.out rfl
      clear kb5 KB HX5 m6 g6 q0 q1 q2 q3 q4 q5 q6 q7 q8 HI HX HAl HMr
      go_wp2_with (at_builtin; refine wpList_append_run' _ rfl _ _ _ rfl _ _ _ _ rfl rfl r6 ?_)
      clear r6
      go_loopw [3, 38] (fun v i wx => ∃ j : Nat, j ≤ m ∧ i = .int .i64 j ∧ MidF w CS ([HD] ++ linesG 0 (f.blocks.take k) ++ [98 :: numS (k : Int) ++ [58]] ++ (b.ins.take j).map (fun x => [32, 32] ++ insS x)) v wx ∧ wx.heap[gb]? = some (.cells #[.slice IA m ci, .int .i64 b.term.kind, .int .i64 b.term.op, .int .i64 b.term.a.reg, .int .i64 b.term.a.num, .int .i64 b.term.b.reg, .int .i64 b.term.b.num, .int .i64 b.term.to_, .int .i64 b.term.els] 41 (0, 0))) (fun _ i _ => m - (intOf i).toNat)
      case atStart => exact ⟨0, by omega, rfl, by rw [List.take_zero, List.map_nil, List.append_nil]; exact HM6.out, HX6.out⟩
      case round =>
        obtain ⟨j, hj, rfl, hmx, hbx⟩ := hrel
        have HMx := Lib.hid hmx
        have HBx := Lib.hid hbx
        clear hmx hbx
        by_cases hlj : j < m
        · have hlm : j < b.ins.length := by rw [← HMm.out]; exact hlj
          obtain ⟨x, hx⟩ : ∃ x, b.ins[j]? = some x := ⟨_, List.getElem?_eq_getElem hlm⟩
          obtain ⟨_, _, hA', _, _, hl3⟩ := HSI.out.later (by decide) HMx.out.2.1
          cases hA'
          obtain ⟨ib, io, cs, rfl, e1, e2, va, e3, e4, e5, e6, e7, e8, e9, e10, e11, e12, hsa, _⟩ := hl3 j x hx
          subst e3
          obtain ⟨XA, ca, rfl, _, hca, _⟩ := id hsa
          have HSA := Lib.hid hsa
          obtain ⟨na, hna⟩ : ∃ na, na = x.args.length := ⟨_, rfl⟩
          have z0 : wr.cell? ⟨ib, io + j * 12, none⟩ = some (.int .i64 x.op) := e2 0 (by omega)
          have z1 := e2 1 (by omega)
          have z2 := e2 2 (by omega)
          have z3 := e2 3 (by omega)
          have z4 := e2 4 (by omega)
          have z5 := e2 5 (by omega)
          have z6 := e2 6 (by omega)
          have z7 := e2 7 (by omega)
          have z8 := e2 8 (by omega)
          have z9 := e2 9 (by omega)
          have z10 := e2 10 (by omega)
          have z11 := e2 11 (by omega)
          rw [← hna] at z11
          have hb1 := World.block_lt_of_cell? _ _ z0
          have HXi := Lib.hid (show InsIn x from ⟨e4, e5, ⟨e6, e7⟩, ⟨e8, e9⟩, e10, e11, e12, hsa.argsIn⟩)
          have HXo := Lib.hid (HBk.out.1 x (List.mem_of_getElem? hx))
          have HAl := Lib.hid (below_alloc (.cells #[.int .i64 x.op, .int .i64 x.dst, .int .i64 x.a.reg, .int .i64 x.a.num, .int .i64 x.b.reg, .int .i64 x.b.num, .int .i64 x.size, .bool x.signed, .bool x.secret, .int .i64 x.ref, .int .i64 x.off, .slice XA na ca] 45) (Below.refl wr.heap.size wr))
          have HSh := Lib.hid (insshow_any _ (HP.out.below (below_over HMx.out.2.1 HAl.out)) (HM.out.below (below_over HMx.out.2.1 HAl.out)) x.op x.dst x.a.reg x.a.num x.b.reg x.b.num x.size x.signed x.secret x.ref x.off x.args _ e4 e5 e11 ⟨e6, e7⟩ ⟨e8, e9⟩ (hsa.later (by decide) (below_over HMx.out.2.1 HAl.out)) (by have := HXo.out.1; omega) e12 (by have h1 := readsD_length x; have h2 := HXo.out.1; exact (Nat.le_trans h1 (by omega))) HXo.out.2)
          rw [← hna] at HSh
          have HNa := Lib.hid hna
          obtain ⟨XB, hXB⟩ : ∃ XB : ByteArray, XB = ⟨⟨insS x⟩⟩ := ⟨_, rfl⟩
          have hsl : XB.size ≤ 130000 := hXB ▸ insS_len HXi.out HXo.out
          have hXt : ({ data := #[32, 32] } ++ XB : ByteArray) = ⟨⟨[32, 32] ++ insS x⟩⟩ := hXB ▸ app_eq [32, 32] _
          have hSh2 := HSh.out
          simp only [insS_eta] at hSh2
          rw [← hXB] at hSh2
          have HSh := Lib.hid hSh2
          have HXt := Lib.hid hXt
          clear hSh2 hXB hXt
          have HTx := Lib.hid (show (b.ins.take (j + 1)).map (fun x => [32, 32] ++ insS x) = (b.ins.take j).map (fun x => [32, 32] ++ insS x) ++ [[32, 32] ++ insS x] by rw [List.take_add_one, hx]; simp)
          have hll2 : ((b.ins.take j).map (fun x => [32, 32] ++ insS x)).length ≤ 2000 := by rw [List.length_map, List.length_take]; omega
          clear e1 e2 e4 e5 e6 e7 e8 e9 e10 e11 e12 hsa hca hna hl3
          go_wp2_with fail
          refine HSh.out.mono ?_
          rintro e w7 ⟨rfl, kb7⟩
          have KB := below_over HAl.out kb7
          obtain ⟨v8, w8, r8, m8, g8⟩ := HMx.out.appB KB ([32, 32] ++ insS x) ({ data := #[32, 32] } ++ XB) HXt.out (by rw [List.length_append, List.length_append, List.length_append, List.length_singleton, List.length_singleton]; omega)
          have HB8 := Lib.hid (HMx.out.kept KB g8 (blk_below HBx.out KB) (by decide))
          have HM8 := Lib.hid m8
          clear kb7 KB m8 g8 z0 z1 z2 z3 z4 z5 z6 z7 z8 z9 z10 z11
          go_wp2_with (at_builtin; refine wpList_append_run' _ rfl _ _ _ rfl _ _ _ _ rfl rfl r8 ?_)
          go_roundw
          case rel => exact ⟨j + 1, by omega, by go_num, by rw [HTx.out, ← List.append_assoc]; exact HM8.out, HB8.out⟩
          case measure => simp [intOf]; omega
        · have e : j = m := by omega
          subst e
          rw [HMm.out, List.take_length] at HMx
          obtain ⟨LL, hLL⟩ : ∃ LL, LL = [HD] ++ linesG 0 (f.blocks.take k) ++ [98 :: numS (k : Int) ++ [58]] ++ b.ins.map (fun x => [32, 32] ++ insS x) := ⟨_, rfl⟩
          rw [← hLL] at HMx
          have hLn : LL.length ≤ 5000000 := by rw [hLL, List.length_append, List.length_append, List.length_append, List.length_singleton, List.length_singleton, List.length_map, ← HMm.out]; omega
          have HLL := Lib.hid hLL
          clear hLL y0
          have z1 : wr.cell? ⟨gb, 1, none⟩ = some (.int .i64 b.term.kind) := blk_cell HBx.out rfl
          have z2 : wr.cell? ⟨gb, 2, none⟩ = some (.int .i64 b.term.op) := blk_cell HBx.out rfl
          have z3 : wr.cell? ⟨gb, 3, none⟩ = some (.int .i64 b.term.a.reg) := blk_cell HBx.out rfl
          have z4 : wr.cell? ⟨gb, 4, none⟩ = some (.int .i64 b.term.a.num) := blk_cell HBx.out rfl
          have z5 : wr.cell? ⟨gb, 5, none⟩ = some (.int .i64 b.term.b.reg) := blk_cell HBx.out rfl
          have z6 : wr.cell? ⟨gb, 6, none⟩ = some (.int .i64 b.term.b.num) := blk_cell HBx.out rfl
          have z7 : wr.cell? ⟨gb, 7, none⟩ = some (.int .i64 b.term.to_) := blk_cell HBx.out rfl
          have z8 : wr.cell? ⟨gb, 8, none⟩ = some (.int .i64 b.term.els) := blk_cell HBx.out rfl
          have HAl := Lib.hid (below_alloc (.cells #[.int .i64 b.term.kind, .int .i64 b.term.op, .int .i64 b.term.a.reg, .int .i64 b.term.a.num, .int .i64 b.term.b.reg, .int .i64 b.term.b.num, .int .i64 b.term.to_, .int .i64 b.term.els] 39) (Below.refl wr.heap.size wr))
          have HXt := Lib.hid (blk_new wr (.cells #[.int .i64 b.term.kind, .int .i64 b.term.op, .int .i64 b.term.a.reg, .int .i64 b.term.a.num, .int .i64 b.term.b.reg, .int .i64 b.term.b.num, .int .i64 b.term.to_, .int .i64 b.term.els] 39))
          obtain ⟨wt, hwt⟩ : ∃ wt, wt = wr.alloc (.cells #[.int .i64 b.term.kind, .int .i64 b.term.op, .int .i64 b.term.a.reg, .int .i64 b.term.a.num, .int .i64 b.term.b.reg, .int .i64 b.term.b.num, .int .i64 b.term.to_, .int .i64 b.term.els] 39) := ⟨_, rfl⟩
          rw [← hwt] at HXt HAl
          go_upto_block 4 with (fail)
          rw [← hwt]
          clear hwt
          obtain ⟨gt, hgt⟩ : ∃ gt, gt = wr.heap.size := ⟨_, rfl⟩
          rw [← hgt] at HXt ⊢
          have HMt := Lib.hid (HMx.out.more HAl.out)
          clear hgt z1 z2 z3 z4 z5 z6 z7 z8 HMx HBx HAl
          obtain ⟨k1, k2, ⟨k3, k4⟩, ⟨k5, k6⟩, k7, k8⟩ := HTI.out
          have t0 : wt.cell? ⟨gt, 0, none⟩ = some (.int .i64 b.term.kind) := blk_cell HXt.out rfl
          by_cases h1 : b.term.kind = 1
          · have t6 : wt.cell? ⟨gt, 6, none⟩ = some (.int .i64 b.term.to_) := blk_cell HXt.out rfl
            have HI := Lib.hid (itoa_any wt (HP.out.below HMt.out.2.1) b.term.to_ k7)
            have hz := numB_size k7
            have HT := Lib.hid (show termS b.term = [32, 32, 106, 117, 109, 112, 32, 98] ++ numS b.term.to_ from if_pos h1)
            have b1 : (b.term.kind == 1) = true := by simpa using h1
            clear k1 k2 k3 k4 k5 k6 k7 k8 h1
            go_wp2_with fail
            refine HI.out.mono ?_
            rintro e w8 ⟨rfl, kb8⟩
            obtain ⟨v9, w9, r9, m9, g9⟩ := HMt.out.appB kb8 ([32, 32, 106, 117, 109, 112, 32, 98] ++ numS b.term.to_) ({ data := #[32, 32, 106, 117, 109, 112, 32, 98] } ++ numB b.term.to_) (app_eq [32, 32, 106, 117, 109, 112, 32, 98] _) (by omega)
            have HM9 := Lib.hid m9
            clear kb8 m9 g9 t0 t6
            go_wp2_with (at_builtin; refine wpList_append_run' _ rfl _ _ _ rfl _ _ _ _ rfl rfl r9 ?_)
            go_roundw
            case rel => exact ⟨k + 1, by omega, by go_num, by rw [HTk.out, linesB, ← List.append_assoc, ← List.append_assoc, ← List.append_assoc, ← HLL.out, HT.out]; exact HM9.out⟩
            case measure => simp [intOf]; omega
          · by_cases h2 : b.term.kind = 2
            · have b1 : (b.term.kind == 1) = false := by simpa using h1
              have b2 : (b.term.kind == 2) = true := by simpa using h2
              have hop := HBk.out.2.2 h2
              have HT := Lib.hid (show termS b.term = _ from (if_neg (by omega)).trans (if_pos h2))
              clear h1 h2
              have t1 : wt.cell? ⟨gt, 1, none⟩ = some (.int .i64 b.term.op) := blk_cell HXt.out rfl
              have t2 : wt.cell? ⟨gt, 2, none⟩ = some (.int .i64 b.term.a.reg) := blk_cell HXt.out rfl
              have t3 : wt.cell? ⟨gt, 3, none⟩ = some (.int .i64 b.term.a.num) := blk_cell HXt.out rfl
              have t4 : wt.cell? ⟨gt, 4, none⟩ = some (.int .i64 b.term.b.reg) := blk_cell HXt.out rfl
              have t5 : wt.cell? ⟨gt, 5, none⟩ = some (.int .i64 b.term.b.num) := blk_cell HXt.out rfl
              have t6 : wt.cell? ⟨gt, 6, none⟩ = some (.int .i64 b.term.to_) := blk_cell HXt.out rfl
              have t7 : wt.cell? ⟨gt, 7, none⟩ = some (.int .i64 b.term.els) := blk_cell HXt.out rfl
              have hop0 : 0 ≤ b.term.op := by omega
              have hop1 : b.term.op < 31 := by omega
              have t8 := (HM.out.below HMt.out.2.1).at_op b.term.op hop0 hop1
              obtain ⟨NB, hNB⟩ : ∃ NB : ByteArray, NB = ⟨⟨nameS b.term.op⟩⟩ := ⟨_, rfl⟩
              rw [← hNB] at t8
              have hzn : NB.size ≤ 6 := hNB ▸ nameS_len b.term.op
              have HNB := Lib.hid hNB
              obtain ⟨AB, hAB⟩ : ∃ AB : ByteArray, AB = ⟨⟨argS b.term.a⟩⟩ := ⟨_, rfl⟩
              have hza : AB.size ≤ 22 := hAB ▸ argS_len k3 k4
              have HAB := Lib.hid hAB
              obtain ⟨BB, hBB⟩ : ∃ BB : ByteArray, BB = ⟨⟨argS b.term.b⟩⟩ := ⟨_, rfl⟩
              have hzb : BB.size ≤ 22 := hBB ▸ argS_len k5 k6
              have HBB := Lib.hid hBB
              have hzt := numB_size k7
              have hze := numB_size k8
              have HAa := Lib.hid (fun (Wx : World) (hb : Below wt.heap.size wt Wx) => arg_any Wx (HP.out.below (below_over HMt.out.2.1 hb)) b.term.a k3 k4)
              have HAb := Lib.hid (fun (Wx : World) (hb : Below wt.heap.size wt Wx) => arg_any Wx (HP.out.below (below_over HMt.out.2.1 hb)) b.term.b k5 k6)
              have HIt := Lib.hid (fun (Wx : World) (hb : Below wt.heap.size wt Wx) => itoa_any Wx (HP.out.below (below_over HMt.out.2.1 hb)) b.term.to_ k7)
              have HIe := Lib.hid (fun (Wx : World) (hb : Below wt.heap.size wt Wx) => itoa_any Wx (HP.out.below (below_over HMt.out.2.1 hb)) b.term.els k8)
              rw [← hAB] at HAa
              rw [← hBB] at HAb
              clear k1 k2 k3 k4 k5 k6 k7 k8 hNB hAB hBB hop
              go_upto_region 18 with (fail)
              refine upto_begin 28 (fun w' => w'.cell? ⟨0, b.term.op.toNat, none⟩ = some (.string NB) ∧ w'.cell? ⟨gt, 1, none⟩ = some (.int .i64 b.term.op) ∧ w'.cell? ⟨gt, 2, none⟩ = some (.int .i64 b.term.a.reg) ∧ w'.cell? ⟨gt, 3, none⟩ = some (.int .i64 b.term.a.num) ∧ w'.cell? ⟨gt, 4, none⟩ = some (.int .i64 b.term.b.reg) ∧ w'.cell? ⟨gt, 5, none⟩ = some (.int .i64 b.term.b.num) ∧ w'.cell? ⟨gt, 6, none⟩ = some (.int .i64 b.term.to_) ∧ w'.cell? ⟨gt, 7, none⟩ = some (.int .i64 b.term.els)) (by kernel_rfl) ?_ (fun hU0 => ?_)
              · exact ⟨t8, t1, t2, t3, t4, t5, t6, t7⟩
              first | refine upto_run 0 (v := ?_) hU0 (by kernel_rfl) rfl (by kernel_rfl) (by kernel_rfl) (by kernel_rfl) (by kernel_rfl) (fun _ _ _ h => h) (Or.inl ⟨by rfl, ?_⟩) ?_ | fail
              rotate_left
              · first | (intro w _; go_simp; with_reducible rfl) | (intro w _; go_simp; done) | (intro w _; go_simp; rw [if_neg (by omega)]) | fail
              try simp only [Act.put, List.setIfInBounds_toArray, List.set_cons_zero, List.set_cons_succ]
              first | refine upto_run 1 (v := ?_) hU0 (by kernel_rfl) rfl (by kernel_rfl) (by kernel_rfl) (by kernel_rfl) (by kernel_rfl) (fun _ _ _ h => h) (Or.inl ⟨by rfl, ?_⟩) ?_ | fail
              rotate_left
              · first | (intro w _; go_simp; with_reducible rfl) | (intro w _; go_simp; done) | (intro w _; go_simp; rw [if_neg (by omega)]) | fail
              try simp only [Act.put, List.setIfInBounds_toArray, List.set_cons_zero, List.set_cons_succ]
              first | refine upto_read 2 (v := ?_) hU0 (by kernel_rfl) rfl (by kernel_rfl) (by kernel_rfl) (by kernel_rfl) (by kernel_rfl) (by kernel_rfl) (fun _ _ _ h => h) (Or.inl ⟨by rfl, ?_⟩) ?_ | fail
              rotate_left
              · first | (intro w hSw; (try dsimp only at hSw); go_simp; with_reducible rfl) | (intro w hSw; (try dsimp only at hSw); go_simp; done) | fail
              try simp only [Act.put, List.setIfInBounds_toArray, List.set_cons_zero, List.set_cons_succ]
              first | refine upto_run 3 (v := ?_) hU0 (by kernel_rfl) rfl (by kernel_rfl) (by kernel_rfl) (by kernel_rfl) (by kernel_rfl) (fun _ _ _ h => h) (Or.inl ⟨by rfl, ?_⟩) ?_ | fail
              rotate_left
              · first | (intro w _; go_simp; with_reducible rfl) | (intro w _; go_simp; done) | (intro w _; go_simp; rw [if_neg (by omega)]) | fail
              try simp only [Act.put, List.setIfInBounds_toArray, List.set_cons_zero, List.set_cons_succ]
              first | refine upto_read 4 (v := ?_) hU0 (by kernel_rfl) rfl (by kernel_rfl) (by kernel_rfl) (by kernel_rfl) (by kernel_rfl) (by kernel_rfl) (fun _ _ _ h => h) (Or.inl ⟨by rfl, ?_⟩) ?_ | fail
              rotate_left
              · first | (intro w hSw; (try dsimp only at hSw); go_simp; with_reducible rfl) | (intro w hSw; (try dsimp only at hSw); go_simp; done) | fail
              try simp only [Act.put, List.setIfInBounds_toArray, List.set_cons_zero, List.set_cons_succ]
              first | refine upto_run 5 (v := ?_) hU0 (by kernel_rfl) rfl (by kernel_rfl) (by kernel_rfl) (by kernel_rfl) (by kernel_rfl) (fun _ _ _ h => h) (Or.inl ⟨by rfl, ?_⟩) ?_ | fail
              rotate_left
              · first | (intro w _; go_simp; with_reducible rfl) | (intro w _; go_simp; done) | (intro w _; go_simp; rw [if_neg (by omega)]) | fail
              try simp only [Act.put, List.setIfInBounds_toArray, List.set_cons_zero, List.set_cons_succ]
              first | refine upto_run 6 (v := ?_) hU0 (by kernel_rfl) rfl (by kernel_rfl) (by kernel_rfl) (by kernel_rfl) (by kernel_rfl) (fun _ _ _ h => h) (Or.inl ⟨by rfl, ?_⟩) ?_ | fail
              rotate_left
              · first | (intro w _; go_simp; with_reducible rfl) | (intro w _; go_simp; done) | (intro w _; go_simp; rw [if_neg (by omega)]) | fail
              try simp only [Act.put, List.setIfInBounds_toArray, List.set_cons_zero, List.set_cons_succ]
              first | refine upto_run 7 (v := ?_) hU0 (by kernel_rfl) rfl (by kernel_rfl) (by kernel_rfl) (by kernel_rfl) (by kernel_rfl) (fun _ _ _ h => h) (Or.inl ⟨by rfl, ?_⟩) ?_ | fail
              rotate_left
              · first | (intro w _; go_simp; with_reducible rfl) | (intro w _; go_simp; done) | (intro w _; go_simp; rw [if_neg (by omega)]) | fail
              try simp only [Act.put, List.setIfInBounds_toArray, List.set_cons_zero, List.set_cons_succ]
              first | refine upto_read 8 (v := ?_) hU0 (by kernel_rfl) rfl (by kernel_rfl) (by kernel_rfl) (by kernel_rfl) (by kernel_rfl) (by kernel_rfl) (fun _ _ _ h => h) (Or.inl ⟨by rfl, ?_⟩) ?_ | fail
              rotate_left
              · first | (intro w hSw; (try dsimp only at hSw); go_simp; with_reducible rfl) | (intro w hSw; (try dsimp only at hSw); go_simp; done) | fail
              try simp only [Act.put, List.setIfInBounds_toArray, List.set_cons_zero, List.set_cons_succ]
              first | refine upto_run 12 (v := ?_) hU0 (by kernel_rfl) rfl (by kernel_rfl) (by kernel_rfl) (by kernel_rfl) (by kernel_rfl) (fun _ _ _ h => h) (Or.inl ⟨by rfl, ?_⟩) ?_ | fail
              rotate_left
              · first | (intro w _; go_simp; with_reducible rfl) | (intro w _; go_simp; done) | (intro w _; go_simp; rw [if_neg (by omega)]) | fail
              try simp only [Act.put, List.setIfInBounds_toArray, List.set_cons_zero, List.set_cons_succ]
              first | refine upto_read 13 (v := ?_) hU0 (by kernel_rfl) rfl (by kernel_rfl) (by kernel_rfl) (by kernel_rfl) (by kernel_rfl) (by kernel_rfl) (fun _ _ _ h => h) (Or.inl ⟨by rfl, ?_⟩) ?_ | fail
              rotate_left
              · first | (intro w hSw; (try dsimp only at hSw); go_simp; with_reducible rfl) | (intro w hSw; (try dsimp only at hSw); go_simp; done) | fail
              try simp only [Act.put, List.setIfInBounds_toArray, List.set_cons_zero, List.set_cons_succ]
              first | refine upto_run 17 (v := ?_) hU0 (by kernel_rfl) rfl (by kernel_rfl) (by kernel_rfl) (by kernel_rfl) (by kernel_rfl) (fun _ _ _ h => h) (Or.inl ⟨by rfl, ?_⟩) ?_ | fail
              rotate_left
              · first | (intro w _; go_simp; with_reducible rfl) | (intro w _; go_simp; done) | (intro w _; go_simp; rw [if_neg (by omega)]) | fail
              try simp only [Act.put, List.setIfInBounds_toArray, List.set_cons_zero, List.set_cons_succ]
              first | refine upto_read 18 (v := ?_) hU0 (by kernel_rfl) rfl (by kernel_rfl) (by kernel_rfl) (by kernel_rfl) (by kernel_rfl) (by kernel_rfl) (fun _ _ _ h => h) (Or.inl ⟨by rfl, ?_⟩) ?_ | fail
              rotate_left
              · first | (intro w hSw; (try dsimp only at hSw); go_simp; with_reducible rfl) | (intro w hSw; (try dsimp only at hSw); go_simp; done) | fail
              try simp only [Act.put, List.setIfInBounds_toArray, List.set_cons_zero, List.set_cons_succ]
              first | refine upto_run 22 (v := ?_) hU0 (by kernel_rfl) rfl (by kernel_rfl) (by kernel_rfl) (by kernel_rfl) (by kernel_rfl) (fun _ _ _ h => h) (Or.inl ⟨by rfl, ?_⟩) ?_ | fail
              rotate_left
              · first | (intro w _; go_simp; with_reducible rfl) | (intro w _; go_simp; done) | (intro w _; go_simp; rw [if_neg (by omega)]) | fail
              try simp only [Act.put, List.setIfInBounds_toArray, List.set_cons_zero, List.set_cons_succ]
              first | refine upto_read 23 (v := ?_) hU0 (by kernel_rfl) rfl (by kernel_rfl) (by kernel_rfl) (by kernel_rfl) (by kernel_rfl) (by kernel_rfl) (fun _ _ _ h => h) (Or.inl ⟨by rfl, ?_⟩) ?_ | fail
              rotate_left
              · first | (intro w hSw; (try dsimp only at hSw); go_simp; with_reducible rfl) | (intro w hSw; (try dsimp only at hSw); go_simp; done) | fail
              try simp only [Act.put, List.setIfInBounds_toArray, List.set_cons_zero, List.set_cons_succ]
              first | refine upto_next 9 rfl (by kernel_rfl) (fun K hK => ?_) | fail
              go_simp
              go_at_call_of 20 (Value.agg #[.int .i64 b.term.a.reg, .int .i64 b.term.a.num])
              refine (HAa.out wt.drew (Below.drew (Below.refl _ _))).mono ?_
              rintro e w1x ⟨rfl, hbn9⟩
              have hb1 : Below wt.heap.size wt w1x := ((Below.drew (Below.refl _ _))).bt ⟨hbn9.os, hbn9.tape, hbn9.output, hbn9.size, hbn9.block⟩
              clear hbn9
              try go_simp
              first | refine hK.out _ _ ?_ (fun hU1 => ?_) | (go_wp2_with fail; refine hK.out _ _ ?_ (fun hU1 => ?_)) | fail
              · exact Or.inr ⟨later t8 hb1, later t1 hb1, later t2 hb1, later t3 hb1, later t4 hb1, later t5 hb1, later t6 hb1, later t7 hb1⟩
              clear hK K
              clear hU0
              try simp only [Act.put, List.setIfInBounds_toArray, List.set_cons_zero, List.set_cons_succ]
              first | refine upto_run 10 (v := ?_) hU1 (by kernel_rfl) rfl (by kernel_rfl) (by kernel_rfl) (by kernel_rfl) (by kernel_rfl) (fun _ _ _ h => h) (Or.inl ⟨by rfl, ?_⟩) ?_ | fail
              rotate_left
              · first | (intro w _; go_simp; with_reducible rfl) | (intro w _; go_simp; done) | (intro w _; go_simp; rw [if_neg (by omega)]) | fail
              try simp only [Act.put, List.setIfInBounds_toArray, List.set_cons_zero, List.set_cons_succ]
              first | refine upto_run 11 (v := ?_) hU1 (by kernel_rfl) rfl (by kernel_rfl) (by kernel_rfl) (by kernel_rfl) (by kernel_rfl) (fun _ _ _ h => h) (Or.inl ⟨by rfl, ?_⟩) ?_ | fail
              rotate_left
              · first | (intro w _; go_simp; with_reducible rfl) | (intro w _; go_simp; done) | (intro w _; go_simp; rw [if_neg (by omega)]) | fail
              try simp only [Act.put, List.setIfInBounds_toArray, List.set_cons_zero, List.set_cons_succ]
              first | refine upto_next 14 rfl (by kernel_rfl) (fun K hK => ?_) | fail
              go_simp
              go_at_call_of 20 (Value.agg #[.int .i64 b.term.b.reg, .int .i64 b.term.b.num])
              refine (HAb.out w1x hb1).mono ?_
              rintro e w2x ⟨rfl, hbn14⟩
              have hb2 : Below wt.heap.size wt w2x := (hb1).bt ⟨hbn14.os, hbn14.tape, hbn14.output, hbn14.size, hbn14.block⟩
              clear hbn14
              try go_simp
              first | refine hK.out _ _ ?_ (fun hU2 => ?_) | (go_wp2_with fail; refine hK.out _ _ ?_ (fun hU2 => ?_)) | fail
              · exact Or.inr ⟨later t8 hb2, later t1 hb2, later t2 hb2, later t3 hb2, later t4 hb2, later t5 hb2, later t6 hb2, later t7 hb2⟩
              clear hK K
              clear hU1
              try simp only [Act.put, List.setIfInBounds_toArray, List.set_cons_zero, List.set_cons_succ]
              first | refine upto_run 15 (v := ?_) hU2 (by kernel_rfl) rfl (by kernel_rfl) (by kernel_rfl) (by kernel_rfl) (by kernel_rfl) (fun _ _ _ h => h) (Or.inl ⟨by rfl, ?_⟩) ?_ | fail
              rotate_left
              · first | (intro w _; go_simp; with_reducible rfl) | (intro w _; go_simp; done) | (intro w _; go_simp; rw [if_neg (by omega)]) | fail
              try simp only [Act.put, List.setIfInBounds_toArray, List.set_cons_zero, List.set_cons_succ]
              first | refine upto_run 16 (v := ?_) hU2 (by kernel_rfl) rfl (by kernel_rfl) (by kernel_rfl) (by kernel_rfl) (by kernel_rfl) (fun _ _ _ h => h) (Or.inl ⟨by rfl, ?_⟩) ?_ | fail
              rotate_left
              · first | (intro w _; go_simp; with_reducible rfl) | (intro w _; go_simp; done) | (intro w _; go_simp; rw [if_neg (by omega)]) | fail
              try simp only [Act.put, List.setIfInBounds_toArray, List.set_cons_zero, List.set_cons_succ]
              first | refine upto_next 19 rfl (by kernel_rfl) (fun K hK => ?_) | fail
              go_simp
              go_at_call_of 18 (Value.int .i64 b.term.to_)
              refine (HIt.out w2x hb2).mono ?_
              rintro e w3x ⟨rfl, hbn19⟩
              have hb3 : Below wt.heap.size wt w3x := (hb2).bt ⟨hbn19.os, hbn19.tape, hbn19.output, hbn19.size, hbn19.block⟩
              clear hbn19
              try go_simp
              first | refine hK.out _ _ ?_ (fun hU3 => ?_) | (go_wp2_with fail; refine hK.out _ _ ?_ (fun hU3 => ?_)) | fail
              · exact Or.inr ⟨later t8 hb3, later t1 hb3, later t2 hb3, later t3 hb3, later t4 hb3, later t5 hb3, later t6 hb3, later t7 hb3⟩
              clear hK K
              clear hU2
              try simp only [Act.put, List.setIfInBounds_toArray, List.set_cons_zero, List.set_cons_succ]
              first | refine upto_run 20 (v := ?_) hU3 (by kernel_rfl) rfl (by kernel_rfl) (by kernel_rfl) (by kernel_rfl) (by kernel_rfl) (fun _ _ _ h => h) (Or.inl ⟨by rfl, ?_⟩) ?_ | fail
              rotate_left
              · first | (intro w _; go_simp; with_reducible rfl) | (intro w _; go_simp; done) | (intro w _; go_simp; rw [if_neg (by omega)]) | fail
              try simp only [Act.put, List.setIfInBounds_toArray, List.set_cons_zero, List.set_cons_succ]
              first | refine upto_run 21 (v := ?_) hU3 (by kernel_rfl) rfl (by kernel_rfl) (by kernel_rfl) (by kernel_rfl) (by kernel_rfl) (fun _ _ _ h => h) (Or.inl ⟨by rfl, ?_⟩) ?_ | fail
              rotate_left
              · first | (intro w _; go_simp; with_reducible rfl) | (intro w _; go_simp; done) | (intro w _; go_simp; rw [if_neg (by omega)]) | fail
              try simp only [Act.put, List.setIfInBounds_toArray, List.set_cons_zero, List.set_cons_succ]
              first | refine upto_next 24 rfl (by kernel_rfl) (fun K hK => ?_) | fail
              go_simp
              go_at_call_of 18 (Value.int .i64 b.term.els)
              refine (HIe.out w3x hb3).mono ?_
              rintro e w4 ⟨rfl, hbn24⟩
              have hb4 : Below wt.heap.size wt w4 := (hb3).bt ⟨hbn24.os, hbn24.tape, hbn24.output, hbn24.size, hbn24.block⟩
              clear hbn24
              try go_simp
              first | refine hK.out _ _ ?_ (fun hU4 => ?_) | (go_wp2_with fail; refine hK.out _ _ ?_ (fun hU4 => ?_)) | fail
              · exact Or.inr ⟨later t8 hb4, later t1 hb4, later t2 hb4, later t3 hb4, later t4 hb4, later t5 hb4, later t6 hb4, later t7 hb4⟩
              clear hK K
              clear hU3
              try simp only [Act.put, List.setIfInBounds_toArray, List.set_cons_zero, List.set_cons_succ]
              first | refine upto_run 25 (v := ?_) hU4 (by kernel_rfl) rfl (by kernel_rfl) (by kernel_rfl) (by kernel_rfl) (by kernel_rfl) (fun _ _ _ h => h) (Or.inl ⟨by rfl, ?_⟩) ?_ | fail
              rotate_left
              · first | (intro w _; go_simp; with_reducible rfl) | (intro w _; go_simp; done) | (intro w _; go_simp; rw [if_neg (by omega)]) | fail
              try simp only [Act.put, List.setIfInBounds_toArray, List.set_cons_zero, List.set_cons_succ]
              obtain ⟨v9, w9, r9, m9, g9⟩ := HMt.out.appB hb4 (termS b.term) ({ data := #[32, 32, 105, 102, 32] } ++ NB ++ { data := #[32] } ++ AB ++ { data := #[32] } ++ BB ++ { data := #[32, 98] } ++ numB b.term.to_ ++ { data := #[32, 101, 108, 115, 101, 32, 98] } ++ numB b.term.els) (by rw [HT.out, HNB.out, HAB.out, HBB.out]; exact br_text _ _ _ _ _) (by omega)
              have HM9 := Lib.hid m9
              have HX9 := Lib.hid (HMt.out.kept hb4 g9 (blk_below HXt.out hb4) (by decide))
              have HN9 := Lib.hid (show w9.cell? ⟨0, b.term.op.toNat, none⟩ = some (.string NB) by rw [HNB.out]; exact (HM.out.below m9.2.1).at_op b.term.op hop0 hop1)
              have hbA : Below wt.heap.size wt (w4.alloc (.cells #[.string ({ data := #[32, 32, 105, 102, 32] } ++ NB ++ { data := #[32] } ++ AB ++ { data := #[32] } ++ BB ++ { data := #[32, 98] } ++ numB b.term.to_ ++ { data := #[32, 101, 108, 115, 101, 32, 98] } ++ numB b.term.els)] 9)) := below_alloc _ hb4
              clear m9 g9
              first | refine upto_next 26 rfl (by kernel_rfl) (fun K hK => ?_) | fail
              go_simp
              first | refine hK.out _ _ ?_ (fun hU5 => ?_) | (go_wp2_with fail; refine hK.out _ _ ?_ (fun hU5 => ?_)) | fail
              · exact Or.inr ⟨later t8 hbA, later t1 hbA, later t2 hbA, later t3 hbA, later t4 hbA, later t5 hbA, later t6 hbA, later t7 hbA⟩
              clear hK K
              clear hU4
              try simp only [Act.put, List.setIfInBounds_toArray, List.set_cons_zero, List.set_cons_succ]
              first | refine upto_next 27 rfl (by kernel_rfl) (fun K hK => ?_) | fail
              refine step_append_run rfl (.tmp 71) (.tmp 97) 60 rfl _ _ _ _ rfl rfl r9 ?_
              try go_simp
              first | refine hK.out _ _ ?_ (fun hU6 => ?_) | (go_wp2_with fail; refine hK.out _ _ ?_ (fun hU6 => ?_)) | fail
              · exact Or.inr ⟨HN9.out, blk_cell HX9.out rfl, blk_cell HX9.out rfl, blk_cell HX9.out rfl, blk_cell HX9.out rfl, blk_cell HX9.out rfl, blk_cell HX9.out rfl, blk_cell HX9.out rfl⟩
              clear hK K
              clear hU5
              try simp only [Act.put, List.setIfInBounds_toArray, List.set_cons_zero, List.set_cons_succ]
              first | refine upto_next 28 rfl (by kernel_rfl) (fun K hK => ?_) | fail
              go_simp
              first | refine hK.out _ _ ?_ (fun hU7 => ?_) | (go_wp2_with fail; refine hK.out _ _ ?_ (fun hU7 => ?_)) | fail
              · exact Or.inl (by kernel_rfl)
              clear hK K
              clear hU6
              try simp only [Act.put, List.setIfInBounds_toArray, List.set_cons_zero, List.set_cons_succ]
              refine upto_done (by kernel_rfl) ?_ _
              go_wp2_with fail
              go_roundw
              case rel => exact ⟨k + 1, by omega, by go_num, by rw [HTk.out, linesB, ← List.append_assoc, ← List.append_assoc, ← List.append_assoc, ← HLL.out]; exact HM9.out⟩
              case measure => simp [intOf]; omega
            · have b1 : (b.term.kind == 1) = false := by simpa using h1
              have b2 : (b.term.kind == 2) = false := by simpa using h2
              have t2 : wt.cell? ⟨gt, 2, none⟩ = some (.int .i64 b.term.a.reg) := blk_cell HXt.out rfl
              have t3 : wt.cell? ⟨gt, 3, none⟩ = some (.int .i64 b.term.a.num) := blk_cell HXt.out rfl
              have HI := Lib.hid (arg_any wt (HP.out.below HMt.out.2.1) b.term.a k3 k4)
              obtain ⟨AB, hAB⟩ : ∃ AB : ByteArray, AB = ⟨⟨argS b.term.a⟩⟩ := ⟨_, rfl⟩
              have hz : AB.size ≤ 22 := hAB ▸ argS_len k3 k4
              have HAB := Lib.hid hAB
              rw [← hAB] at HI
              have HT := Lib.hid (show termS b.term = [32, 32, 114, 101, 116, 32] ++ argS b.term.a from (if_neg h1).trans (if_neg h2))
              clear k1 k2 k3 k4 k5 k6 k7 k8 h1 h2 hAB
              go_wp2_with fail
              refine HI.out.mono ?_
              rintro e w8 ⟨rfl, kb8⟩
              obtain ⟨v9, w9, r9, m9, g9⟩ := HMt.out.appB kb8 ([32, 32, 114, 101, 116, 32] ++ argS b.term.a) ({ data := #[32, 32, 114, 101, 116, 32] } ++ AB) (HAB.out ▸ app_eq [32, 32, 114, 101, 116, 32] _) (by omega)
              have HM9 := Lib.hid m9
              clear kb8 m9 g9 t0 t2 t3
              go_wp2_with (at_builtin; refine wpList_append_run' _ rfl _ _ _ rfl _ _ _ _ rfl rfl r9 ?_)
              go_roundw
              case rel => exact ⟨k + 1, by omega, by go_num, by rw [HTk.out, linesB, ← List.append_assoc, ← List.append_assoc, ← List.append_assoc, ← HLL.out, HT.out]; exact HM9.out⟩
              case measure => simp [intOf]; omega
    · have e : k = n := by omega
      subst e
      rw [HN.out, List.take_length] at HMr
      have hLF : [HD] ++ linesG 0 f.blocks = linesF f := by rw [HHD.out, HNM.out]; rfl
      rw [hLF] at HMr
      obtain ⟨hl1, hl2⟩ := linesF_le HF.out HPar.out HAll.out
      have hj := join_le (sep := [10]) hl1
      have hj2 : (Lib.join (linesF f) [10]).length ≤ 1200001 * 4004001 := Nat.le_trans hj (Nat.mul_le_mul_left _ hl2)
      have HJ := Lib.hid (join_any wr (w.heap.size + 1) _ (linesF f) [10] (by omega) (by omega) HMr.out.1)
      have HB := Lib.hid HMr.out.2.1
      obtain ⟨JB, hJB⟩ : ∃ JB : ByteArray, JB = ⟨⟨Lib.join (linesF f) [10]⟩⟩ := ⟨_, rfl⟩
      rw [← hJB] at HJ
      have hz : JB.size ≤ 1200001 * 4004001 := hJB ▸ hj2
      have HE := Lib.hid (show JB ++ { data := #[10] } = ⟨⟨funcS f⟩⟩ from hJB ▸ app_eq _ [10])
      clear hl1 hl2 hj hj2 hLF HMr hJB
      go_wp2_with fail
      refine HJ.out.mono ?_
      rintro e w6 ⟨rfl, kb6⟩
      have HB6 := Lib.hid (below_over HB.out kb6)
      clear kb6
      go_wp2_with fail
      go_returns
      exact ⟨by rw [HE.out]; rfl, HB6.out⟩
end Go.Proofs.YtdaildpfkchbhaaDoor
