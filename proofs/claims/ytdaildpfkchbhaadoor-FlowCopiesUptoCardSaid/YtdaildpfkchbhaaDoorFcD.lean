/- FlowCopies: flow.Copy walked. No condition. -/
import Derived.Test.YtdaildpfkchbhaaDoorFcC
namespace Go.Proofs.YtdaildpfkchbhaaDoor
open Go.RowKit
set_option linter.unusedVariables false
set_option maxHeartbeats 4000000
/-- a function copied -/
def CopyR (w : World) (f : FuncD) (e : Ending) (w' : World) : Prop :=
  ∃ vs vl g cap, e = .returned (.agg #[.string f.name, .int .i64 f.params, vs, .int .i64 f.regs, vl, .slice (some ⟨g, 0, none⟩) f.blocks.length cap]) ∧ Below w.heap.size w w' ∧ f.blocks.length ≤ cap ∧ cap ≤ maxLen ∧
    RowB w' w.heap.size g f.blocks (fun _ vi b => NewI w w' w.heap.size vi b.ins b.ins.length) ∧ (∃ l : List Bool, w'.ownsRow w.heap.size 4 1 vs f.secret.length (l.map Value.bool)) ∧ ∃ l, w'.ownsRow w.heap.size 3 1 vl f.slots.length l
set_option maxRecDepth 100000 in
theorem copy_any (w : World) (f : FuncD) (vs0 vl0 vb0 : Value) (hs : SlR w 1 BoolR vs0 f.secret) (hsl : f.secret.length ≤ 1000) (hl : SlR w 1 IntR vl0 f.slots) (hll : f.slots.length ≤ 2000) (hb : SlR w 9 (BlockR w) vb0 f.blocks) (hf : FunOk f) (hne : 0 < f.blocks.length) :
    Calls Tryd.prog 6 #[.agg #[.string f.name, .int .i64 f.params, vs0, .int .i64 f.regs, vl0, vb0]] w (CopyR w f) := by
  have HF := Lib.hid hf
  have HBl := Lib.hid hb
  have HSe := Lib.hid hs
  have HSl := Lib.hid hl
  obtain ⟨SA, sc, rfl, _, _, _⟩ := hs
  obtain ⟨LA, lc, rfl, _, _, _⟩ := hl
  obtain ⟨BA, bc, rfl, _, _, _⟩ := hb
  have hbl := hf.2.1
  obtain ⟨nm, hnm⟩ : ∃ nm, nm = f.name := ⟨_, rfl⟩
  obtain ⟨n1, hn1⟩ : ∃ n, n = f.secret.length := ⟨_, rfl⟩
  obtain ⟨n2, hn2⟩ : ∃ n, n = f.slots.length := ⟨_, rfl⟩
  obtain ⟨n, hn⟩ : ∃ n, n = f.blocks.length := ⟨_, rfl⟩
  unfold CopyR
  rw [← hnm, ← hn1, ← hn2, ← hn]
  rw [← hn] at hbl hne
  have HNm := Lib.hid hnm
  have HN1 := Lib.hid hn1
  have HN2 := Lib.hid hn2
  have HN := Lib.hid hn
  clear hnm hn2
  obtain ⟨w1, hw1⟩ : ∃ w1, w1 = (w.alloc (.cells #[.string nm, .int .i64 f.params, .slice SA n1 sc, .int .i64 f.regs, .slice LA n2 lc, .slice BA n bc] 32)).alloc (.cells #[.string ⟨#[]⟩, .int .i64 0, .slice none 0 0, .int .i64 0, .slice none 0 0, .slice none 0 0] 32) := ⟨_, rfl⟩
  have hb1 : Below w.heap.size w w1 := by rw [hw1]; exact below_alloc _ (below_alloc _ (Below.refl _ _))
  have hx1 : w1.heap[w.heap.size]? = some (.cells #[.string nm, .int .i64 f.params, .slice SA n1 sc, .int .i64 f.regs, .slice LA n2 lc, .slice BA n bc] 32 (0, 0)) := by rw [hw1]; exact blk_alloc (blk_new _ _) _
  have hr1 : w1.heap[w.heap.size + 1]? = some (.cells #[.string ⟨#[]⟩, .int .i64 0, .slice none 0 0, .int .i64 0, .slice none 0 0, .slice none 0 0] 32 (0, 0)) := by rw [hw1]; exact blk_new' (by simp)
  obtain ⟨v2, w2, l2, r2, o2, b2⟩ := copy_bool w1 _ f.secret (HSe.out.later (by decide) hb1) (by omega)
  obtain ⟨A2, c2, rfl, _⟩ := own_slice o2
  rw [← hn1] at r2 o2
  have hx2 := blk_below hx1 b2
  have hr2 := blk_below hr1 b2
  have hb2 := below_over hb1 b2
  have q2 := blk_cell (i := 2) (v := .slice SA n1 sc) hx1 rfl
  have q2' := blk_cell (i := 2) (v := .slice SA n1 sc) hx2 rfl
  have q2f := blk_free (i := 2) hx2
  have HO2 := Lib.hid (own_base o2 hb1.size)
  have HX2 := Lib.hid hx2
  have HR2 := Lib.hid hr2
  have HB2 := Lib.hid hb2
  clear hn1 hn hsl hx1 hr1 hb1 o2 b2 hx2 hr2 hb2 hf
  go_enter Tryd.func6, Tryd.ntmps6
  go_upto_region 1 with (fail)
  rw [← hw1]
  clear hw1
  go_upto_region 2 with (at_builtin; refine wpList_append_run' _ rfl _ _ _ rfl _ _ _ _ rfl rfl r2 ?_)
  clear r2 q2 q2' q2f
  -- the second row
  obtain ⟨w3, hw3⟩ : ∃ w3, w3 = w2.setCell ⟨w.heap.size, 2, none⟩ (.slice A2 n1 c2) := ⟨_, rfl⟩
  rw [← hw3]
  have hb3 : Below w.heap.size w w3 := by rw [hw3]; exact below_set HB2.out _ _ _ (Nat.le_refl _)
  have hx3 : w3.heap[w.heap.size]? = some (.cells #[.string nm, .int .i64 f.params, .slice A2 n1 c2, .int .i64 f.regs, .slice LA n2 lc, .slice BA n bc] 32 (0, 0)) := by rw [hw3]; exact blk_setCell HX2.out _
  have hr3 : w3.heap[w.heap.size + 1]? = some (.cells #[.string ⟨#[]⟩, .int .i64 0, .slice none 0 0, .int .i64 0, .slice none 0 0, .slice none 0 0] 32 (0, 0)) := by rw [hw3]; exact blk_set HR2.out (by simp) _
  have ho3 : w3.ownsRow w.heap.size 4 1 (.slice A2 n1 c2) n1 (l2.map Value.bool) := by rw [hw3]; exact HO2.out.kept (grown_set w2 w.heap.size 2 _) (own_blk HO2.out HX2.out (by decide))
  clear hw3
  obtain ⟨v4, w4, l4, r4, o4, b4⟩ := copy_int w3 _ f.slots (HSl.out.later (by decide) hb3) (by omega)
  obtain ⟨A4, c4, rfl, _⟩ := own_slice o4
  rw [← HN2.out] at r4 o4
  have q4 := blk_cell (i := 4) (v := .slice LA n2 lc) hx3 rfl
  have hx4 := blk_below hx3 b4
  have q4' := blk_cell (i := 4) (v := .slice LA n2 lc) hx4 rfl
  have q4f := blk_free (i := 4) hx4
  have HO4 := Lib.hid (own_base o4 hb3.size)
  have HO3 := Lib.hid (own_below ho3 b4)
  have HX4 := Lib.hid hx4
  have HR4 := Lib.hid (blk_below hr3 b4)
  have HB4 := Lib.hid (below_over hb3 b4)
  clear hll hx3 hr3 hb3 o4 b4 hx4 ho3 HB2 HX2 HR2 HO2
  go_upto_region 3 with (at_builtin; refine wpList_append_run' _ rfl _ _ _ rfl _ _ _ _ rfl rfl r4 ?_)
  clear r4 q4 q4' q4f
  obtain ⟨w5, hw5⟩ : ∃ w5, w5 = w4.setCell ⟨w.heap.size, 4, none⟩ (.slice A4 n2 c4) := ⟨_, rfl⟩
  rw [← hw5]
  have hb5 : Below w.heap.size w w5 := by rw [hw5]; exact below_set HB4.out _ _ _ (Nat.le_refl _)
  have hx5 : w5.heap[w.heap.size]? = some (.cells #[.string nm, .int .i64 f.params, .slice A2 n1 c2, .int .i64 f.regs, .slice A4 n2 c4, .slice BA n bc] 32 (0, 0)) := by rw [hw5]; exact blk_setCell HX4.out _
  have HF5 : Fr w w.heap.size (w.heap.size + 1) #[.string nm, .int .i64 f.params, .slice A2 n1 c2, .int .i64 f.regs, .slice A4 n2 c4, .slice BA n bc] #[.string ⟨#[]⟩, .int .i64 0, .slice none 0 0, .int .i64 0, .slice none 0 0, .slice none 0 0] (.slice A2 n1 c2) (.slice A4 n2 c4) n1 n2 w5 :=
    ⟨hb5, hx5, by rw [hw5]; exact blk_set HR4.out (by simp) _, ⟨_, by rw [hw5]; exact HO3.out.kept (grown_set w4 w.heap.size 4 _) (own_blk HO3.out HX4.out (by decide))⟩, _, by rw [hw5]; exact HO4.out.kept (grown_set w4 w.heap.size 4 _) (own_blk HO4.out HX4.out (by decide))⟩
  clear hw5
  obtain ⟨g, cap, w6, r6, hcap1, hcap2, hrow, b6⟩ := copy_blk w w5 _ f.blocks hb5 HBl.out (by rw [← HN.out]; omega) (by rw [← HN.out]; omega)
  rw [← HN.out] at r6 hcap1
  have q5 := blk_cell (i := 5) (v := .slice BA n bc) hx5 rfl
  have HFr6 := Lib.hid (HF5.step (r := none) (grown_of_below b6) (fun b hb => by cases hb))
  have HRow := Lib.hid (show RowB w6 w.heap.size g f.blocks (fun i vi b => (i < 0 → NewI w w6 w.heap.size vi b.ins b.ins.length) ∧ (0 ≤ i → SlR w 12 (InsR w) vi b.ins)) by
    obtain ⟨cur, h1, h2, h3⟩ := hrow
    refine ⟨cur, Nat.le_trans hb5.size h1, h2, fun i b hb => ?_⟩
    obtain ⟨vi, k1, k2⟩ := h3 i b hb
    exact ⟨vi, k1, fun h => by omega, fun _ => k2⟩)
  clear hb5 hx5 HF5 hrow b6 HO3 HX4 HR4 HB4 HO4
  go_upto_region 4 with (at_builtin; refine wpList_append_run' _ rfl _ _ _ rfl _ _ _ _ rfl rfl r6 ?_)
  clear r6 q5
  obtain ⟨BX, hBX⟩ : ∃ BX : Array Value, BX = #[.string nm, .int .i64 f.params, .slice A2 n1 c2, .int .i64 f.regs, .slice A4 n2 c4, .slice BA n bc] := ⟨_, rfl⟩
  obtain ⟨RX, hRX⟩ : ∃ RX : Array Value, RX = #[.string ⟨#[]⟩, .int .i64 0, .slice none 0 0, .int .i64 0, .slice none 0 0, .slice none 0 0] := ⟨_, rfl⟩
  rw [← hBX, ← hRX] at HFr6
  have HBX := Lib.hid hBX
  have HRX := Lib.hid hRX
  have hcap3 : n ≤ cap := hcap1
  have HCp := Lib.hid hcap2
  clear hBX hRX hcap2
  go_wp2_with fail
  go_loopw [19] (fun i wr => ∃ k : Nat, k ≤ n ∧ i = .int .i64 k ∧ Fr w w.heap.size (w.heap.size + 1) BX RX (.slice A2 n1 c2) (.slice A4 n2 c4) n1 n2 wr ∧ RowB wr w.heap.size g f.blocks (fun i vi b => (i < k → NewI w wr w.heap.size vi b.ins b.ins.length) ∧ (k ≤ i → SlR w 12 (InsR w) vi b.ins))) (fun i _ => n - (intOf i).toNat)
  case atStart => exact ⟨0, by omega, rfl, HFr6.out, HRow.out⟩
  case round =>
    obtain ⟨k, hk, rfl, hfr, hrw⟩ := hrel
    obtain ⟨wq, hq⟩ : ∃ wq, wq = wr := ⟨_, rfl⟩
    subst hq
    have HFr := Lib.hid hfr
    have HRw := Lib.hid hrw
    clear hfr hrw HFr6 HRow
    by_cases hlt : k < n
    · have hlk : k < f.blocks.length := by rw [← HN.out]; exact hlt
      obtain ⟨b, hb⟩ : ∃ b, f.blocks[k]? = some b := ⟨_, List.getElem?_eq_getElem hlk⟩
      have hnb := (HF.out.1 b (List.mem_of_getElem? hb)).2.1
      have HAr := Lib.hid (fun x hx => ((HF.out.1 b (List.mem_of_getElem? hb)).1 x hx).1 : ∀ x ∈ b.ins, x.args.length ≤ 4000)
      obtain ⟨cur, hgB, hg, h3⟩ := id HRw.out
      obtain ⟨vi, e1, e2⟩ := h3 k b hb
      have hsi := e2.2 (Nat.le_refl _)
      obtain ⟨v7, w7, r7, n7, b7⟩ := copy_ins w wq vi b.ins HFr.out.1 hsi (by omega)
      obtain ⟨IA, ic, rfl, _, _, _⟩ := hsi
      obtain ⟨A7, c7, rfl, hc7, _, _⟩ := id n7
      have q0 : wq.cell? ⟨g, k * 9, none⟩ = some (.slice IA b.ins.length ic) := blk_cell hg (e1 0 (by omega))
      have hg7 := blk_below hg b7
      have q0' : w7.cell? ⟨g, k * 9, none⟩ = some (.slice IA b.ins.length ic) := blk_cell hg7 (e1 0 (by omega))
      have q0f := blk_free (i := k * 9) hg7
      obtain ⟨m, hm⟩ : ∃ m, m = b.ins.length := ⟨_, rfl⟩
      rw [← hm] at r7 q0 q0' hc7 hnb
      have HM := Lib.hid hm
      have HN7 := Lib.hid n7
      have HG7 := Lib.hid hg7
      have HB7 := Lib.hid b7
      have HE1 := Lib.hid e1
      have HH3 := Lib.hid h3
      have HG := Lib.hid hg
      have HgB := Lib.hid hgB
      have HWq := Lib.hid HFr.out.1.size
      have HFrq := HFr
      have hgl : g < wq.heap.size := blk_lt hg
      clear hg e1 e2 h3 n7 hg7 b7 hm hgB
      go_upto_region 8 with (at_builtin; refine wpList_append_run' _ rfl _ _ _ rfl _ _ _ _ rfl rfl r7 ?_)
      clear r7 q0 q0' q0f
      obtain ⟨w8, hw8⟩ : ∃ w8, w8 = w7.setCell ⟨g, k * 9, none⟩ (.slice A7 m c7) := ⟨_, rfl⟩
      rw [← hw8]
      have hg8 : w8.heap[g]? = some (.cells (cur.setIfInBounds (k * 9) (.slice A7 m c7)) 41 (0, 0)) := by rw [hw8]; exact blk_setCell HG7.out _
      have hks : k * 9 < cur.size := (Array.getElem?_eq_some_iff.1 (HE1.out 0 (by omega))).1
      have y0 : w8.cell? ⟨g, k * 9, none⟩ = some (.slice A7 m c7) := blk_cell hg8 (by rw [Array.getElem?_setIfInBounds, if_pos rfl, if_pos hks])
      have hgs : w7.grownBy w8 (some g) := by rw [hw8]; exact grown_set _ _ _ _
      have HFr8 := Lib.hid ((HFr.out.step (r := none) (grown_of_below HB7.out) (fun b hb => by cases hb)).step hgs (fun b hb => by cases hb; exact ⟨HgB.out, _, _, _, HG7.out, by decide, by decide, by decide⟩))
      have HN8 := Lib.hid (show NewI w w8 wq.heap.size (.slice A7 m c7) b.ins 0 by rw [HM.out]; exact HN7.out.kept hgs (fun b hb _ => by cases hb; exact ⟨_, _, _, HG7.out, by decide, by decide⟩))
      have HOld8 := Lib.hid (show wq.heap.size ≤ w8.heap.size ∧ ∀ h, h < wq.heap.size → h ≠ g → w8.heap[h]? = wq.heap[h]? from ⟨Nat.le_trans HB7.out.size hgs.size, fun h hh hne => (hgs.block h (Nat.lt_of_lt_of_le hh HB7.out.size) (by simpa using hne)).trans (HB7.out.block h hh)⟩)
      obtain ⟨cur8, hcur8⟩ : ∃ c, c = cur.setIfInBounds (k * 9) (.slice A7 m c7) := ⟨_, rfl⟩
      rw [← hcur8] at hg8
      have HC8 := Lib.hid hcur8
      have HG8 := Lib.hid hg8
      clear hw8 hg8 hgs hcur8 HB7 HG7 HN7 HFr
      go_wp2_with fail
      go_loopw [38] (fun i wx => ∃ j : Nat, j ≤ m ∧ i = .int .i64 j ∧ Fr w w.heap.size (w.heap.size + 1) BX RX (.slice A2 n1 c2) (.slice A4 n2 c4) n1 n2 wx ∧ wx.heap[g]? = some (.cells cur8 41 (0, 0)) ∧ NewI w wx wq.heap.size (.slice A7 m c7) b.ins j ∧ wq.heap.size ≤ wx.heap.size ∧ ∀ h, h < wq.heap.size → h ≠ g → wx.heap[h]? = wq.heap[h]?) (fun i _ => m - (intOf i).toNat)
      case atStart => exact ⟨0, by omega, rfl, HFr8.out, HG8.out, HN8.out, HOld8.out.1, HOld8.out.2⟩
      case round =>
        obtain ⟨j, hj, rfl, hfr, hgx, hnx, hsx, hox⟩ := hrel
        have HFr := Lib.hid hfr
        have HGx := Lib.hid hgx
        have HNx := Lib.hid hnx
        have HSx := Lib.hid hsx
        have HOx := Lib.hid hox
        have y0 : wr.cell? ⟨g, k * 9, none⟩ = some (.slice A7 m c7) := blk_cell hgx (by rw [HC8.out, Array.getElem?_setIfInBounds, if_pos rfl, if_pos hks])
        clear hfr hgx hnx hsx hox HFr8 HG8 HN8 HOld8
        by_cases hlj : j < m
        · have hlm : j < b.ins.length := by rw [← HM.out]; exact hlj
          obtain ⟨x, hx⟩ : ∃ x, b.ins[j]? = some x := ⟨_, List.getElem?_eq_getElem hlm⟩
          obtain ⟨_, _, hA, _, _, h4⟩ := id HNx.out
          simp only [Value.slice.injEq] at hA
          obtain ⟨rfl, hmm, rfl⟩ := hA
          clear hmm
          rcases h4 with h4 | ⟨gi, curi, rfl, hgi1, hgi2, h4⟩
          · rw [h4] at hlm; simp at hlm
          · obtain ⟨va, f1, _, f3⟩ := h4 j x hx
            have hsa := f3 (Nat.le_refl _)
            have HSA := Lib.hid hsa
            obtain ⟨XA, xc, rfl, _, _, _⟩ := hsa
            have hxa := HAr.out x (List.mem_of_getElem? hx)
            have y1 : wr.cell? ⟨gi, j * 12 + 11, none⟩ = some (.slice XA x.args.length xc) := blk_cell hgi2 (f1 11 (by omega))
            obtain ⟨v9, w9, r9, o9, b9⟩ := copy_args wr.drew _ x.args (HSA.out.later (by decide) (HFr.out.1.drew)) (by omega)
            obtain ⟨A9, c9, rfl, _⟩ := own_slice o9
            have hb9 : Below wr.heap.size wr w9 := ⟨b9.os, b9.tape, b9.output, b9.size, b9.block⟩
            have ho9 : w9.ownsRow wr.heap.size 37 2 (.slice A9 x.args.length c9) x.args.length (flatA x.args) := o9
            have HP9 := Lib.hid (HNx.out.put hb9 hx (own_base ho9 HSx.out))
            have HFr9 := Lib.hid (((HFr.out.step (r := none) (grown_of_below hb9) (fun b hb => by cases hb)).step (grown_set w9 gi (j * 12 + 11) (.slice A9 x.args.length c9)) (fun b hb => by cases hb; exact ⟨Nat.le_trans HWq.out hgi1, _, _, _, blk_below hgi2 hb9, by decide, by decide, by decide⟩)))
            have z1 : w9.cell? ⟨gi, j * 12 + 11, none⟩ = some (.slice XA x.args.length xc) := blk_cell (blk_below hgi2 hb9) (f1 11 (by omega))
            have z1f := blk_free (i := j * 12 + 11) (blk_below hgi2 hb9)
            have hgne : g ≠ gi := by omega
            have HGx9 := Lib.hid (show (w9.setCell ⟨gi, j * 12 + 11, none⟩ (.slice A9 x.args.length c9)).heap[g]? = some (.cells cur8 41 (0, 0)) from blk_set (blk_below HGx.out hb9) (by simpa using hgne) _)
            have HSx9 := Lib.hid (show wq.heap.size ≤ (w9.setCell ⟨gi, j * 12 + 11, none⟩ (.slice A9 x.args.length c9)).heap.size from Nat.le_trans HSx.out (Nat.le_trans hb9.size (grown_set _ _ _ _).size))
            have HOx9 := Lib.hid (show ∀ h, h < wq.heap.size → h ≠ g → (w9.setCell ⟨gi, j * 12 + 11, none⟩ (.slice A9 x.args.length c9)).heap[h]? = wq.heap[h]? from fun h hh hne => ((grown_set w9 gi (j * 12 + 11) (.slice A9 x.args.length c9)).block h (Nat.lt_of_lt_of_le hh (Nat.le_trans HSx.out hb9.size)) (by simp; omega)).trans ((hb9.block h (Nat.lt_of_lt_of_le hh HSx.out)).trans (HOx.out h hh hne)))
            have hjm : j < m := hlj
            clear h4 f1 f3 hgi2 hlm o9 ho9 b9 hx hlk hb
            go_upto_region 11 with (fail)
            refine upto_begin 18 (fun w' => w'.cell? ⟨g, k * 9, none⟩ = some (.slice (some ⟨gi, 0, none⟩) m c7) ∧ w'.cell? ⟨gi, j * 12 + 11, none⟩ = some (.slice XA x.args.length xc)) (by kernel_rfl) ?_ (fun hU0 => ?_)
            · exact ⟨y0, y1⟩
            first | refine upto_run 0 (v := ?_) hU0 (by kernel_rfl) rfl (by kernel_rfl) (by kernel_rfl) (by kernel_rfl) (by kernel_rfl) (fun _ _ _ h => h) (Or.inl ⟨by rfl, ?_⟩) ?_ | fail
            rotate_left
            · first | (intro w _; go_simp; with_reducible rfl) | (intro w _; go_simp; done) | (intro w _; go_simp; rw [if_neg (by omega)]) | fail
            try simp only [Act.put, List.setIfInBounds_toArray, List.set_cons_zero, List.set_cons_succ]
            first | refine upto_run 1 (v := ?_) hU0 (by kernel_rfl) rfl (by kernel_rfl) (by kernel_rfl) (by kernel_rfl) (by kernel_rfl) (fun _ _ _ h => h) (Or.inl ⟨by rfl, ?_⟩) ?_ | fail
            rotate_left
            · first | (intro w _; go_simp; with_reducible rfl) | (intro w _; go_simp; done) | (intro w _; go_simp; rw [if_neg (by omega)]) | fail
            try simp only [Act.put, List.setIfInBounds_toArray, List.set_cons_zero, List.set_cons_succ]
            first | refine upto_run 2 (v := ?_) hU0 (by kernel_rfl) rfl (by kernel_rfl) (by kernel_rfl) (by kernel_rfl) (by kernel_rfl) (fun _ _ _ h => h) (Or.inl ⟨by rfl, ?_⟩) ?_ | fail
            rotate_left
            · first | (intro w _; go_simp; with_reducible rfl) | (intro w _; go_simp; done) | (intro w _; go_simp; rw [if_neg (by omega)]) | fail
            try simp only [Act.put, List.setIfInBounds_toArray, List.set_cons_zero, List.set_cons_succ]
            first | refine upto_run 3 (v := ?_) hU0 (by kernel_rfl) rfl (by kernel_rfl) (by kernel_rfl) (by kernel_rfl) (by kernel_rfl) (fun _ _ _ h => h) (Or.inl ⟨by rfl, ?_⟩) ?_ | fail
            rotate_left
            · first | (intro w _; go_simp; with_reducible rfl) | (intro w _; go_simp; done) | (intro w _; go_simp; rw [if_neg (by omega)]) | fail
            try simp only [Act.put, List.setIfInBounds_toArray, List.set_cons_zero, List.set_cons_succ]
            first | refine upto_read 4 (v := ?_) hU0 (by kernel_rfl) rfl (by kernel_rfl) (by kernel_rfl) (by kernel_rfl) (by kernel_rfl) (by kernel_rfl) (fun _ _ _ h => h) (Or.inl ⟨by rfl, ?_⟩) ?_ | fail
            rotate_left
            · first | (intro w hSw; (try dsimp only at hSw); go_simp; with_reducible rfl) | (intro w hSw; (try dsimp only at hSw); go_simp; done) | fail
            try simp only [Act.put, List.setIfInBounds_toArray, List.set_cons_zero, List.set_cons_succ]
            first | refine upto_run 5 (v := ?_) hU0 (by kernel_rfl) rfl (by kernel_rfl) (by kernel_rfl) (by kernel_rfl) (by kernel_rfl) (fun _ _ _ h => h) (Or.inl ⟨by rfl, ?_⟩) ?_ | fail
            rotate_left
            · first | (intro w _; go_simp; with_reducible rfl) | (intro w _; go_simp; done) | (intro w _; go_simp; rw [if_neg (by omega)]) | fail
            try simp only [Act.put, List.setIfInBounds_toArray, List.set_cons_zero, List.set_cons_succ]
            first | refine upto_run 6 (v := ?_) hU0 (by kernel_rfl) rfl (by kernel_rfl) (by kernel_rfl) (by kernel_rfl) (by kernel_rfl) (fun _ _ _ h => h) (Or.inl ⟨by rfl, ?_⟩) ?_ | fail
            rotate_left
            · first | (intro w _; go_simp; with_reducible rfl) | (intro w _; go_simp; done) | (intro w _; go_simp; rw [if_neg (by omega)]) | fail
            try simp only [Act.put, List.setIfInBounds_toArray, List.set_cons_zero, List.set_cons_succ]
            first | refine upto_run 7 (v := ?_) hU0 (by kernel_rfl) rfl (by kernel_rfl) (by kernel_rfl) (by kernel_rfl) (by kernel_rfl) (fun _ _ _ h => h) (Or.inl ⟨by rfl, ?_⟩) ?_ | fail
            rotate_left
            · first | (intro w _; go_simp; with_reducible rfl) | (intro w _; go_simp; done) | (intro w _; go_simp; rw [if_neg (by omega)]) | fail
            try simp only [Act.put, List.setIfInBounds_toArray, List.set_cons_zero, List.set_cons_succ]
            first | refine upto_run 8 (v := ?_) hU0 (by kernel_rfl) rfl (by kernel_rfl) (by kernel_rfl) (by kernel_rfl) (by kernel_rfl) (fun _ _ _ h => h) (Or.inl ⟨by rfl, ?_⟩) ?_ | fail
            rotate_left
            · first | (intro w _; go_simp; with_reducible rfl) | (intro w _; go_simp; done) | (intro w _; go_simp; rw [if_neg (by omega)]) | fail
            try simp only [Act.put, List.setIfInBounds_toArray, List.set_cons_zero, List.set_cons_succ]
            first | refine upto_run 9 (v := ?_) hU0 (by kernel_rfl) rfl (by kernel_rfl) (by kernel_rfl) (by kernel_rfl) (by kernel_rfl) (fun _ _ _ h => h) (Or.inl ⟨by rfl, ?_⟩) ?_ | fail
            rotate_left
            · first | (intro w _; go_simp; with_reducible rfl) | (intro w _; go_simp; done) | (intro w _; go_simp; rw [if_neg (by omega)]) | fail
            try simp only [Act.put, List.setIfInBounds_toArray, List.set_cons_zero, List.set_cons_succ]
            first | refine upto_read 10 (v := ?_) hU0 (by kernel_rfl) rfl (by kernel_rfl) (by kernel_rfl) (by kernel_rfl) (by kernel_rfl) (by kernel_rfl) (fun _ _ _ h => h) (Or.inl ⟨by rfl, ?_⟩) ?_ | fail
            rotate_left
            · first | (intro w hSw; (try dsimp only at hSw); go_simp; with_reducible rfl) | (intro w hSw; (try dsimp only at hSw); go_simp; done) | fail
            try simp only [Act.put, List.setIfInBounds_toArray, List.set_cons_zero, List.set_cons_succ]
            first | refine upto_run 11 (v := ?_) hU0 (by kernel_rfl) rfl (by kernel_rfl) (by kernel_rfl) (by kernel_rfl) (by kernel_rfl) (fun _ _ _ h => h) (Or.inl ⟨by rfl, ?_⟩) ?_ | fail
            rotate_left
            · first | (intro w _; go_simp; with_reducible rfl) | (intro w _; go_simp; done) | (intro w _; go_simp; rw [if_neg (by omega)]) | fail
            try simp only [Act.put, List.setIfInBounds_toArray, List.set_cons_zero, List.set_cons_succ]
            first | refine upto_run 12 (v := ?_) hU0 (by kernel_rfl) rfl (by kernel_rfl) (by kernel_rfl) (by kernel_rfl) (by kernel_rfl) (fun _ _ _ h => h) (Or.inl ⟨by rfl, ?_⟩) ?_ | fail
            rotate_left
            · first | (intro w _; go_simp; with_reducible rfl) | (intro w _; go_simp; done) | (intro w _; go_simp; rw [if_neg (by omega)]) | fail
            try simp only [Act.put, List.setIfInBounds_toArray, List.set_cons_zero, List.set_cons_succ]
            first | refine upto_run 13 (v := ?_) hU0 (by kernel_rfl) rfl (by kernel_rfl) (by kernel_rfl) (by kernel_rfl) (by kernel_rfl) (fun _ _ _ h => h) (Or.inl ⟨by rfl, ?_⟩) ?_ | fail
            rotate_left
            · first | (intro w _; go_simp; with_reducible rfl) | (intro w _; go_simp; done) | (intro w _; go_simp; rw [if_neg (by omega)]) | fail
            try simp only [Act.put, List.setIfInBounds_toArray, List.set_cons_zero, List.set_cons_succ]
            first | refine upto_read 14 (v := ?_) hU0 (by kernel_rfl) rfl (by kernel_rfl) (by kernel_rfl) (by kernel_rfl) (by kernel_rfl) (by kernel_rfl) (fun _ _ _ h => h) (Or.inl ⟨by rfl, ?_⟩) ?_ | fail
            rotate_left
            · first | (intro w hSw; (try dsimp only at hSw); go_simp; with_reducible rfl) | (intro w hSw; (try dsimp only at hSw); go_simp; done) | fail
            try simp only [Act.put, List.setIfInBounds_toArray, List.set_cons_zero, List.set_cons_succ]
            first | refine upto_next 15 rfl (by kernel_rfl) (fun K hK => ?_) | fail
            refine step_append_run rfl (.const (.slice none 0 0)) (.tmp 55) 43 rfl _ _ _ _ rfl rfl r9 ?_
            try go_simp
            first | refine hK.out _ _ ?_ (fun hU1 => ?_) | (go_wp2_with fail; refine hK.out _ _ ?_ (fun hU1 => ?_)) | fail
            · exact Or.inr ⟨later y0 hb9, later y1 hb9⟩
            clear hK K
            clear hU0
            try simp only [Act.put, List.setIfInBounds_toArray, List.set_cons_zero, List.set_cons_succ]
            first | refine upto_run 16 (v := ?_) hU1 (by kernel_rfl) rfl (by kernel_rfl) (by kernel_rfl) (by kernel_rfl) (by kernel_rfl) (fun _ _ _ h => h) (Or.inl ⟨by rfl, ?_⟩) ?_ | fail
            rotate_left
            · first | (intro w _; go_simp; with_reducible rfl) | (intro w _; go_simp; done) | (intro w _; go_simp; rw [if_neg (by omega)]) | fail
            try simp only [Act.put, List.setIfInBounds_toArray, List.set_cons_zero, List.set_cons_succ]
            first | refine upto_run 17 (v := ?_) hU1 (by kernel_rfl) rfl (by kernel_rfl) (by kernel_rfl) (by kernel_rfl) (by kernel_rfl) (fun _ _ _ h => h) (Or.inl ⟨by rfl, ?_⟩) ?_ | fail
            rotate_left
            · first | (intro w _; go_simp; with_reducible rfl) | (intro w _; go_simp; done) | (intro w _; go_simp; rw [if_neg (by omega)]) | fail
            try simp only [Act.put, List.setIfInBounds_toArray, List.set_cons_zero, List.set_cons_succ]
            first | refine upto_next 18 rfl (by kernel_rfl) (fun K hK => ?_) | fail
            go_simp
            first | refine hK.out _ _ ?_ (fun hU2 => ?_) | (go_wp2_with fail; refine hK.out _ _ ?_ (fun hU2 => ?_)) | fail
            · exact Or.inl (by kernel_rfl)
            clear hK K
            clear hU1
            try simp only [Act.put, List.setIfInBounds_toArray, List.set_cons_zero, List.set_cons_succ]
            refine upto_done (by kernel_rfl) ?_ _
            go_wp2_with fail
            go_roundw
            case rel => exact ⟨j + 1, by omega, by go_num, HFr9.out, HGx9.out, HP9.out, HSx9.out, HOx9.out⟩
            case measure => simp [intOf]; omega
        · have e : j = m := by omega
          subst e
          have hfq := HFrq.out
          have hgr : wq.grownBy wr (some g) := ⟨HFr.out.1.os.trans hfq.1.os.symm, HFr.out.1.tape.trans hfq.1.tape.symm, HFr.out.1.output.trans hfq.1.output.symm, HSx.out, fun h hh hne => HOx.out h hh (by simpa using hne)⟩
          have HRn := Lib.hid (rowB_next HgB.out hb HWq.out (by rw [← HC8.out]; exact HGx.out) HH3.out (by have := HNx.out; rwa [HM.out] at this ⊢) hgr ⟨_, _, HG.out⟩)
          clear hgr hfq y0
          go_wp2_with fail
          go_roundw
          case rel => exact ⟨k + 1, by omega, by go_num, HFr.out, HRn.out⟩
          case measure => simp [intOf]; omega
    · have e : k = n := by omega
      subst e
      obtain ⟨hbz, hxz, hrz, hoz1, hoz2⟩ := HFr.out
      rw [HBX.out] at hxz
      rw [HRX.out] at hrz
      have HXz := Lib.hid hxz
      have d5 := blk_cell (i := 5) (v := .slice BA k bc) hxz rfl
      have d5f := blk_free (i := 5) hxz
      clear hbz hxz hrz hoz1 hoz2
      go_upto_region 15 with (fail)
      obtain ⟨wz, hwz⟩ : ∃ wz, wz = wq.setCell ⟨w.heap.size, 5, none⟩ (.slice (some ⟨g, 0, none⟩) k cap) := ⟨_, rfl⟩
      rw [← hwz]
      have hgz : wq.grownBy wz (some w.heap.size) := by rw [hwz]; exact grown_set _ _ _ _
      have hxz : wz.heap[w.heap.size]? = some (.cells #[.string nm, .int .i64 f.params, .slice A2 n1 c2, .int .i64 f.regs, .slice A4 n2 c4, .slice (some ⟨g, 0, none⟩) k cap] 32 (0, 0)) := by rw [hwz]; exact blk_setCell HXz.out _
      have hrz : wz.heap[w.heap.size + 1]? = some (.cells RX 32 (0, 0)) := by rw [hwz]; exact blk_set HFr.out.2.2.1 (by simp) _
      rw [HRX.out] at hrz
      have HRz := Lib.hid hrz
      have HBz := Lib.hid (show Below w.heap.size w wz by rw [hwz]; exact below_set HFr.out.1 _ _ _ (Nat.le_refl _))
      have HGz := Lib.hid hgz
      have c0 := blk_cell (i := 0) (v := .string nm) hxz rfl
      have c1 := blk_cell (i := 1) (v := .int .i64 f.params) hxz rfl
      have c2' := blk_cell (i := 2) (v := .slice A2 n1 c2) hxz rfl
      have c3 := blk_cell (i := 3) (v := .int .i64 f.regs) hxz rfl
      have c4' := blk_cell (i := 4) (v := .slice A4 n2 c4) hxz rfl
      have c5 := blk_cell (i := 5) (v := .slice (some ⟨g, 0, none⟩) k cap) hxz rfl
      clear hwz hxz hrz hgz d5 d5f
      go_wp2_with (refine wpList_store_blk (by rfl) 32 _ _ (by rfl) (w.heap.size + 1) (by rfl) (by rfl) HRz.out (by rfl) (by kernel_rfl) (by kernel_rfl) ?_; intro x7 k7 hb7 hz7 ho7)
      have q0 := blk_cell (i := 0) k7 rfl
      have q1 := blk_cell (i := 1) k7 rfl
      have q2 := blk_cell (i := 2) k7 rfl
      have q3 := blk_cell (i := 3) k7 rfl
      have q4 := blk_cell (i := 4) k7 rfl
      have q5 := blk_cell (i := 5) k7 rfl
      have hg7 : wz.grownBy x7 (some (w.heap.size + 1)) := by
        have h0 := hb7 0 wz (by omega) (Below.refl _ _)
        exact ⟨h0.os, h0.tape, h0.output, h0.size, fun h _ hne => ho7 h (by simpa using hne)⟩
      have hrow : RowB wq w.heap.size g f.blocks (fun _ vi b => NewI w wq w.heap.size vi b.ins b.ins.length) := by
        obtain ⟨cur, h1, h2, h3⟩ := HRw.out
        refine ⟨cur, h1, h2, fun i b hb => ?_⟩
        obtain ⟨vi, k1, k2, _⟩ := h3 i b hb
        exact ⟨vi, k1, k2 (by rw [HN.out]; exact (List.getElem?_eq_some_iff.1 hb).1)⟩
      have hrow2 := (hrow.kept HGz.out (fun b hb _ => by cases hb; exact ⟨_, _, _, HXz.out, by decide, by decide, by decide⟩)).kept hg7 (fun b hb _ => by cases hb; exact ⟨_, _, _, HRz.out, by decide, by decide, by decide⟩)
      obtain ⟨_, _, _, ⟨l1, ho1⟩, l2', ho2⟩ := HFr.out
      have ho1' := (ho1.kept HGz.out (own_blk ho1 HXz.out (by decide)))
      have ho2' := (ho2.kept HGz.out (own_blk ho2 HXz.out (by decide)))
      exact bodyPost_ret (v := .agg #[.string nm, .int .i64 f.params, .slice A2 n1 c2, .int .i64 f.regs, .slice A4 n2 c4, .slice (some ⟨g, 0, none⟩) k cap]) (by simp [results, Tryd.results6, go_sem, q0, q1, q2, q3, q4, q5]; try rfl) rfl
        ⟨_, _, _, _, rfl, hb7 _ _ (by omega) HBz.out, hcap3, HCp.out, hrow2, ⟨_, ho1'.kept hg7 (own_blk ho1' HRz.out (by decide))⟩, _, ho2'.kept hg7 (own_blk ho2' HRz.out (by decide))⟩
end Go.Proofs.YtdaildpfkchbhaaDoor
