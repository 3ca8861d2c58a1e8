/- FlowCopies: the law walked. No condition. -/
import Derived.Test.YtdaildpfkchbhaaDoorFcQ
import Derived.Test.YtdaildpfkchbhaaDoorFcF
import Derived.Test.YtdaildpfkchbhaaDoorPk
import Derived.Test.YtdaildpfkchbhaaDoorFit11
namespace Go.Proofs.YtdaildpfkchbhaaDoor
open Go.RowKit
set_option linter.unusedVariables false
set_option maxHeartbeats 8000000
theorem funOk_of {p : ProgD} {f : FuncD} (hf : f ∈ p.funcs) (hl : LightOk p) (hr : RightOk p) (hn : f.name.size ≤ 1048576) : FunOk f ∧ f.secret.length ≤ 1000 ∧ f.slots.length ≤ 2000 ∧ 0 < f.blocks.length := by
  obtain ⟨_, _, h1, h2, h3⟩ := hl.2.2 f hf
  obtain ⟨⟨k1, k2, k3, k4, k5⟩, k6⟩ := hr.prog f hf
  refine ⟨⟨fun b hb => ⟨fun x hx => ?_, (h3 b hb).1, fun hk => ((k6 b hb).2).2.2.2.1 hk⟩, h1, hn⟩, by omega, h2, by omega⟩
  obtain ⟨_, _, _, _, _, _, _, q, _⟩ := (k6 b hb).1 x hx
  refine ⟨(((h3 b hb).2) x hx).1, fun h => ?_⟩
  have := q h
  unfold sizedP at this
  omega
theorem lensB_le (l : List BlockD) (h : ∀ b ∈ l, b.ins.length ≤ 2000) : sumB (l.map fun b => b.ins.length) ≤ 2001 * l.length := by
  induction l with
  | nil => simp [sumB]
  | cons b r ih =>
    have h1 := h b (List.mem_cons_self ..)
    have h2 := ih (fun c hc => h c (List.mem_cons_of_mem _ hc))
    rw [List.map_cons, sumB, List.length_cons, Nat.mul_add]; omega
theorem lensF_le (l : List FuncD) (h : ∀ f ∈ l, FunOk f) : sumF (l.map lensF) ≤ 4002000 * l.length := by
  induction l with
  | nil => simp [sumF]
  | cons f r ih =>
    have h1 := h f (List.mem_cons_self ..)
    have h2 := ih (fun c hc => h c (List.mem_cons_of_mem _ hc))
    have h3 := lensB_le f.blocks (fun b hb => (h1.1 b hb).2.1)
    have h4 := h1.2.1
    rw [List.map_cons, sumF, List.length_cons, Nat.mul_add]
    have h5 : sumB (lensF f) ≤ 2001 * f.blocks.length := h3
    have h6 : 2001 * f.blocks.length ≤ 2001 * 2000 := Nat.mul_le_mul_left _ h4
    omega
set_option maxRecDepth 100000 in
theorem copieslaw (w : World) (hP : PowOk w) (hM : NmOk w) (p : ProgD) (vf vg : Value) (hin : In w p vf vg) (hnm : ∀ f ∈ p.funcs, f.name.size ≤ 1048576) :
    Calls Tryd.prog 3 #[.agg #[vf, vg, .int .i64 p.data, .int .i64 p.main]] w fun e w' => e = .returned (.bool true) ∧ Below w.heap.size w w' := by
  have HP := Lib.hid hP
  have HMn := Lib.hid hM
  have HIN := Lib.hid hin
  have HNm := Lib.hid hnm
  obtain ⟨A, cap, rfl, _, m3, _⟩ := hin.funcs
  obtain ⟨A2, cap2, rfl, _, m4, _⟩ := hin.globs
  have HM := Lib.hid (fun w1 h => mayq_any w w1 h p _ _ hin)
  have hfl := hin.flen
  have hgl := hin.glen
  clear hin m3 m4 hnm hP hM
  obtain ⟨nf, hnf⟩ : ∃ n, n = p.funcs.length := ⟨_, rfl⟩
  obtain ⟨ng, hng⟩ : ∃ n, n = p.globals.length := ⟨_, rfl⟩
  have HNF := Lib.hid hnf
  rw [← hnf, ← hng] at HM
  rw [← hnf] at hfl
  rw [← hnf, ← hng]
  obtain ⟨w1, hw1⟩ : ∃ w1, w1 = w.alloc (.cells #[.slice A nf cap, .slice A2 ng cap2, .int .i64 p.data, .int .i64 p.main] 25) := ⟨_, rfl⟩
  have hb1 : Below w.heap.size w w1 := by rw [hw1]; exact below_alloc _ (Below.refl _ _)
  have HB1 := Lib.hid hb1
  have HX1 := Lib.hid (show w1.heap[w.heap.size]? = some (.cells #[.slice A nf cap, .slice A2 ng cap2, .int .i64 p.data, .int .i64 p.main] 25 (0, 0)) by rw [hw1]; exact blk_new _ _)
  clear hb1 hnf hng hgl
  go_enter Tryd.func3, Tryd.ntmps3
  go_wp2_with fail
  rw [← hw1]
  clear hw1
  refine (fit_vm _).mono ?_
  rintro e w2 ⟨rfl, hb2⟩
  have HB2 := Lib.hid (HB1.out.bt hb2)
  have hx2 := blk_below HX1.out hb2
  have HX2 := Lib.hid hx2
  have c0 := blk_cell (i := 0) (v := .slice A nf cap) hx2 rfl
  have c1 := blk_cell (i := 1) (v := .slice A2 ng cap2) hx2 rfl
  have c2 := blk_cell (i := 2) (v := .int .i64 p.data) hx2 rfl
  have c3 := blk_cell (i := 3) (v := .int .i64 p.main) hx2 rfl
  have cl := World.block_lt_of_cell? _ _ c0
  clear hb2 HB1 HX1 hx2
  go_wp2_with fail
  refine (HM.out _ HB2.out).mono ?_
  rintro e w3 ⟨b, rfl, hb, hb3⟩
  have HB3 := Lib.hid (HB2.out.bt hb3)
  have HX3 := Lib.hid (blk_below HX2.out hb3)
  have HOK := Lib.hid hb
  clear hb hb3 c0 c1 c2 c3 cl HM HB2 HX2
  cases b with
  | false =>
    go_wp2_with fail
    go_returns
    exact ⟨rfl, HB3.out⟩
  | true =>
    obtain ⟨⟨hlk, hlg⟩, hrk⟩ := HOK.out rfl
    have HFu := Lib.hid (fun f hf => funOk_of hf hlk hrk (HNm.out f hf) : ∀ f ∈ p.funcs, FunOk f ∧ f.secret.length ≤ 1000 ∧ f.slots.length ≤ 2000 ∧ 0 < f.blocks.length)
    have hnf20 : nf ≤ 20 := by rw [HNF.out]; exact hlk.1
    have HSum := Lib.hid (show sumF (p.funcs.map lensF) ≤ 100000000 by have h1 := lensF_le p.funcs (fun f hf => (HFu.out f hf).1); rw [← HNF.out] at h1; omega)
    have d0 : w3.cell? ⟨w.heap.size, 0, none⟩ = some (.slice A nf cap) := blk_cell HX3.out rfl
    have hwl := blk_lt HX3.out
    clear hlk hlg hrk HOK hfl
    go_wp2_with fail
    go_loopw [3, 23] (fun a i wr => ∃ k : Nat, k ≤ nf ∧ i = .int .i64 k ∧ a = .int .i64 (sumF ((p.funcs.map lensF).take k) : Nat) ∧ Below w3.heap.size w3 wr) (fun _ i _ => nf - (intOf i).toNat)
    case atStart => exact ⟨0, by omega, rfl, rfl, Below.refl _ _⟩
    case round =>
      obtain ⟨k, hk, rfl, rfl, hbr⟩ := hrel
      have HBr := Lib.hid hbr
      clear hbr
      by_cases hlt : k < nf
      · have hlk : k < p.funcs.length := by rw [← HNF.out]; exact hlt
        obtain ⟨f, hfk⟩ : ∃ f, p.funcs[k]? = some f := ⟨_, List.getElem?_eq_getElem hlk⟩
        have HOf := Lib.hid (HFu.out f (List.mem_of_getElem? hfk))
        have hss := sumF_take (p.funcs.map lensF) k (lensF f) (by rw [List.getElem?_map, hfk]; rfl)
        have hsl := Nat.le_trans (sumF_le (p.funcs.map lensF) (k + 1)) HSum.out
        rw [hss] at hsl
        have HSS := Lib.hid hss
        obtain ⟨_, _, hA, _, _, h4⟩ := HIN.out.funcs.later (by decide) (below_over HB3.out HBr.out)
        simp only [Value.slice.injEq] at hA
        obtain ⟨rfl, hnl, rfl⟩ := hA
        clear hnl
        obtain ⟨fb, fo, cs, rfl, e1, e2, vs, vl, vb, e3, e3n, e3p, e4, _, e3r, e5, _, e6, _⟩ := h4 k f hfk
        subst e3
        have HSe := Lib.hid e4
        have HSl := Lib.hid e5
        have HSb := Lib.hid e6
        have HPa := Lib.hid e3p
        obtain ⟨SA, sc, rfl, _, _, _⟩ := e4
        obtain ⟨LA, lc, rfl, _, _, _⟩ := e5
        obtain ⟨BA, bc, rfl, _, _, _⟩ := e6
        obtain ⟨n1, hn1⟩ : ∃ n, n = f.secret.length := ⟨_, rfl⟩
        obtain ⟨n2, hn2⟩ : ∃ n, n = f.slots.length := ⟨_, rfl⟩
        obtain ⟨n3, hn3⟩ : ∃ n, n = f.blocks.length := ⟨_, rfl⟩
        have q0 : wr.cell? ⟨fb, fo + k * 6, none⟩ = some (.string f.name) := e2 0 (by omega)
        have q1 := e2 1 (by omega)
        have q2 := e2 2 (by omega)
        have q3 := e2 3 (by omega)
        have q4 := e2 4 (by omega)
        have q5 := e2 5 (by omega)
        rw [← hn1] at q2
        rw [← hn2] at q4
        rw [← hn3] at q5
        have hb0 := World.block_lt_of_cell? _ _ q0
        obtain ⟨wa, hwa⟩ : ∃ wa, wa = wr.alloc (.cells #[.string f.name, .int .i64 f.params, .slice SA n1 sc, .int .i64 f.regs, .slice LA n2 lc, .slice BA n3 bc] 32) := ⟨_, rfl⟩
        have hba : Below wr.heap.size wr wa := by rw [hwa]; exact below_alloc _ (Below.refl _ _)
        have hxa : wa.heap[wr.heap.size]? = some (.cells #[.string f.name, .int .i64 f.params, .slice SA n1 sc, .int .i64 f.regs, .slice LA n2 lc, .slice BA n3 bc] 32 (0, 0)) := by rw [hwa]; exact blk_new _ _
        have HXa := Lib.hid hxa
        have HBa := Lib.hid (below_over HBr.out hba)
        have h0a : Below w.heap.size w wa := below_over HB3.out (below_over HBr.out hba)
        have H0a := Lib.hid h0a
        have HCo := Lib.hid (copy_any wa f _ _ _ (HSe.out.later (by decide) h0a) HOf.out.2.1 (HSl.out.later (by decide) h0a) HOf.out.2.2.1 ((HSb.out.later (by decide) h0a).imp' (fun cs x h => BlockR.later h h0a)) HOf.out.1 HOf.out.2.2.2)
        have HSh := Lib.hid (fun (wx : World) (h : Below wa.heap.size wa wx) => funcshow_any wx (HP.out.below (below_over h0a h)) (HMn.out.below (below_over h0a h)) f (.slice SA f.secret.length sc) (.slice LA f.slots.length lc) (.slice BA f.blocks.length bc) ((HSb.out.later (by decide) (below_over h0a h)).imp' (fun cs x h2 => BlockR.later h2 (below_over h0a h))) HPa.out HOf.out.1)
        rw [← hn1, ← hn2, ← hn3] at HCo HSh
        have HN1 := Lib.hid hn1
        have HN3 := Lib.hid hn3
        obtain ⟨gf, hgf⟩ : ∃ gf, gf = wr.heap.size := ⟨_, rfl⟩
        have HGf := Lib.hid hgf
        clear e1 e2 h4 hlk hn1 hn2 hn3 hba e3n e3p e3r hss
        go_upto_region 9 with (fail)
        rw [← hwa, ← hgf]
        rw [← hgf] at hxa HXa
        clear hwa hgf q0 q1 q2 q3 q4 q5
        have t0 : wa.cell? ⟨gf, 0, none⟩ = some (.string f.name) := blk_cell hxa rfl
        have t1 : wa.cell? ⟨gf, 1, none⟩ = some (.int .i64 f.params) := blk_cell hxa rfl
        have t2 : wa.cell? ⟨gf, 2, none⟩ = some (.slice SA n1 sc) := blk_cell hxa rfl
        have t3 : wa.cell? ⟨gf, 3, none⟩ = some (.int .i64 f.regs) := blk_cell hxa rfl
        have t4 : wa.cell? ⟨gf, 4, none⟩ = some (.slice LA n2 lc) := blk_cell hxa rfl
        have t5 : wa.cell? ⟨gf, 5, none⟩ = some (.slice BA n3 bc) := blk_cell hxa rfl
        have hgl := blk_lt hxa
        clear hxa h0a
        go_wp2_with fail
        refine HCo.out.mono ?_
        rintro e w4 ⟨vs4, vl4, g, cc, rfl, hb4, hc1, hc2, hrow, ⟨bl, ho1⟩, l2, ho2⟩
        obtain ⟨S4, sc4, rfl, _⟩ := own_slice ho1
        obtain ⟨L4, lc4, rfl, _⟩ := own_slice ho2
        rw [← HN1.out] at ho1 ⊢
        rw [← HN3.out] at hc1 ⊢
        obtain ⟨n2', hn2'⟩ : ∃ n, n = f.slots.length := ⟨_, rfl⟩
        rw [← hn2']
        clear ho2 hn2'
        obtain ⟨FS, hFS⟩ : ∃ FS : ByteArray, FS = ⟨⟨funcS f⟩⟩ := ⟨_, rfl⟩
        rw [← hFS] at HSh
        have HFS := Lib.hid hFS
        obtain ⟨w5, hw5⟩ : ∃ w5, w5 = w4.alloc (.cells #[.string f.name, .int .i64 f.params, .slice S4 n1 sc4, .int .i64 f.regs, .slice L4 n2' lc4, .slice (some ⟨g, 0, none⟩) n3 cc] 32) := ⟨_, rfl⟩
        have hb5 : Below w4.heap.size w4 w5 := by rw [hw5]; exact below_alloc _ (Below.refl _ _)
        have hx5 : w5.heap[w4.heap.size]? = some (.cells #[.string f.name, .int .i64 f.params, .slice S4 n1 sc4, .int .i64 f.regs, .slice L4 n2' lc4, .slice (some ⟨g, 0, none⟩) n3 cc] 32 (0, 0)) := by rw [hw5]; exact blk_new _ _
        have HB5 := Lib.hid (below_over hb4 hb5)
        have HRow5 := Lib.hid (hrow.kept (r := none) (grown_of_below hb5) (fun b hb => by cases hb))
        have HOw5 := Lib.hid (own_below ho1 hb5)
        have HX5 := Lib.hid hx5
        have HC1 := Lib.hid hc1
        have HC2 := Lib.hid hc2
        have hgc : wa.heap.size ≤ w4.heap.size := hb4.size
        obtain ⟨gc, hgcE⟩ : ∃ gc, gc = w4.heap.size := ⟨_, rfl⟩
        rw [← hgcE] at HX5 hx5 hgc
        have hgcl := blk_lt hx5
        go_upto_region 10 with (fail)
        rw [← hw5, ← hgcE]
        clear hw5 hgcE hb4 hb5 hrow ho1 hx5 hFS HCo hc1 hc2
        have s0 : w5.cell? ⟨gf, 0, none⟩ = some (.string f.name) := later t0 HB5.out
        have s1 := later t1 HB5.out
        have s2 := later t2 HB5.out
        have s3 := later t3 HB5.out
        have s4 := later t4 HB5.out
        have s5 := later t5 HB5.out
        clear t0 t1 t2 t3 t4 t5
        have hgl5 := World.block_lt_of_cell? _ _ s0
        go_wp2_with fail
        refine (HSh.out w5 HB5.out).mono ?_
        rintro e w6 ⟨rfl, kb6⟩
        have hb6 := below_over HB5.out kb6
        have HB6 := Lib.hid hb6
        have hr6 := HRow5.out.kept (r := none) (grown_of_below kb6) (fun b hb => by cases hb)
        have HRow6 := Lib.hid hr6
        have HOw6 := Lib.hid (own_below HOw5.out kb6)
        have hx6 := blk_below HX5.out kb6
        have HX6 := Lib.hid hx6
        have HSc := Lib.hid (funcshow_any w6 (HP.out.below (below_over H0a.out hb6)) (HMn.out.below (below_over H0a.out hb6)) f (.slice S4 n1 sc4) (.slice L4 n2' lc4) (.slice (some ⟨g, 0, none⟩) f.blocks.length cc)
          (rowB_slR hr6 (by rw [← HN3.out]; exact HC1.out) HC2.out (fun b hb => by
            obtain ⟨cs, hR⟩ := HSb.out.all b hb
            obtain ⟨k1, k2⟩ := blockR_in hR
            obtain ⟨vi, _, hsi, hil, _⟩ := hR
            exact ⟨fun x hx => ⟨k1 x hx, by obtain ⟨cs2, hR2⟩ := hsi.all x hx; obtain ⟨va, _, _, _, _, _, _, _, _, _, _, _, hl⟩ := hR2; exact hl⟩, k2, hil⟩)) HPa.out HOf.out.1)
        rw [← HFS.out, ← HN3.out] at HSc
        have t0 : w6.cell? ⟨gc, 0, none⟩ = some (.string f.name) := blk_cell hx6 rfl
        have t1 : w6.cell? ⟨gc, 1, none⟩ = some (.int .i64 f.params) := blk_cell hx6 rfl
        have t2 : w6.cell? ⟨gc, 2, none⟩ = some (.slice S4 n1 sc4) := blk_cell hx6 rfl
        have t3 : w6.cell? ⟨gc, 3, none⟩ = some (.int .i64 f.regs) := blk_cell hx6 rfl
        have t4 : w6.cell? ⟨gc, 4, none⟩ = some (.slice L4 n2' lc4) := blk_cell hx6 rfl
        have t5 : w6.cell? ⟨gc, 5, none⟩ = some (.slice (some ⟨g, 0, none⟩) n3 cc) := blk_cell hx6 rfl
        clear hb6 kb6 hr6 hx6 s0 s1 s2 s3 s4 s5 HX5 HRow5 HOw5
        go_wp2_with fail
        refine HSc.out.mono ?_
        rintro e w7 ⟨rfl, kb7⟩
        have HSh0 := Lib.hid (show ShC wa gc g f.blocks #[.string f.name, .int .i64 f.params, .slice S4 n1 sc4, .int .i64 f.regs, .slice L4 n2' lc4, .slice (some ⟨g, 0, none⟩) n3 cc] (.slice S4 n1 sc4) n1 w7 from
          ShC.later ⟨HB6.out, HX6.out, HRow6.out.shape, bl, HOw6.out⟩ kb7)
        have d5 : w7.cell? ⟨gc, 5, none⟩ = some (.slice (some ⟨g, 0, none⟩) n3 cc) := later t5 kb7
        clear t0 t1 t2 t3 t4 t5 kb7 HSc HX6 HRow6 HOw6
        go_wp2_with fail
        obtain ⟨CX, hCX⟩ : ∃ CX : Array Value, CX = #[.string f.name, .int .i64 f.params, .slice S4 n1 sc4, .int .i64 f.regs, .slice L4 n2' lc4, .slice (some ⟨g, 0, none⟩) n3 cc] := ⟨_, rfl⟩
        rw [← hCX] at HSh0
        have HCX := Lib.hid hCX
        obtain ⟨S0, hS0⟩ : ∃ S0, S0 = sumF ((p.funcs.map lensF).take k) := ⟨_, rfl⟩
        rw [← hS0] at hsl HSS ⊢
        have HLs := Lib.hid (show ∀ (i : Nat) (b : BlockD), f.blocks[i]? = some b → (lensF f)[i]? = some b.ins.length from fun i b hb => by rw [lensF, List.getElem?_map, hb]; rfl)
        have hn3c : n3 ≤ cc := HC1.out
        clear hS0 hCX d5
        go_loopw [3, 38] (fun a i wr => ∃ ib : Nat, ib ≤ n3 ∧ i = .int .i64 ib ∧ a = .int .i64 ((S0 + sumB ((lensF f).take ib) : Nat) : Int) ∧ ShC wa gc g f.blocks CX (.slice S4 n1 sc4) n1 wr) (fun _ i _ => n3 - (intOf i).toNat)
        case atStart => exact ⟨0, by omega, rfl, rfl, HSh0.out⟩
        case round =>
          obtain ⟨ib, hib, rfl, rfl, hsh⟩ := hrel
          have HS := Lib.hid hsh
          clear hsh HSh0
          have hx := HS.out.2.1
          rw [HCX.out] at hx
          have y5 : wr.cell? ⟨gc, 5, none⟩ = some (.slice (some ⟨g, 0, none⟩) n3 cc) := blk_cell hx rfl
          have hgcw := blk_lt hx
          clear hx
          by_cases hltb : ib < n3
          · have hlb : ib < f.blocks.length := by rw [← HN3.out]; exact hltb
            obtain ⟨b, hb⟩ : ∃ b, f.blocks[ib]? = some b := ⟨_, List.getElem?_eq_getElem hlb⟩
            have HBk := Lib.hid hb
            have HT2 := Lib.hid (sumB_take (lensF f) ib _ (HLs.out ib b hb))
            have hle2 := sumB_le (lensF f) (ib + 1)
            rw [HT2.out] at hle2
            obtain ⟨cur, hgB, hg, hsz, h4⟩ := HS.out.2.2.1
            obtain ⟨vi, f1, VA, ci, rfl, hic, hcm, _⟩ := h4 ib b hb
            obtain ⟨m, hm⟩ : ∃ m, m = b.ins.length := ⟨_, rfl⟩
            rw [← hm] at hle2 HT2 f1 hic
            have HM := Lib.hid hm
            have y0 : wr.cell? ⟨g, ib * 9, none⟩ = some (.slice VA m ci) := blk_cell hg f1
            have hgl2 := blk_lt hg
            have hsz2 : ib * 9 + 9 ≤ cur.size := by omega
            have HG := Lib.hid hg
            have HF1 := Lib.hid f1
            have HgB := Lib.hid hgB
            have hml : m ≤ 100000000 := by omega
            have hs9 : ((S0 + sumB ((lensF f).take ib) : Nat) : Int) ≤ 100000000 := by omega
            have hs8 : (0 : Int) ≤ ((S0 + sumB ((lensF f).take ib) : Nat) : Int) := by omega
            obtain ⟨X, hX⟩ : ∃ X : Int, X = ((S0 + sumB ((lensF f).take ib) : Nat) : Int) := ⟨_, rfl⟩
            rw [← hX] at hs9 hs8 ⊢
            have HX := Lib.hid (show X + ((m : Int) + 1) = ((S0 + sumB ((lensF f).take (ib + 1)) : Nat) : Int) by rw [hX, HT2.out]; omega)
            clear hg f1 hsz h4 hlb hb hm hX hgB hle2 HT2 hcm
            go_upto_region 17 with (fail)
            refine upto_begin 7 (fun w' => w'.cell? ⟨gc, 5, none⟩ = some (.slice (some ⟨g, 0, none⟩) n3 cc)) (by kernel_rfl) ?_ (fun hU0 => ?_)
            · exact y5
            first | refine upto_run 0 (v := ?_) hU0 (by kernel_rfl) rfl (by kernel_rfl) (by kernel_rfl) (by kernel_rfl) (by kernel_rfl) (fun _ _ _ h => h) (Or.inl ⟨by rfl, ?_⟩) ?_ | fail
            rotate_left
            · first | (intro w _; go_simp; with_reducible rfl) | (intro w _; go_simp; done) | (intro w _; go_simp; rw [if_neg (by omega)]) | fail
            try simp only [Act.put, List.setIfInBounds_toArray, List.set_cons_zero, List.set_cons_succ]
            first | refine upto_read 1 (v := ?_) hU0 (by kernel_rfl) rfl (by kernel_rfl) (by kernel_rfl) (by kernel_rfl) (by kernel_rfl) (by kernel_rfl) (fun _ _ _ h => h) (Or.inl ⟨by rfl, ?_⟩) ?_ | fail
            rotate_left
            · first | (intro w hSw; (try dsimp only at hSw); go_simp; with_reducible rfl) | (intro w hSw; (try dsimp only at hSw); go_simp; done) | fail
            try simp only [Act.put, List.setIfInBounds_toArray, List.set_cons_zero, List.set_cons_succ]
            first | refine upto_run 2 (v := ?_) hU0 (by kernel_rfl) rfl (by kernel_rfl) (by kernel_rfl) (by kernel_rfl) (by kernel_rfl) (fun _ _ _ h => h) (Or.inl ⟨by rfl, ?_⟩) ?_ | fail
            rotate_left
            · first | (intro w _; go_simp; with_reducible rfl) | (intro w _; go_simp; done) | (intro w _; go_simp; rw [if_neg (by omega)]) | fail
            try simp only [Act.put, List.setIfInBounds_toArray, List.set_cons_zero, List.set_cons_succ]
            first | refine upto_next 3 rfl (by kernel_rfl) (fun K hK => ?_) | fail
            go_simp
            go_at_call 8
            refine (n_any _ 99 ⟨by decide, by decide⟩).mono ?_
            rintro e wN ⟨rfl, hbn⟩
            have hbN : Below wr.heap.size wr wN := ⟨hbn.os, hbn.tape, hbn.output, hbn.size, hbn.block⟩
            clear hbn
            try go_simp
            first | refine hK.out _ _ ?_ (fun hU1 => ?_) | (go_wp2_with fail; refine hK.out _ _ ?_ (fun hU1 => ?_)) | fail
            · exact Or.inr (later y5 hbN)
            clear hK K
            clear hU0
            try simp only [Act.put, List.setIfInBounds_toArray, List.set_cons_zero, List.set_cons_succ]
            first | refine upto_run 4 (v := ?_) hU1 (by kernel_rfl) rfl (by kernel_rfl) (by kernel_rfl) (by kernel_rfl) (by kernel_rfl) (fun _ _ _ h => h) (Or.inl ⟨by rfl, ?_⟩) ?_ | fail
            rotate_left
            · first | (intro w _; go_simp; with_reducible rfl) | (intro w _; go_simp; done) | (intro w _; go_simp; rw [if_neg (by omega)]) | fail
            try simp only [Act.put, List.setIfInBounds_toArray, List.set_cons_zero, List.set_cons_succ]
            first | refine upto_run 5 (v := ?_) hU1 (by kernel_rfl) rfl (by kernel_rfl) (by kernel_rfl) (by kernel_rfl) (by kernel_rfl) (fun _ _ _ h => h) (Or.inl ⟨by rfl, ?_⟩) ?_ | fail
            rotate_left
            · first | (intro w _; go_simp; with_reducible rfl) | (intro w _; go_simp; done) | (intro w _; go_simp; rw [if_neg (by omega)]) | fail
            try simp only [Act.put, List.setIfInBounds_toArray, List.set_cons_zero, List.set_cons_succ]
            first | refine upto_run 6 (v := ?_) hU1 (by kernel_rfl) rfl (by kernel_rfl) (by kernel_rfl) (by kernel_rfl) (by kernel_rfl) (fun _ _ _ h => h) (Or.inl ⟨by rfl, ?_⟩) ?_ | fail
            rotate_left
            · first | (intro w _; go_simp; with_reducible rfl) | (intro w _; go_simp; done) | (intro w _; go_simp; rw [if_neg (by omega)]) | fail
            try simp only [Act.put, List.setIfInBounds_toArray, List.set_cons_zero, List.set_cons_succ]
            first | refine upto_next 7 rfl (by kernel_rfl) (fun K hK => ?_) | fail
            refine step_store_at rfl 39 (.tmp 57) (.tmp 55) rfl g (ib * 9 + 1) rfl rfl (blk_below HG.out hbN) (by simp; omega) (by kernel_rfl) (by kernel_rfl) ?_
            intro wS curS uS kS1 kS2
            try go_simp
            first | refine hK.out _ _ ?_ (fun hU2 => ?_) | (go_wp2_with fail; refine hK.out _ _ ?_ (fun hU2 => ?_)) | fail
            · exact Or.inl (by kernel_rfl)
            clear hK K
            clear hU1
            try simp only [Act.put, List.setIfInBounds_toArray, List.set_cons_zero, List.set_cons_succ]
            refine upto_done (by kernel_rfl) ?_ _
            have HS17 := Lib.hid ((HS.out.later hbN).upd uS HgB.out (by decide) (by decide) (fun e => absurd e (by decide)) (fun _ j => kS2 (j * 9) (by simp; omega)))
            have z0 : wS.cell? ⟨g, ib * 9, none⟩ = some (.slice VA m ci) := blk_cell uS.2.1 ((kS2 (ib * 9) (by simp)).trans HF1.out)
            have hx := HS17.out.2.1
            rw [HCX.out] at hx
            have z5 : wS.cell? ⟨gc, 5, none⟩ = some (.slice (some ⟨g, 0, none⟩) n3 cc) := blk_cell hx rfl
            have hgcS := blk_lt hx
            have hgS := blk_lt uS.2.1
            clear hx uS kS1 kS2 hbN y0 y5 HG HF1 hgl2 hgcw
            go_wp2_with fail
            go_loopw [65] (fun i wr => ∃ iq : Nat, iq ≤ m ∧ i = .int .i64 iq ∧ ShC wa gc g f.blocks CX (.slice S4 n1 sc4) n1 wr ∧ wr.cell? ⟨g, ib * 9, none⟩ = some (.slice VA m ci)) (fun i _ => m - (intOf i).toNat)
            case atStart => exact ⟨0, by omega, rfl, HS17.out, z0⟩
            case round =>
              obtain ⟨iq, hiq, rfl, hsh, hy0⟩ := hrel
              have HSq := Lib.hid hsh
              have HY0 := Lib.hid hy0
              have y0 := hy0
              clear hsh hy0 HS HS17 z0 z5 hgcS hgS
              have hx := HSq.out.2.1
              rw [HCX.out] at hx
              have y5 : wr.cell? ⟨gc, 5, none⟩ = some (.slice (some ⟨g, 0, none⟩) n3 cc) := blk_cell hx rfl
              have hgcw := blk_lt hx
              have hgl2 := World.block_lt_of_cell? _ _ y0
              clear hx
              by_cases hltq : iq < m
              · have hqi := HSq.out.ins HBk.out HY0.out
                obtain ⟨_, _, hA, _, _, h4⟩ := id hqi
                simp only [Value.slice.injEq] at hA
                obtain ⟨rfl, hml2, rfl⟩ := hA
                rcases h4 with h4 | ⟨gi, curi, rfl, hgi1, hgi2, hgi3, h4⟩
                · omega
                · obtain ⟨va, f1, XA, nq, xc, rfl, hqc, hxm, _⟩ := h4 iq (by rw [← HM.out]; exact hltq)
                  have y1 : wr.cell? ⟨gi, iq * 12 + 11, none⟩ = some (.slice XA nq xc) := blk_cell hgi2 f1
                  have hgil := blk_lt hgi2
                  unfold maxLen at hxm
                  have hnq : nq ≤ 9223372036854775807 := by omega
                  have HGi1 := Lib.hid hgi1
                  have hmsz : m * 12 ≤ curi.size := by rw [HM.out]; exact hgi3
                  clear h4 f1 hml2 hqi hxm hgi1 hgi3 hgi2 hmsz
                  go_wp2_with fail
                  go_loopw [79] (fun i wr => ∃ ir : Nat, ir ≤ nq ∧ i = .int .i64 ir ∧ ShC wa gc g f.blocks CX (.slice S4 n1 sc4) n1 wr ∧ wr.cell? ⟨g, ib * 9, none⟩ = some (.slice (some ⟨gi, 0, none⟩) m ci) ∧ wr.cell? ⟨gi, iq * 12 + 11, none⟩ = some (.slice XA nq xc)) (fun i _ => nq - (intOf i).toNat)
                  case atStart => exact ⟨0, by omega, rfl, HSq.out, HY0.out, y1⟩
                  case round =>
                    obtain ⟨ir, hir, rfl, hsh, hy0, hy1⟩ := hrel
                    have HSr := Lib.hid hsh
                    have HY0 := Lib.hid hy0
                    have HY1 := Lib.hid hy1
                    have y0 := hy0
                    have y1 := hy1
                    clear hsh hy0 hy1 HSq
                    have hx := HSr.out.2.1
                    rw [HCX.out] at hx
                    have y5 : wr.cell? ⟨gc, 5, none⟩ = some (.slice (some ⟨g, 0, none⟩) n3 cc) := blk_cell hx rfl
                    have hgcw := blk_lt hx
                    have hgl2 := World.block_lt_of_cell? _ _ y0
                    have hgl3 := World.block_lt_of_cell? _ _ y1
                    clear hx
                    by_cases hltr : ir < nq
                    · have hqi := HSr.out.ins HBk.out HY0.out
                      have hqa := hqi.args (show iq < b.ins.length by rw [← HM.out]; exact hltq) HY1.out
                      obtain ⟨_, _, _, hA, _, _, h4⟩ := id hqa
                      simp only [Value.slice.injEq] at hA
                      obtain ⟨rfl, rfl, rfl⟩ := hA
                      rcases h4 with h4 | ⟨ga, cura, rfl, hga1, hga2, hga3⟩
                      · omega
                      · have HGa := Lib.hid hga2
                        have HGa1 := Lib.hid hga1
                        have hasz : ir * 2 + 2 ≤ cura.size := by omega
                        have hal2 := blk_lt hga2
                        clear hqi hqa hga2 hga1 hga3
                        go_upto_region 24 with (fail)
                        refine upto_begin 13 (fun w' => w'.cell? ⟨gc, 5, none⟩ = some (.slice (some ⟨g, 0, none⟩) n3 cc) ∧ w'.cell? ⟨g, ib * 9, none⟩ = some (.slice (some ⟨gi, 0, none⟩) m ci) ∧ w'.cell? ⟨gi, iq * 12 + 11, none⟩ = some (.slice (some ⟨ga, 0, none⟩) nq xc)) (by kernel_rfl) ?_ (fun hU0 => ?_)
                        · exact ⟨y5, y0, y1⟩
                        first | refine upto_run 0 (v := ?_) hU0 (by kernel_rfl) rfl (by kernel_rfl) (by kernel_rfl) (by kernel_rfl) (by kernel_rfl) (fun _ _ _ h => h) (Or.inl ⟨by rfl, ?_⟩) ?_ | fail
                        rotate_left
                        · first | (intro w _; go_simp; with_reducible rfl) | (intro w _; go_simp; done) | (intro w _; go_simp; rw [if_neg (by omega)]) | fail
                        try simp only [Act.put, List.setIfInBounds_toArray, List.set_cons_zero, List.set_cons_succ]
                        first | refine upto_read 1 (v := ?_) hU0 (by kernel_rfl) rfl (by kernel_rfl) (by kernel_rfl) (by kernel_rfl) (by kernel_rfl) (by kernel_rfl) (fun _ _ _ h => h) (Or.inl ⟨by rfl, ?_⟩) ?_ | fail
                        rotate_left
                        · first | (intro w hSw; (try dsimp only at hSw); go_simp; with_reducible rfl) | (intro w hSw; (try dsimp only at hSw); go_simp; done) | fail
                        try simp only [Act.put, List.setIfInBounds_toArray, List.set_cons_zero, List.set_cons_succ]
                        first | refine upto_run 2 (v := ?_) hU0 (by kernel_rfl) rfl (by kernel_rfl) (by kernel_rfl) (by kernel_rfl) (by kernel_rfl) (fun _ _ _ h => h) (Or.inl ⟨by rfl, ?_⟩) ?_ | fail
                        rotate_left
                        · first | (intro w _; go_simp; with_reducible rfl) | (intro w _; go_simp; done) | (intro w _; go_simp; rw [if_neg (by omega)]) | fail
                        try simp only [Act.put, List.setIfInBounds_toArray, List.set_cons_zero, List.set_cons_succ]
                        first | refine upto_run 3 (v := ?_) hU0 (by kernel_rfl) rfl (by kernel_rfl) (by kernel_rfl) (by kernel_rfl) (by kernel_rfl) (fun _ _ _ h => h) (Or.inl ⟨by rfl, ?_⟩) ?_ | fail
                        rotate_left
                        · first | (intro w _; go_simp; with_reducible rfl) | (intro w _; go_simp; done) | (intro w _; go_simp; rw [if_neg (by omega)]) | fail
                        try simp only [Act.put, List.setIfInBounds_toArray, List.set_cons_zero, List.set_cons_succ]
                        first | refine upto_run 4 (v := ?_) hU0 (by kernel_rfl) rfl (by kernel_rfl) (by kernel_rfl) (by kernel_rfl) (by kernel_rfl) (fun _ _ _ h => h) (Or.inl ⟨by rfl, ?_⟩) ?_ | fail
                        rotate_left
                        · first | (intro w _; go_simp; with_reducible rfl) | (intro w _; go_simp; done) | (intro w _; go_simp; rw [if_neg (by omega)]) | fail
                        try simp only [Act.put, List.setIfInBounds_toArray, List.set_cons_zero, List.set_cons_succ]
                        first | refine upto_read 5 (v := ?_) hU0 (by kernel_rfl) rfl (by kernel_rfl) (by kernel_rfl) (by kernel_rfl) (by kernel_rfl) (by kernel_rfl) (fun _ _ _ h => h) (Or.inl ⟨by rfl, ?_⟩) ?_ | fail
                        rotate_left
                        · first | (intro w hSw; (try dsimp only at hSw); go_simp; with_reducible rfl) | (intro w hSw; (try dsimp only at hSw); go_simp; done) | fail
                        try simp only [Act.put, List.setIfInBounds_toArray, List.set_cons_zero, List.set_cons_succ]
                        first | refine upto_run 6 (v := ?_) hU0 (by kernel_rfl) rfl (by kernel_rfl) (by kernel_rfl) (by kernel_rfl) (by kernel_rfl) (fun _ _ _ h => h) (Or.inl ⟨by rfl, ?_⟩) ?_ | fail
                        rotate_left
                        · first | (intro w _; go_simp; with_reducible rfl) | (intro w _; go_simp; done) | (intro w _; go_simp; rw [if_neg (by omega)]) | fail
                        try simp only [Act.put, List.setIfInBounds_toArray, List.set_cons_zero, List.set_cons_succ]
                        first | refine upto_run 7 (v := ?_) hU0 (by kernel_rfl) rfl (by kernel_rfl) (by kernel_rfl) (by kernel_rfl) (by kernel_rfl) (fun _ _ _ h => h) (Or.inl ⟨by rfl, ?_⟩) ?_ | fail
                        rotate_left
                        · first | (intro w _; go_simp; with_reducible rfl) | (intro w _; go_simp; done) | (intro w _; go_simp; rw [if_neg (by omega)]) | fail
                        try simp only [Act.put, List.setIfInBounds_toArray, List.set_cons_zero, List.set_cons_succ]
                        first | refine upto_run 8 (v := ?_) hU0 (by kernel_rfl) rfl (by kernel_rfl) (by kernel_rfl) (by kernel_rfl) (by kernel_rfl) (fun _ _ _ h => h) (Or.inl ⟨by rfl, ?_⟩) ?_ | fail
                        rotate_left
                        · first | (intro w _; go_simp; with_reducible rfl) | (intro w _; go_simp; done) | (intro w _; go_simp; rw [if_neg (by omega)]) | fail
                        try simp only [Act.put, List.setIfInBounds_toArray, List.set_cons_zero, List.set_cons_succ]
                        first | refine upto_read 9 (v := ?_) hU0 (by kernel_rfl) rfl (by kernel_rfl) (by kernel_rfl) (by kernel_rfl) (by kernel_rfl) (by kernel_rfl) (fun _ _ _ h => h) (Or.inl ⟨by rfl, ?_⟩) ?_ | fail
                        rotate_left
                        · first | (intro w hSw; (try dsimp only at hSw); go_simp; with_reducible rfl) | (intro w hSw; (try dsimp only at hSw); go_simp; done) | fail
                        try simp only [Act.put, List.setIfInBounds_toArray, List.set_cons_zero, List.set_cons_succ]
                        first | refine upto_run 10 (v := ?_) hU0 (by kernel_rfl) rfl (by kernel_rfl) (by kernel_rfl) (by kernel_rfl) (by kernel_rfl) (fun _ _ _ h => h) (Or.inl ⟨by rfl, ?_⟩) ?_ | fail
                        rotate_left
                        · first | (intro w _; go_simp; with_reducible rfl) | (intro w _; go_simp; done) | (intro w _; go_simp; rw [if_neg (by omega)]) | fail
                        try simp only [Act.put, List.setIfInBounds_toArray, List.set_cons_zero, List.set_cons_succ]
                        first | refine upto_next 11 rfl (by kernel_rfl) (fun K hK => ?_) | fail
                        go_simp
                        go_at_call 8
                        refine (n_any _ 98 ⟨by decide, by decide⟩).mono ?_
                        rintro e wN ⟨rfl, hbn⟩
                        have hbN : Below wr.heap.size wr wN := ⟨hbn.os, hbn.tape, hbn.output, hbn.size, hbn.block⟩
                        clear hbn
                        try go_simp
                        first | refine hK.out _ _ ?_ (fun hU1 => ?_) | (go_wp2_with fail; refine hK.out _ _ ?_ (fun hU1 => ?_)) | fail
                        · exact Or.inr ⟨later y5 hbN, later y0 hbN, later y1 hbN⟩
                        clear hK K
                        clear hU0
                        try simp only [Act.put, List.setIfInBounds_toArray, List.set_cons_zero, List.set_cons_succ]
                        first | refine upto_run 12 (v := ?_) hU1 (by kernel_rfl) rfl (by kernel_rfl) (by kernel_rfl) (by kernel_rfl) (by kernel_rfl) (fun _ _ _ h => h) (Or.inl ⟨by rfl, ?_⟩) ?_ | fail
                        rotate_left
                        · first | (intro w _; go_simp; with_reducible rfl) | (intro w _; go_simp; done) | (intro w _; go_simp; rw [if_neg (by omega)]) | fail
                        try simp only [Act.put, List.setIfInBounds_toArray, List.set_cons_zero, List.set_cons_succ]
                        first | refine upto_next 13 rfl (by kernel_rfl) (fun K hK => ?_) | fail
                        refine step_store_at rfl 37 (.tmp 94) (.tmp 93) rfl ga (ir * 2) rfl rfl (blk_below HGa.out hbN) (by simp; omega) (by kernel_rfl) (by kernel_rfl) ?_
                        intro wS curS uS kS1 kS2
                        try go_simp
                        first | refine hK.out _ _ ?_ (fun hU2 => ?_) | (go_wp2_with fail; refine hK.out _ _ ?_ (fun hU2 => ?_)) | fail
                        · exact Or.inl (by kernel_rfl)
                        clear hK K
                        clear hU1
                        try simp only [Act.put, List.setIfInBounds_toArray, List.set_cons_zero, List.set_cons_succ]
                        refine upto_done (by kernel_rfl) ?_ _
                        have HS24 := Lib.hid ((HSr.out.later hbN).upd uS HGa1.out (by decide) (by decide) (fun e => absurd e (by decide)) (fun e => absurd e (by decide)))
                        have z0 : wS.cell? ⟨g, ib * 9, none⟩ = some (.slice (some ⟨gi, 0, none⟩) m ci) := by
                          obtain ⟨cu, _, h2, _, h4⟩ := (HSr.out.later hbN).2.2.1
                          obtain ⟨vx, h5, _⟩ := h4 ib b HBk.out
                          have h6 := blk_cell h2 h5
                          rw [later HY0.out hbN] at h6
                          exact blk_cell (uS.blk h2 (by decide)) (h5.trans h6.symm)
                        have z1 : wS.cell? ⟨gi, iq * 12 + 11, none⟩ = some (.slice (some ⟨ga, 0, none⟩) nq xc) := by
                          have hne : gi ≠ ga := fun e => by
                            obtain ⟨_, _, hA, _, _, h4⟩ := HSr.out.ins HBk.out HY0.out
                            simp only [Value.slice.injEq] at hA
                            rcases h4 with h4 | ⟨gi2, curi, hA4, _, hgi2, _⟩
                            · omega
                            · rw [hA4] at hA
                              have e2 : gi = gi2 := by simpa using hA.1
                              rw [← e2, e, HGa.out] at hgi2
                              simp only [Option.some.injEq, Obj.cells.injEq] at hgi2
                              exact absurd hgi2.2.1 (by decide)
                          exact uS.2.2.2.cell (later HY1.out hbN) (by simpa using hne)
                        have Z0 := Lib.hid z0
                        have Z1 := Lib.hid z1
                        clear uS kS1 kS2 hbN y0 y1 y5 z0 z1
                        go_wp2_with fail
                        have hltr := hltr
                        go_roundw
                        case rel => exact ⟨ir + 1, by omega, by go_num, HS24.out, Z0.out, Z1.out⟩
                        case measure => simp [intOf]; omega
                    · have e : ir = nq := by omega
                      subst e
                      have hqi := HSr.out.ins HBk.out HY0.out
                      obtain ⟨_, _, hA, _, _, h4⟩ := id hqi
                      simp only [Value.slice.injEq] at hA
                      obtain ⟨hA1, hA2, hA3⟩ := hA
                      rcases h4 with h4 | ⟨gi2, curi, hA4, hgi1, hgi2, hgi3, h4⟩
                      · omega
                      · rw [hA4] at hA1
                        obtain rfl : gi = gi2 := by simpa using hA1
                        have HGi := Lib.hid hgi2
                        have hisz : iq * 12 + 12 ≤ curi.size := by omega
                        clear hqi hA1 hA2 hA3 hA4 h4 hgi1 hgi2 hgi3 y1
                        go_upto_region 26 with (fail)
                        refine upto_begin 10 (fun w' => w'.cell? ⟨gc, 5, none⟩ = some (.slice (some ⟨g, 0, none⟩) n3 cc) ∧ w'.cell? ⟨g, ib * 9, none⟩ = some (.slice (some ⟨gi, 0, none⟩) m ci)) (by kernel_rfl) ?_ (fun hU0 => ?_)
                        · exact ⟨y5, y0⟩
                        first | refine upto_run 0 (v := ?_) hU0 (by kernel_rfl) rfl (by kernel_rfl) (by kernel_rfl) (by kernel_rfl) (by kernel_rfl) (fun _ _ _ h => h) (Or.inl ⟨by rfl, ?_⟩) ?_ | fail
                        rotate_left
                        · first | (intro w _; go_simp; with_reducible rfl) | (intro w _; go_simp; done) | (intro w _; go_simp; rw [if_neg (by omega)]) | fail
                        try simp only [Act.put, List.setIfInBounds_toArray, List.set_cons_zero, List.set_cons_succ]
                        first | refine upto_read 1 (v := ?_) hU0 (by kernel_rfl) rfl (by kernel_rfl) (by kernel_rfl) (by kernel_rfl) (by kernel_rfl) (by kernel_rfl) (fun _ _ _ h => h) (Or.inl ⟨by rfl, ?_⟩) ?_ | fail
                        rotate_left
                        · first | (intro w hSw; (try dsimp only at hSw); go_simp; with_reducible rfl) | (intro w hSw; (try dsimp only at hSw); go_simp; done) | fail
                        try simp only [Act.put, List.setIfInBounds_toArray, List.set_cons_zero, List.set_cons_succ]
                        first | refine upto_run 2 (v := ?_) hU0 (by kernel_rfl) rfl (by kernel_rfl) (by kernel_rfl) (by kernel_rfl) (by kernel_rfl) (fun _ _ _ h => h) (Or.inl ⟨by rfl, ?_⟩) ?_ | fail
                        rotate_left
                        · first | (intro w _; go_simp; with_reducible rfl) | (intro w _; go_simp; done) | (intro w _; go_simp; rw [if_neg (by omega)]) | fail
                        try simp only [Act.put, List.setIfInBounds_toArray, List.set_cons_zero, List.set_cons_succ]
                        first | refine upto_run 3 (v := ?_) hU0 (by kernel_rfl) rfl (by kernel_rfl) (by kernel_rfl) (by kernel_rfl) (by kernel_rfl) (fun _ _ _ h => h) (Or.inl ⟨by rfl, ?_⟩) ?_ | fail
                        rotate_left
                        · first | (intro w _; go_simp; with_reducible rfl) | (intro w _; go_simp; done) | (intro w _; go_simp; rw [if_neg (by omega)]) | fail
                        try simp only [Act.put, List.setIfInBounds_toArray, List.set_cons_zero, List.set_cons_succ]
                        first | refine upto_run 4 (v := ?_) hU0 (by kernel_rfl) rfl (by kernel_rfl) (by kernel_rfl) (by kernel_rfl) (by kernel_rfl) (fun _ _ _ h => h) (Or.inl ⟨by rfl, ?_⟩) ?_ | fail
                        rotate_left
                        · first | (intro w _; go_simp; with_reducible rfl) | (intro w _; go_simp; done) | (intro w _; go_simp; rw [if_neg (by omega)]) | fail
                        try simp only [Act.put, List.setIfInBounds_toArray, List.set_cons_zero, List.set_cons_succ]
                        first | refine upto_read 5 (v := ?_) hU0 (by kernel_rfl) rfl (by kernel_rfl) (by kernel_rfl) (by kernel_rfl) (by kernel_rfl) (by kernel_rfl) (fun _ _ _ h => h) (Or.inl ⟨by rfl, ?_⟩) ?_ | fail
                        rotate_left
                        · first | (intro w hSw; (try dsimp only at hSw); go_simp; with_reducible rfl) | (intro w hSw; (try dsimp only at hSw); go_simp; done) | fail
                        try simp only [Act.put, List.setIfInBounds_toArray, List.set_cons_zero, List.set_cons_succ]
                        first | refine upto_run 6 (v := ?_) hU0 (by kernel_rfl) rfl (by kernel_rfl) (by kernel_rfl) (by kernel_rfl) (by kernel_rfl) (fun _ _ _ h => h) (Or.inl ⟨by rfl, ?_⟩) ?_ | fail
                        rotate_left
                        · first | (intro w _; go_simp; with_reducible rfl) | (intro w _; go_simp; done) | (intro w _; go_simp; rw [if_neg (by omega)]) | fail
                        try simp only [Act.put, List.setIfInBounds_toArray, List.set_cons_zero, List.set_cons_succ]
                        first | refine upto_next 7 rfl (by kernel_rfl) (fun K hK => ?_) | fail
                        go_simp
                        go_at_call 8
                        refine (n_any _ 97 ⟨by decide, by decide⟩).mono ?_
                        rintro e wN ⟨rfl, hbn⟩
                        have hbN : Below wr.heap.size wr wN := ⟨hbn.os, hbn.tape, hbn.output, hbn.size, hbn.block⟩
                        clear hbn
                        try go_simp
                        first | refine hK.out _ _ ?_ (fun hU1 => ?_) | (go_wp2_with fail; refine hK.out _ _ ?_ (fun hU1 => ?_)) | fail
                        · exact Or.inr ⟨later y5 hbN, later y0 hbN⟩
                        clear hK K
                        clear hU0
                        try simp only [Act.put, List.setIfInBounds_toArray, List.set_cons_zero, List.set_cons_succ]
                        first | refine upto_run 8 (v := ?_) hU1 (by kernel_rfl) rfl (by kernel_rfl) (by kernel_rfl) (by kernel_rfl) (by kernel_rfl) (fun _ _ _ h => h) (Or.inl ⟨by rfl, ?_⟩) ?_ | fail
                        rotate_left
                        · first | (intro w _; go_simp; with_reducible rfl) | (intro w _; go_simp; done) | (intro w _; go_simp; rw [if_neg (by omega)]) | fail
                        try simp only [Act.put, List.setIfInBounds_toArray, List.set_cons_zero, List.set_cons_succ]
                        first | refine upto_run 9 (v := ?_) hU1 (by kernel_rfl) rfl (by kernel_rfl) (by kernel_rfl) (by kernel_rfl) (by kernel_rfl) (fun _ _ _ h => h) (Or.inl ⟨by rfl, ?_⟩) ?_ | fail
                        rotate_left
                        · first | (intro w _; go_simp; with_reducible rfl) | (intro w _; go_simp; done) | (intro w _; go_simp; rw [if_neg (by omega)]) | fail
                        try simp only [Act.put, List.setIfInBounds_toArray, List.set_cons_zero, List.set_cons_succ]
                        first | refine upto_next 10 rfl (by kernel_rfl) (fun K hK => ?_) | fail
                        refine step_store_at rfl 45 (.tmp 105) (.tmp 104) rfl gi (iq * 12) rfl rfl (blk_below HGi.out hbN) (by simp; omega) (by kernel_rfl) (by kernel_rfl) ?_
                        intro wS curS uS kS1 kS2
                        try go_simp
                        first | refine hK.out _ _ ?_ (fun hU2 => ?_) | (go_wp2_with fail; refine hK.out _ _ ?_ (fun hU2 => ?_)) | fail
                        · exact Or.inl (by kernel_rfl)
                        clear hK K
                        clear hU1
                        try simp only [Act.put, List.setIfInBounds_toArray, List.set_cons_zero, List.set_cons_succ]
                        refine upto_done (by kernel_rfl) ?_ _
                        have HS26 := Lib.hid ((HSr.out.later hbN).upd uS HGi1.out (by decide) (by decide) (fun _ kk => by
                          by_cases e : kk = iq
                          · subst e
                            exact Or.inr (kS1 11 (by decide))
                          · exact Or.inl (kS2 _ (by simp; omega))) (fun e => absurd e (by decide)))
                        have z0 : wS.cell? ⟨g, ib * 9, none⟩ = some (.slice (some ⟨gi, 0, none⟩) m ci) := by
                          obtain ⟨cu, _, h2, _, h4⟩ := (HSr.out.later hbN).2.2.1
                          obtain ⟨vx, h5, _⟩ := h4 ib b HBk.out
                          have h6 := blk_cell h2 h5
                          rw [later HY0.out hbN] at h6
                          exact blk_cell (uS.blk h2 (by decide)) (h5.trans h6.symm)
                        have Z0 := Lib.hid z0
                        clear uS kS1 kS2 hbN y0 y5 z0
                        go_wp2_with fail
                        have hltq := hltq
                        go_roundw
                        case rel => exact ⟨iq + 1, by omega, by go_num, HS26.out, Z0.out⟩
                        case measure => simp [intOf]; omega
              · have e : iq = m := by omega
                subst e
                have hn32 : n3 ≤ 2000 := by rw [HN3.out]; exact HOf.out.1.2.1
                go_wp2_with fail
                have hltb := hltb
                go_roundw
                case rel => exact ⟨ib + 1, by omega, by go_num, by rw [HX.out], HSq.out⟩
                case measure => simp [intOf]; omega
          · have e : ib = n3 := by omega
            subst e
            obtain ⟨XS, hXS⟩ : ∃ XS : Int, XS = ((S0 + sumB ((lensF f).take ib) : Nat) : Int) := ⟨_, rfl⟩
            rw [← hXS]
            have HSx := Lib.hid (show XS = ((sumF ((p.funcs.map lensF).take (k + 1)) : Nat) : Int) by rw [hXS]; congr 1; rw [HSS.out, List.take_of_length_le (by rw [lensF, List.length_map, HN3.out]; exact Nat.le_refl _)])
            clear hXS
            have hn1b : n1 ≤ 1000 := by rw [HN1.out]; exact HOf.out.2.1
            have hx := HS.out.2.1
            rw [HCX.out] at hx
            have y2 : wr.cell? ⟨gc, 2, none⟩ = some (.slice S4 n1 sc4) := blk_cell hx rfl
            clear hx y5
            go_wp2_with fail
            go_loopw [111] (fun i wr => ∃ ir : Nat, ir ≤ n1 ∧ i = .int .i64 ir ∧ ShC wa gc g f.blocks CX (.slice S4 n1 sc4) n1 wr) (fun i _ => n1 - (intOf i).toNat)
            case atStart => exact ⟨0, by omega, rfl, HS.out⟩
            case round =>
              obtain ⟨ir, hir, rfl, hsh⟩ := hrel
              have HSs := Lib.hid hsh
              clear hsh HS y2
              have hx := HSs.out.2.1
              rw [HCX.out] at hx
              have y2 : wr.cell? ⟨gc, 2, none⟩ = some (.slice S4 n1 sc4) := blk_cell hx rfl
              have hgcw := blk_lt hx
              clear hx
              by_cases hltr : ir < n1
              · obtain ⟨bl2, hob⟩ := HSs.out.2.2.2
                rcases own_cells hob with ⟨e, e0⟩ | ⟨gs, caps, curs, e, q1, q2, q3, q4, q5, q6⟩
                · omega
                · simp only [Value.slice.injEq] at e
                  obtain ⟨rfl, _, rfl⟩ := e
                  have hbl := hob.1
                  rw [List.length_map] at hbl
                  obtain ⟨x, hx⟩ : ∃ x, bl2[ir]? = some x := ⟨_, List.getElem?_eq_getElem (by omega)⟩
                  have y3 : wr.cell? ⟨gs, ir, none⟩ = some (.bool x) := blk_cell q2 (by rw [q6 ir (by omega), List.getElem?_map, hx]; rfl)
                  have y3f := blk_free (i := ir) q2
                  have hsl2 := blk_lt q2
                  have HSn := Lib.hid ((HSs.out.setB (j := ir) (!x)).later (Below.drew (Below.refl _ _)))
                  clear q1 q2 q5 q6 hob hx hbl
                  go_upto_region 32 with (fail)
                  refine upto_begin 10 (fun w' => w'.cell? ⟨gc, 2, none⟩ = some (.slice (some ⟨gs, 0, none⟩) n1 sc4) ∧ w'.cell? ⟨gs, ir, none⟩ = some (.bool x)) (by kernel_rfl) ?_ (fun hU0 => ?_)
                  · exact ⟨y2, y3⟩
                  first | refine upto_run 0 (v := ?_) hU0 (by kernel_rfl) rfl (by kernel_rfl) (by kernel_rfl) (by kernel_rfl) (by kernel_rfl) (fun _ _ _ h => h) (Or.inl ⟨by rfl, ?_⟩) ?_ | fail
                  rotate_left
                  · first | (intro w _; go_simp; with_reducible rfl) | (intro w _; go_simp; done) | (intro w _; go_simp; rw [if_neg (by omega)]) | fail
                  try simp only [Act.put, List.setIfInBounds_toArray, List.set_cons_zero, List.set_cons_succ]
                  first | refine upto_read 1 (v := ?_) hU0 (by kernel_rfl) rfl (by kernel_rfl) (by kernel_rfl) (by kernel_rfl) (by kernel_rfl) (by kernel_rfl) (fun _ _ _ h => h) (Or.inl ⟨by rfl, ?_⟩) ?_ | fail
                  rotate_left
                  · first | (intro w hSw; (try dsimp only at hSw); go_simp; with_reducible rfl) | (intro w hSw; (try dsimp only at hSw); go_simp; done) | fail
                  try simp only [Act.put, List.setIfInBounds_toArray, List.set_cons_zero, List.set_cons_succ]
                  first | refine upto_run 2 (v := ?_) hU0 (by kernel_rfl) rfl (by kernel_rfl) (by kernel_rfl) (by kernel_rfl) (by kernel_rfl) (fun _ _ _ h => h) (Or.inl ⟨by rfl, ?_⟩) ?_ | fail
                  rotate_left
                  · first | (intro w _; go_simp; with_reducible rfl) | (intro w _; go_simp; done) | (intro w _; go_simp; rw [if_neg (by omega)]) | fail
                  try simp only [Act.put, List.setIfInBounds_toArray, List.set_cons_zero, List.set_cons_succ]
                  first | refine upto_run 3 (v := ?_) hU0 (by kernel_rfl) rfl (by kernel_rfl) (by kernel_rfl) (by kernel_rfl) (by kernel_rfl) (fun _ _ _ h => h) (Or.inl ⟨by rfl, ?_⟩) ?_ | fail
                  rotate_left
                  · first | (intro w _; go_simp; with_reducible rfl) | (intro w _; go_simp; done) | (intro w _; go_simp; rw [if_neg (by omega)]) | fail
                  try simp only [Act.put, List.setIfInBounds_toArray, List.set_cons_zero, List.set_cons_succ]
                  first | refine upto_read 4 (v := ?_) hU0 (by kernel_rfl) rfl (by kernel_rfl) (by kernel_rfl) (by kernel_rfl) (by kernel_rfl) (by kernel_rfl) (fun _ _ _ h => h) (Or.inl ⟨by rfl, ?_⟩) ?_ | fail
                  rotate_left
                  · first | (intro w hSw; (try dsimp only at hSw); go_simp; with_reducible rfl) | (intro w hSw; (try dsimp only at hSw); go_simp; done) | fail
                  try simp only [Act.put, List.setIfInBounds_toArray, List.set_cons_zero, List.set_cons_succ]
                  first | refine upto_run 5 (v := ?_) hU0 (by kernel_rfl) rfl (by kernel_rfl) (by kernel_rfl) (by kernel_rfl) (by kernel_rfl) (fun _ _ _ h => h) (Or.inl ⟨by rfl, ?_⟩) ?_ | fail
                  rotate_left
                  · first | (intro w _; go_simp; with_reducible rfl) | (intro w _; go_simp; done) | (intro w _; go_simp; rw [if_neg (by omega)]) | fail
                  try simp only [Act.put, List.setIfInBounds_toArray, List.set_cons_zero, List.set_cons_succ]
                  first | refine upto_run 6 (v := ?_) hU0 (by kernel_rfl) rfl (by kernel_rfl) (by kernel_rfl) (by kernel_rfl) (by kernel_rfl) (fun _ _ _ h => h) (Or.inl ⟨by rfl, ?_⟩) ?_ | fail
                  rotate_left
                  · first | (intro w _; go_simp; with_reducible rfl) | (intro w _; go_simp; done) | (intro w _; go_simp; rw [if_neg (by omega)]) | fail
                  try simp only [Act.put, List.setIfInBounds_toArray, List.set_cons_zero, List.set_cons_succ]
                  first | refine upto_read 7 (v := ?_) hU0 (by kernel_rfl) rfl (by kernel_rfl) (by kernel_rfl) (by kernel_rfl) (by kernel_rfl) (by kernel_rfl) (fun _ _ _ h => h) (Or.inl ⟨by rfl, ?_⟩) ?_ | fail
                  rotate_left
                  · first | (intro w hSw; (try dsimp only at hSw); go_simp; with_reducible rfl) | (intro w hSw; (try dsimp only at hSw); go_simp; done) | fail
                  try simp only [Act.put, List.setIfInBounds_toArray, List.set_cons_zero, List.set_cons_succ]
                  first | refine upto_run 8 (v := ?_) hU0 (by kernel_rfl) rfl (by kernel_rfl) (by kernel_rfl) (by kernel_rfl) (by kernel_rfl) (fun _ _ _ h => h) (Or.inl ⟨by rfl, ?_⟩) ?_ | fail
                  rotate_left
                  · first | (intro w _; go_simp; with_reducible rfl) | (intro w _; go_simp; done) | (intro w _; go_simp; rw [if_neg (by omega)]) | fail
                  try simp only [Act.put, List.setIfInBounds_toArray, List.set_cons_zero, List.set_cons_succ]
                  first | refine upto_run 9 (v := ?_) hU0 (by kernel_rfl) rfl (by kernel_rfl) (by kernel_rfl) (by kernel_rfl) (by kernel_rfl) (fun _ _ _ h => h) (Or.inl ⟨by rfl, ?_⟩) ?_ | fail
                  rotate_left
                  · first | (intro w _; go_simp; with_reducible rfl) | (intro w _; go_simp; done) | (intro w _; go_simp; rw [if_neg (by omega)]) | fail
                  try simp only [Act.put, List.setIfInBounds_toArray, List.set_cons_zero, List.set_cons_succ]
                  first | refine upto_next 10 rfl (by kernel_rfl) (fun K hK => ?_) | fail
                  go_simp
                  first | refine hK.out _ _ ?_ (fun hU1 => ?_) | (go_wp2_with fail; refine hK.out _ _ ?_ (fun hU1 => ?_)) | fail
                  · exact Or.inl (by kernel_rfl)
                  clear hK K
                  clear hU0
                  try simp only [Act.put, List.setIfInBounds_toArray, List.set_cons_zero, List.set_cons_succ]
                  refine upto_done (by kernel_rfl) ?_ _
                  clear y2 y3 y3f
                  go_wp2_with fail
                  have hltr := hltr
                  go_roundw
                  case rel => exact ⟨ir + 1, by omega, by go_num, HSn.out⟩
                  case measure => simp [intOf]; omega
              · have e : ir = n1 := by omega
                subst e
                have hxa := blk_below HXa.out HSs.out.1
                have t0 : wr.cell? ⟨gf, 0, none⟩ = some (.string f.name) := blk_cell hxa rfl
                have t1 : wr.cell? ⟨gf, 1, none⟩ = some (.int .i64 f.params) := blk_cell hxa rfl
                have t2 : wr.cell? ⟨gf, 2, none⟩ = some (.slice SA ir sc) := blk_cell hxa rfl
                have t3 : wr.cell? ⟨gf, 3, none⟩ = some (.int .i64 f.regs) := blk_cell hxa rfl
                have t4 : wr.cell? ⟨gf, 4, none⟩ = some (.slice LA n2 lc) := blk_cell hxa rfl
                have t5 : wr.cell? ⟨gf, 5, none⟩ = some (.slice BA ib bc) := blk_cell hxa rfl
                have hglx := blk_lt hxa
                clear hxa y2
                go_wp2_with fail
                refine (HSh.out wr HSs.out.1).mono ?_
                rintro e w9 ⟨rfl, kb9⟩
                have HB9 := Lib.hid (below_over HBa.out (below_over HSs.out.1 kb9))
                clear kb9 t0 t1 t2 t3 t4 t5
                rw [HSx.out]
                go_wp2_with fail
                have hlt := hlt
                go_roundw
                case rel => exact ⟨k + 1, by omega, by go_num, rfl, HB9.out⟩
                case measure => simp [intOf]; omega
      · have e : k = nf := by omega
        subst e
        obtain ⟨SZ, hSZ⟩ : ∃ SZ : Int, SZ = ((sumF (p.funcs.map lensF) : Nat) : Int) := ⟨_, rfl⟩
        have hT : ((sumF ((p.funcs.map lensF).take k) : Nat) : Int) = SZ := by rw [hSZ, List.take_of_length_le (by rw [List.length_map, HNF.out]; exact Nat.le_refl _)]
        rw [hT]
        have HSZ := Lib.hid hSZ
        have HW := Lib.hid (below_over HB3.out HBr.out)
        have HFs := Lib.hid (show FsOk p.funcs from fun f hf => HFu.out f hf)
        have hfu := HIN.out.funcs
        rw [show (Value.slice A p.funcs.length cap) = Value.slice A k cap by rw [HNF.out]] at hfu
        have HEa := Lib.hid (each_any wr w HW.out w.heap.size p.funcs _ A2 ng cap2 p.data p.main (blk_below HX3.out HBr.out) hfu HFs.out (by rw [← HNF.out]; omega))
        have HFv := Lib.hid hfu
        clear hT hSZ hfu d0
        go_wp2_with fail
        refine HEa.out.mono ?_
        rintro e w8 ⟨gp, vq, css, vg2, dd, mm, rfl, hgp, hq, hb8⟩
        have HB8 := Lib.hid (below_over HBr.out hb8)
        have HGp := Lib.hid hgp
        have HQ := Lib.hid hq
        have HX8 := Lib.hid (blk_below HX3.out HB8.out)
        obtain ⟨QA', qc, rfl, _⟩ := own_slice hq.1
        rw [← HNF.out] at HGp
        have m0 : w8.cell? ⟨gp, 0, none⟩ = some (.slice QA' k qc) := blk_cell HGp.out rfl
        have hgpl := blk_lt hgp
        clear hgp hq hb8 HEa
        go_wp2_with fail
        go_loopw [136] (fun i wr => ∃ j : Nat, j ≤ k ∧ i = .int .i64 j ∧ Below w8.heap.size w8 wr) (fun i _ => k - (intOf i).toNat)
        case atStart => exact ⟨0, by omega, rfl, Below.refl _ _⟩
        case round =>
          obtain ⟨j, hj, rfl, hbj⟩ := hrel
          have HBj := Lib.hid hbj
          clear hbj
          by_cases hltj : j < k
          · have hlj : j < p.funcs.length := by rw [← HNF.out]; exact hltj
            obtain ⟨f, hfj⟩ : ∃ f, p.funcs[j]? = some f := ⟨_, List.getElem?_eq_getElem hlj⟩
            have hnm : f.name.size ≤ 1048576 := HNm.out f (List.mem_of_getElem? hfj)
            obtain ⟨_, _, hA, _, _, h4⟩ := HQ.out.slX.later (by decide) HBj.out
            simp only [Value.slice.injEq] at hA
            obtain ⟨rfl, hA2, rfl⟩ := hA
            obtain ⟨qb, qo, cs, rfl, e1, e2, B1, B2, b1, cc1, b2, cc2, gq, cq, e3, _⟩ := h4 j f hfj
            subst e3
            obtain ⟨XN, hXN⟩ : ∃ XN, XN = xB f.name := ⟨_, rfl⟩
            obtain ⟨n3, hn3⟩ : ∃ n, n = f.blocks.length := ⟨_, rfl⟩
            have q0 : wr.cell? ⟨qb, qo + j * 6, none⟩ = some (.string XN) := by rw [hXN]; exact e2 0 (by omega)
            have q1 := e2 1 (by omega)
            have q2 := e2 2 (by omega)
            have q3 := e2 3 (by omega)
            have q4 := e2 4 (by omega)
            have q5 := e2 5 (by omega)
            rw [← hn3] at q5
            have hb0 := World.block_lt_of_cell? _ _ q0
            have HXN := Lib.hid hXN
            obtain ⟨_, _, hA5, _, _, h5⟩ := HFv.out.later (by decide) (below_over HB3.out (below_over HB8.out HBj.out))
            simp only [Value.slice.injEq] at hA5
            obtain ⟨rfl, hA6, rfl⟩ := hA5
            obtain ⟨pb, po, cs2, rfl, g1, g2, _, _, _, g3, _⟩ := h5 j f hfj
            subst g3
            have p0 : wr.cell? ⟨pb, po + j * 6, none⟩ = some (.string f.name) := g2 0 (by omega)
            have p1 : wr.cell? ⟨w.heap.size, 0, none⟩ = some (.slice (some ⟨pb, po, none⟩) k cap) := blk_cell (blk_below HX8.out HBj.out) rfl
            obtain ⟨wa, hwa⟩ : ∃ wa, wa = wr.alloc (.cells #[.string XN, .int .i64 f.params, .slice B1 b1 cc1, .int .i64 f.regs, .slice B2 b2 cc2, .slice (some ⟨gq, 0, none⟩) n3 cq] 32) := ⟨_, rfl⟩
            have hba : Below wr.heap.size wr wa := by rw [hwa]; exact below_alloc _ (Below.refl _ _)
            have hxa : wa.heap[wr.heap.size]? = some (.cells #[.string XN, .int .i64 f.params, .slice B1 b1 cc1, .int .i64 f.regs, .slice B2 b2 cc2, .slice (some ⟨gq, 0, none⟩) n3 cq] 32 (0, 0)) := by rw [hwa]; exact blk_new _ _
            have HBa := Lib.hid (below_over HBj.out hba)
            obtain ⟨gx, hgx⟩ : ∃ gx, gx = wr.heap.size := ⟨_, rfl⟩
            rw [← hgx] at hxa
            have b0 : wa.cell? ⟨gx, 0, none⟩ = some (.string XN) := blk_cell hxa rfl
            have p0' := later p0 hba
            have p1' := later p1 hba
            have hgxl := blk_lt hxa
            have hpl := World.block_lt_of_cell? _ _ p0'
            have hpl1 := World.block_lt_of_cell? _ _ p1'
            have hEq : f.name ++ { data := #[120] } = XN := hXN.symm
            have HEq := Lib.hid hEq
            clear e1 e2 h4 h5 g1 g2 hlj hfj hn3 hA2 hA6 hba hxa hXN p0 p1 hEq
            go_upto_region 41 with (fail)
            rw [← hwa, ← hgx]
            clear hwa hgx q0 q1 q2 q3 q4 q5 hb0
            have hEq := HEq.out
            refine wp_region_over (by kernel_rfl) (by kernel_rfl) ?_
            repeat (go_big_quiet_step (fail))
            refine wpQuiet_nil ?_
            intro w10 hb10
            have HB10 := Lib.hid (below_over HBa.out hb10)
            clear hb10 b0 p0' p1' hEq
            go_wp2_with fail
            have hltj := hltj
            go_roundw
            case rel => exact ⟨j + 1, by omega, by go_num, HB10.out⟩
            case measure => simp [intOf]; omega
          · have e : j = k := by omega
            subst e
            have y0 : wr.cell? ⟨gp, 0, none⟩ = some (.slice QA' j qc) := blk_cell (blk_below HGp.out HBj.out) rfl
            have y1 : wr.cell? ⟨w.heap.size, 0, none⟩ = some (.slice A j cap) := blk_cell (blk_below HX8.out HBj.out) rfl
            have HSp := Lib.hid (fun (Wx : World) (hb : Below wr.heap.size wr Wx) => size_any Wx w.heap.size _ (p.funcs.map lensF) (later y1 hb) ((HFv.out.later (by decide) (below_over HB3.out (below_over HB8.out (below_over HBj.out hb)))).map' lensF (fun cs f h => szF_of (FuncR.later h (below_over HB3.out (below_over HB8.out (below_over HBj.out hb)))))) HSum.out)
            have HSq := Lib.hid (fun (Wx : World) (hb : Below wr.heap.size wr Wx) => size_any Wx gp _ (p.funcs.map lensF) (later y0 hb) (by have h := (HQ.out.below (below_over HBj.out hb)).size; rw [← HNF.out] at h; exact h) HSum.out)
            rw [← HSZ.out] at HSp HSq
            have hyl0 := World.block_lt_of_cell? _ _ y0
            have hyl1 := World.block_lt_of_cell? _ _ y1
            have HBw := Lib.hid (below_over HB3.out (below_over HB8.out HBj.out))
            clear m0
            go_upto_region 44 with (fail)
            refine upto_begin 24 (fun w' => w'.cell? ⟨gp, 0, none⟩ = some (.slice QA' j qc) ∧ w'.cell? ⟨w.heap.size, 0, none⟩ = some (.slice A j cap)) (by kernel_rfl) ?_ (fun hU0 => ?_)
            · exact ⟨y0, y1⟩
            first | refine upto_run 1 (v := ?_) hU0 (by kernel_rfl) rfl (by kernel_rfl) (by kernel_rfl) (by kernel_rfl) (by kernel_rfl) (fun _ _ _ h => h) (Or.inl ⟨by rfl, ?_⟩) ?_ | fail
            rotate_left
            · first | (intro w _; go_simp; with_reducible rfl) | (intro w _; go_simp; done) | (intro w _; go_simp; rw [if_neg (by omega)]) | fail
            try simp only [Act.put, List.setIfInBounds_toArray, List.set_cons_zero, List.set_cons_succ]
            first | refine upto_next 0 rfl (by kernel_rfl) (fun K hK => ?_) | fail
            go_simp
            go_at_call 11
            refine (HSp.out wr.drew (Below.drew (Below.refl _ _))).mono ?_
            rintro e wA ⟨rfl, hbn⟩
            have hbA : Below wr.heap.size wr wA := ((Below.drew (Below.refl _ _))).bt ⟨hbn.os, hbn.tape, hbn.output, hbn.size, hbn.block⟩
            clear hbn
            try go_simp
            first | refine hK.out _ _ ?_ (fun hU1 => ?_) | (go_wp2_with fail; refine hK.out _ _ ?_ (fun hU1 => ?_)) | fail
            · exact Or.inr ⟨later y0 hbA, later y1 hbA⟩
            clear hK K
            clear hU0
            try simp only [Act.put, List.setIfInBounds_toArray, List.set_cons_zero, List.set_cons_succ]
            first | refine upto_run 2 (v := ?_) hU1 (by kernel_rfl) rfl (by kernel_rfl) (by kernel_rfl) (by kernel_rfl) (by kernel_rfl) (fun _ _ _ h => h) (Or.inl ⟨by rfl, ?_⟩) ?_ | fail
            rotate_left
            · first | (intro w _; go_simp; with_reducible rfl) | (intro w _; go_simp; done) | (intro w _; go_simp; rw [if_neg (by omega)]) | fail
            try simp only [Act.put, List.setIfInBounds_toArray, List.set_cons_zero, List.set_cons_succ]
            first | refine upto_run 3 (v := ?_) hU1 (by kernel_rfl) rfl (by kernel_rfl) (by kernel_rfl) (by kernel_rfl) (by kernel_rfl) (fun _ _ _ h => h) (Or.inl ⟨by rfl, ?_⟩) ?_ | fail
            rotate_left
            · first | (intro w _; go_simp; with_reducible rfl) | (intro w _; go_simp; done) | (intro w _; go_simp; rw [if_neg (by omega)]) | fail
            try simp only [Act.put, List.setIfInBounds_toArray, List.set_cons_zero, List.set_cons_succ]
            first | refine upto_run 4 (v := ?_) hU1 (by kernel_rfl) rfl (by kernel_rfl) (by kernel_rfl) (by kernel_rfl) (by kernel_rfl) (fun _ _ _ h => h) (Or.inl ⟨by rfl, ?_⟩) ?_ | fail
            rotate_left
            · first | (intro w _; go_simp; with_reducible rfl) | (intro w _; go_simp; done) | (intro w _; go_simp; rw [if_neg (by omega)]) | fail
            try simp only [Act.put, List.setIfInBounds_toArray, List.set_cons_zero, List.set_cons_succ]
            first | refine upto_run 6 (v := ?_) hU1 (by kernel_rfl) rfl (by kernel_rfl) (by kernel_rfl) (by kernel_rfl) (by kernel_rfl) (fun _ _ _ h => h) (Or.inl ⟨by rfl, ?_⟩) ?_ | fail
            rotate_left
            · first | (intro w _; go_simp; with_reducible rfl) | (intro w _; go_simp; done) | (intro w _; go_simp; rw [if_neg (by omega)]) | fail
            try simp only [Act.put, List.setIfInBounds_toArray, List.set_cons_zero, List.set_cons_succ]
            first | refine upto_next 5 rfl (by kernel_rfl) (fun K hK => ?_) | fail
            go_simp
            go_at_call 11
            refine (HSq.out wA hbA).mono ?_
            rintro e wB ⟨rfl, hbn⟩
            have hbB : Below wr.heap.size wr wB := (hbA).bt ⟨hbn.os, hbn.tape, hbn.output, hbn.size, hbn.block⟩
            clear hbn
            try go_simp
            first | refine hK.out _ _ ?_ (fun hU2 => ?_) | (go_wp2_with fail; refine hK.out _ _ ?_ (fun hU2 => ?_)) | fail
            · exact Or.inr ⟨later y0 hbB, later y1 hbB⟩
            clear hK K
            clear hU1
            try simp only [Act.put, List.setIfInBounds_toArray, List.set_cons_zero, List.set_cons_succ]
            first | refine upto_run 7 (v := ?_) hU2 (by kernel_rfl) rfl (by kernel_rfl) (by kernel_rfl) (by kernel_rfl) (by kernel_rfl) (fun _ _ _ h => h) (Or.inl ⟨by rfl, ?_⟩) ?_ | fail
            rotate_left
            · first | (intro w _; go_simp; with_reducible rfl) | (intro w _; go_simp; done) | (intro w _; go_simp; rw [if_neg (by omega)]) | fail
            try simp only [Act.put, List.setIfInBounds_toArray, List.set_cons_zero, List.set_cons_succ]
            first | refine upto_run 8 (v := ?_) hU2 (by kernel_rfl) rfl (by kernel_rfl) (by kernel_rfl) (by kernel_rfl) (by kernel_rfl) (fun _ _ _ h => h) (Or.inl ⟨by rfl, ?_⟩) ?_ | fail
            rotate_left
            · first | (intro w _; go_simp; with_reducible rfl) | (intro w _; go_simp; done) | (intro w _; go_simp; rw [if_neg (by omega)]) | fail
            try simp only [Act.put, List.setIfInBounds_toArray, List.set_cons_zero, List.set_cons_succ]
            first | refine upto_run 9 (v := ?_) hU2 (by kernel_rfl) rfl (by kernel_rfl) (by kernel_rfl) (by kernel_rfl) (by kernel_rfl) (fun _ _ _ h => h) (Or.inl ⟨by rfl, ?_⟩) ?_ | fail
            rotate_left
            · first | (intro w _; go_simp; with_reducible rfl) | (intro w _; go_simp; done) | (intro w _; go_simp; rw [if_neg (by omega)]) | fail
            try simp only [Act.put, List.setIfInBounds_toArray, List.set_cons_zero, List.set_cons_succ]
            first | refine upto_run 10 (v := ?_) hU2 (by kernel_rfl) rfl (by kernel_rfl) (by kernel_rfl) (by kernel_rfl) (by kernel_rfl) (fun _ _ _ h => h) (Or.inl ⟨by rfl, ?_⟩) ?_ | fail
            rotate_left
            · first | (intro w _; go_simp; with_reducible rfl) | (intro w _; go_simp; done) | (intro w _; go_simp; rw [if_neg (by omega)]) | fail
            try simp only [Act.put, List.setIfInBounds_toArray, List.set_cons_zero, List.set_cons_succ]
            first | refine upto_run 11 (v := ?_) hU2 (by kernel_rfl) rfl (by kernel_rfl) (by kernel_rfl) (by kernel_rfl) (by kernel_rfl) (fun _ _ _ h => h) (Or.inl ⟨by rfl, ?_⟩) ?_ | fail
            rotate_left
            · first | (intro w _; go_simp; with_reducible rfl) | (intro w _; go_simp; done) | (intro w _; go_simp; rw [if_neg (by omega)]) | fail
            try simp only [Act.put, List.setIfInBounds_toArray, List.set_cons_zero, List.set_cons_succ]
            first | refine upto_run 12 (v := ?_) hU2 (by kernel_rfl) rfl (by kernel_rfl) (by kernel_rfl) (by kernel_rfl) (by kernel_rfl) (fun _ _ _ h => h) (Or.inl ⟨by rfl, ?_⟩) ?_ | fail
            rotate_left
            · first | (intro w _; go_simp; with_reducible rfl) | (intro w _; go_simp; done) | (intro w _; go_simp; rw [if_neg (by omega)]) | fail
            try simp only [Act.put, List.setIfInBounds_toArray, List.set_cons_zero, List.set_cons_succ]
            first | refine upto_read 13 (v := ?_) hU2 (by kernel_rfl) rfl (by kernel_rfl) (by kernel_rfl) (by kernel_rfl) (by kernel_rfl) (by kernel_rfl) (fun _ _ _ h => h) (Or.inl ⟨by rfl, ?_⟩) ?_ | fail
            rotate_left
            · first | (intro w hSw; (try dsimp only at hSw); go_simp; with_reducible rfl) | (intro w hSw; (try dsimp only at hSw); go_simp; done) | fail
            try simp only [Act.put, List.setIfInBounds_toArray, List.set_cons_zero, List.set_cons_succ]
            first | refine upto_run 14 (v := ?_) hU2 (by kernel_rfl) rfl (by kernel_rfl) (by kernel_rfl) (by kernel_rfl) (by kernel_rfl) (fun _ _ _ h => h) (Or.inl ⟨by rfl, ?_⟩) ?_ | fail
            rotate_left
            · first | (intro w _; go_simp; with_reducible rfl) | (intro w _; go_simp; done) | (intro w _; go_simp; rw [if_neg (by omega)]) | fail
            try simp only [Act.put, List.setIfInBounds_toArray, List.set_cons_zero, List.set_cons_succ]
            first | refine upto_run 15 (v := ?_) hU2 (by kernel_rfl) rfl (by kernel_rfl) (by kernel_rfl) (by kernel_rfl) (by kernel_rfl) (fun _ _ _ h => h) (Or.inl ⟨by rfl, ?_⟩) ?_ | fail
            rotate_left
            · first | (intro w _; go_simp; with_reducible rfl) | (intro w _; go_simp; done) | (intro w _; go_simp; rw [if_neg (by omega)]) | fail
            try simp only [Act.put, List.setIfInBounds_toArray, List.set_cons_zero, List.set_cons_succ]
            first | refine upto_read 16 (v := ?_) hU2 (by kernel_rfl) rfl (by kernel_rfl) (by kernel_rfl) (by kernel_rfl) (by kernel_rfl) (by kernel_rfl) (fun _ _ _ h => h) (Or.inl ⟨by rfl, ?_⟩) ?_ | fail
            rotate_left
            · first | (intro w hSw; (try dsimp only at hSw); go_simp; with_reducible rfl) | (intro w hSw; (try dsimp only at hSw); go_simp; done) | fail
            try simp only [Act.put, List.setIfInBounds_toArray, List.set_cons_zero, List.set_cons_succ]
            first | refine upto_run 17 (v := ?_) hU2 (by kernel_rfl) rfl (by kernel_rfl) (by kernel_rfl) (by kernel_rfl) (by kernel_rfl) (fun _ _ _ h => h) (Or.inl ⟨by rfl, ?_⟩) ?_ | fail
            rotate_left
            · first | (intro w _; go_simp; with_reducible rfl) | (intro w _; go_simp; done) | (intro w _; go_simp; rw [if_neg (by omega)]) | fail
            try simp only [Act.put, List.setIfInBounds_toArray, List.set_cons_zero, List.set_cons_succ]
            first | refine upto_run 18 (v := ?_) hU2 (by kernel_rfl) rfl (by kernel_rfl) (by kernel_rfl) (by kernel_rfl) (by kernel_rfl) (fun _ _ _ h => h) (Or.inl ⟨by rfl, ?_⟩) ?_ | fail
            rotate_left
            · first | (intro w _; go_simp; with_reducible rfl) | (intro w _; go_simp; done) | (intro w _; go_simp; rw [if_neg (by omega)]) | fail
            try simp only [Act.put, List.setIfInBounds_toArray, List.set_cons_zero, List.set_cons_succ]
            first | refine upto_run 19 (v := ?_) hU2 (by kernel_rfl) rfl (by kernel_rfl) (by kernel_rfl) (by kernel_rfl) (by kernel_rfl) (fun _ _ _ h => h) (Or.inl ⟨by rfl, ?_⟩) ?_ | fail
            rotate_left
            · first | (intro w _; go_simp; with_reducible rfl) | (intro w _; go_simp; done) | (intro w _; go_simp; rw [if_neg (by omega)]) | fail
            try simp only [Act.put, List.setIfInBounds_toArray, List.set_cons_zero, List.set_cons_succ]
            first | refine upto_run 20 (v := ?_) hU2 (by kernel_rfl) rfl (by kernel_rfl) (by kernel_rfl) (by kernel_rfl) (by kernel_rfl) (fun _ _ _ h => h) (Or.inl ⟨by rfl, ?_⟩) ?_ | fail
            rotate_left
            · first | (intro w _; go_simp; with_reducible rfl) | (intro w _; go_simp; done) | (intro w _; go_simp; rw [if_neg (by omega)]) | fail
            try simp only [Act.put, List.setIfInBounds_toArray, List.set_cons_zero, List.set_cons_succ]
            first | refine upto_next 21 rfl (by kernel_rfl) (fun K hK => ?_) | fail
            go_simp
            go_at_call 9
            refine (each_none wB).mono ?_
            rintro e wC ⟨rfl, rfl⟩
            try go_simp
            first | refine hK.out _ _ ?_ (fun hU3 => ?_) | (go_wp2_with fail; refine hK.out _ _ ?_ (fun hU3 => ?_)) | fail
            · exact Or.inr ⟨later y0 hbB, later y1 hbB⟩
            clear hK K
            clear hU2
            try simp only [Act.put, List.setIfInBounds_toArray, List.set_cons_zero, List.set_cons_succ]
            first | refine upto_run 22 (v := ?_) hU3 (by kernel_rfl) rfl (by kernel_rfl) (by kernel_rfl) (by kernel_rfl) (by kernel_rfl) (fun _ _ _ h => h) (Or.inl ⟨by rfl, ?_⟩) ?_ | fail
            rotate_left
            · first | (intro w _; go_simp; with_reducible rfl) | (intro w _; go_simp; done) | (intro w _; go_simp; rw [if_neg (by omega)]) | fail
            try simp only [Act.put, List.setIfInBounds_toArray, List.set_cons_zero, List.set_cons_succ]
            first | refine upto_run 23 (v := ?_) hU3 (by kernel_rfl) rfl (by kernel_rfl) (by kernel_rfl) (by kernel_rfl) (by kernel_rfl) (fun _ _ _ h => h) (Or.inl ⟨by rfl, ?_⟩) ?_ | fail
            rotate_left
            · first | (intro w _; go_simp; with_reducible rfl) | (intro w _; go_simp; done) | (intro w _; go_simp; rw [if_neg (by omega)]) | fail
            try simp only [Act.put, List.setIfInBounds_toArray, List.set_cons_zero, List.set_cons_succ]
            first | refine upto_next 24 rfl (by kernel_rfl) (fun K hK => ?_) | fail
            go_simp
            first | refine hK.out _ _ ?_ (fun hU4 => ?_) | (go_wp2_with fail; refine hK.out _ _ ?_ (fun hU4 => ?_)) | fail
            · exact Or.inl (by kernel_rfl)
            clear hK K
            clear hU3
            try simp only [Act.put, List.setIfInBounds_toArray, List.set_cons_zero, List.set_cons_succ]
            refine upto_done (by kernel_rfl) ?_ _
            have HBz := Lib.hid (HBw.out.bt hbB)
            clear y0 y1 hbA hbB
            go_wp2_with fail
            go_returns
            exact ⟨rfl, HBz.out⟩
end Go.Proofs.YtdaildpfkchbhaaDoor
