/- pick.Func: the lines of a function (printed by gen_plf.py). No condition. -/
import Derived.Test.YtbogcompeefoaaaDoorPlE
import Derived.Test.YtbogcompeefoaaaDoorPi
import Derived.Test.YtbogcompeefoaaaDoorQj
import Derived.Deep.MidRow
import Derived.Deep.Cut
import Derived.Deep.CutRange
import Derived.Deep.DeepCutAuto
namespace Go.Proofs.YtbogcompeefoaaaDoor
open Go.RowKit
set_option linter.unusedVariables false
set_option maxHeartbeats 8000000
/-- what pick.Func answers -/
def FuncOut (num : Nat) (f : FuncD) (w : World) (e : Ending) (w' : World) : Prop :=
  ∃ (A : Option Addr) (c : Nat) (ls : List LineD) (hot : Bool), e = .returned (.agg #[.string f.name, .slice A ls.length c, .bool hot]) ∧ w'.ownsRow w.heap.size 46 11 (.slice A ls.length c) ls.length (flatL ls) ∧ Laid f.name.data.toList num f.blocks.length f.blocks.length ls ∧ ls.length ≤ 100000000 ∧ EndOk f f.blocks.length f.blocks.length ls ∧ Below w.heap.size w w'
theorem bit7 (n : Int) (h0 : 0 ≤ n) (h1 : n ≤ 1000) : 0 ≤ bits .andNot .i64 (n + 7) 7 ∧ bits .andNot .i64 (n + 7) 7 ≤ 2000 := by
  obtain ⟨m, rfl⟩ : ∃ m : Nat, n = (m : Int) := ⟨n.toNat, by omega⟩
  have hm : m < 1001 := by omega
  have := (by decide +kernel : ∀ m : Fin 1001, 0 ≤ bits .andNot .i64 ((m.val : Int) + 7) 7 ∧ bits .andNot .i64 ((m.val : Int) + 7) 7 ≤ 2000) ⟨m, hm⟩
  exact this
set_option maxRecDepth 100000 in
theorem func_any (w : World) (p : ProgD) (pb : Nat) (hI : PIn w p pb) (hO : POk p)
    (n : Nat) (f : FuncD) (hf : p.funcs[n]? = some f) (R P : Nat) (hF : FnOk f R P) (gp : Nat) (pl : List Int) (cells : Nat) (hpr : w.ownsRow 0 3 1 (.slice (some ⟨gp, 0, none⟩) R R) R (ivL pl)) (hal : AllocOk f R P pl (cells : Nat)) :
    Calls Tryd.prog 15 #[.pointer (some ⟨pb, 0, none⟩), .int .i64 (n : Nat), .agg #[.slice (some ⟨gp, 0, none⟩) R R, .int .i64 (cells : Nat)]] w fun e w' => FuncOut n f w e w' := by
  obtain ⟨⟨VF, c0, hsf⟩, ⟨VG, c1, hsg⟩, ht, hpw⟩ := hI
  obtain ⟨hlf, hlg, hpo, hpl, hnf, hng⟩ := hO
  have hfl := (List.getElem?_eq_some_iff.1 hf).1
  have hfm := List.mem_of_getElem? hf
  obtain ⟨AF, capF, rfl, _, m3, hi⟩ := id hsf
  obtain ⟨fb, fo, cs, rfl, e1, e2, vs, vl, vb, rfl, q1, q2, q3, q4, q5, q6, q7, q8, q9⟩ := hi n f hf
  obtain ⟨fq, hfq⟩ : ∃ fq, fq = fo + n * 6 := ⟨_, rfl⟩
  have HF0 := Lib.hid (show w.cell? ⟨fb, fq, none⟩ = some (.string f.name) by rw [hfq]; exact e2 0 (by omega))
  have HF1 := Lib.hid (show w.cell? ⟨fb, fq + 1, none⟩ = some (.int .i64 (P : Nat)) by rw [hfq, ← hF.par]; exact e2 1 (by omega))
  have HF2 := Lib.hid (show w.cell? ⟨fb, fq + 2, none⟩ = some vs by rw [hfq]; exact e2 2 (by omega))
  have HF3 := Lib.hid (show w.cell? ⟨fb, fq + 3, none⟩ = some (.int .i64 (R : Nat)) by rw [hfq, ← hF.regs]; exact e2 3 (by omega))
  have HF4 := Lib.hid (show w.cell? ⟨fb, fq + 4, none⟩ = some vl by rw [hfq]; exact e2 4 (by omega))
  have HF5 := Lib.hid (show w.cell? ⟨fb, fq + 5, none⟩ = some vb by rw [hfq]; exact e2 5 (by omega))
  have HSB := Lib.hid q8
  have HSS := Lib.hid q6
  have HSC := Lib.hid q3
  have HFn := Lib.hid hF
  have HAl := Lib.hid hal
  have HPR := Lib.hid (show w.ownsRow 0 3 1 (.slice (some ⟨gp, 0, none⟩) R R) pl.length (ivL pl) by rw [hal.len]; exact hpr)
  have HTab := Lib.hid ht
  have HPw := Lib.hid hpw
  have HNm := Lib.hid (show ∀ k : PK, k.pp = .pointer (some ⟨pb, 0, none⟩) → NmT w k pb p.funcs p.globals from fun k hk => ⟨hk, ⟨_, c0, hsf⟩, ⟨_, c1, hsg⟩, by omega, by omega, hnf, hng⟩)
  have HNz := Lib.hid (hnf f hfm)
  have HPo := Lib.hid (hpo f hfm)
  have HPp := Lib.hid (show ∀ g ∈ p.funcs, g.params ≤ 6 from fun g hg => (hpo g hg).1.2.2.1)
  have HPl := Lib.hid (hpl f hfm)
  have hnn : n ≤ 20 := by omega
  have HFQ := Lib.hid hfq
  have HOF := Lib.hid (fun (w' : World) (h : Below w.heap.size w w') => tof_any w w' h fb fq f vs vb (later HF2.out h) (later HF5.out h) R (later HF3.out h) q3 q8 f.blocks.length rfl hF.h0n (by have := hF.hn; omega) (by have := hF.hR; omega) hF.hnx (fun b hb x hx => by have := hF.hslim b hb x hx; omega) (fun b hb x hx => (hF.hdst b hb x hx).1.2) (by have := (hpo f hfm).1.2.2.2.1; have := hF.par; have := hF.hPR; omega) (fun b hb => by have := hF.hil b hb; omega))
  have hR3 := hF.hR
  have hPR := hF.hPR
  have hcl := hal.c0
  have cl := World.block_lt_of_cell? _ _ c0
  have HFL := Lib.hid (World.block_lt_of_cell? _ _ HF0.out)
  clear hi e1 e2 q1 q2 q3 q4 q5 q6 q7 q8 q9 hf hfm hpo hpl hnf hng hF hal hpr ht hpw c1 hsf hsg hfq m3
  have HA := Lib.hid (below_alloc (.cells #[.string ⟨#[]⟩, .slice none 0 0, .bool false] 35) (below_alloc (.cells #[.slice (some ⟨gp, 0, none⟩) R R, .int .i64 (cells : Nat)] 63) (Below.refl w.heap.size w)))
  have HXa := Lib.hid (blk_alloc (blk_new w (.cells #[.slice (some ⟨gp, 0, none⟩) R R, .int .i64 (cells : Nat)] 63)) (.cells #[.string ⟨#[]⟩, .slice none 0 0, .bool false] 35))
  have HXc := Lib.hid (show ((w.alloc (.cells #[.slice (some ⟨gp, 0, none⟩) R R, .int .i64 (cells : Nat)] 63)).alloc (.cells #[.string ⟨#[]⟩, .slice none 0 0, .bool false] 35)).heap[w.heap.size + 1]? = some (.cells #[.string ⟨#[]⟩, .slice none 0 0, .bool false] 35 (0, 0)) from blk_new' (by simp))
  go_enter Tryd.func15, Tryd.ntmps15
  go_upto_region 2 with (fail)
  rw [← HFQ.out]
  obtain ⟨w1, hw1⟩ : ∃ z, z = (w.alloc (.cells #[.slice (some ⟨gp, 0, none⟩) R R, .int .i64 (cells : Nat)] 63)).alloc (.cells #[.string ⟨#[]⟩, .slice none 0 0, .bool false] 35) := ⟨_, rfl⟩
  rw [← hw1] at HA HXa HXc ⊢
  obtain ⟨ga, hga⟩ : ∃ z, z = w.heap.size := ⟨_, rfl⟩
  obtain ⟨gc, hgc⟩ : ∃ z, z = w.heap.size + 1 := ⟨_, rfl⟩
  rw [← hgc] at HXc ⊢
  rw [← hga] at HXa ⊢
  have HGA := Lib.hid hga
  have HGC := Lib.hid hgc
  clear hw1 hga hgc c0 cl
  have q0 := blk_cell (i := 0) HXa.out rfl
  have q1 := blk_cell (i := 1) HXa.out rfl
  have ql := blk_lt HXa.out
  refine upto_begin 6 (fun w' => w'.cell? ⟨ga, 0, none⟩ = some (.slice (some ⟨gp, 0, none⟩) R R) ∧ w'.cell? ⟨ga, 1, none⟩ = some (.int .i64 (cells : Nat))) (by kernel_rfl) ?_ (fun hU0 => ?_)
  · exact ⟨q0, q1⟩
  first | refine upto_run 0 (v := ?_) hU0 (by kernel_rfl) rfl (by kernel_rfl) (by kernel_rfl) (by kernel_rfl) (by kernel_rfl) (fun _ _ _ h => h) (Or.inl ⟨by rfl, ?_⟩) ?_ | fail
  rotate_left
  · first | (intro w _; go_simp; with_reducible rfl) | (intro w _; go_simp; done) | (intro w _; go_simp; rw [if_neg (by omega)]) | fail
  try simp only [Act.put, List.setIfInBounds_toArray, List.set_cons_zero, List.set_cons_succ]
  first | refine upto_run 1 (v := ?_) hU0 (by kernel_rfl) rfl (by kernel_rfl) (by kernel_rfl) (by kernel_rfl) (by kernel_rfl) (fun _ _ _ h => h) (Or.inl ⟨by rfl, ?_⟩) ?_ | fail
  rotate_left
  · first | (intro w _; go_simp; with_reducible rfl) | (intro w _; go_simp; done) | (intro w _; go_simp; rw [if_neg (by omega)]) | fail
  try simp only [Act.put, List.setIfInBounds_toArray, List.set_cons_zero, List.set_cons_succ]
  first | refine upto_run 3 (v := ?_) hU0 (by kernel_rfl) rfl (by kernel_rfl) (by kernel_rfl) (by kernel_rfl) (by kernel_rfl) (fun _ _ _ h => h) (Or.inl ⟨by rfl, ?_⟩) ?_ | fail
  rotate_left
  · first | (intro w _; go_simp; with_reducible rfl) | (intro w _; go_simp; done) | (intro w _; go_simp; rw [if_neg (by omega)]) | fail
  try simp only [Act.put, List.setIfInBounds_toArray, List.set_cons_zero, List.set_cons_succ]
  first | refine upto_run 5 (v := ?_) hU0 (by kernel_rfl) rfl (by kernel_rfl) (by kernel_rfl) (by kernel_rfl) (by kernel_rfl) (fun _ _ _ h => h) (Or.inl ⟨by rfl, ?_⟩) ?_ | fail
  rotate_left
  · first | (intro w _; go_simp; with_reducible rfl) | (intro w _; go_simp; done) | (intro w _; go_simp; rw [if_neg (by omega)]) | fail
  try simp only [Act.put, List.setIfInBounds_toArray, List.set_cons_zero, List.set_cons_succ]
  first | refine upto_read 2 (v := ?_) hU0 (by kernel_rfl) rfl (by kernel_rfl) (by kernel_rfl) (by kernel_rfl) (by kernel_rfl) (by kernel_rfl) (fun _ _ _ h => h) (Or.inl ⟨by rfl, ?_⟩) ?_ | fail
  rotate_left
  · first | (intro w hSw; (try dsimp only at hSw); go_simp; with_reducible rfl) | (intro w hSw; (try dsimp only at hSw); go_simp; done) | fail
  try simp only [Act.put, List.setIfInBounds_toArray, List.set_cons_zero, List.set_cons_succ]
  first | refine upto_next 4 rfl (by kernel_rfl) (fun K hK => ?_) | fail
  go_simp
  go_at_call 20
  refine (HOF.out _ (HA.out.bt (Below.drew (Below.refl _ _)))).mono ?_
  rintro e w8 ⟨v1, v2, an, xs, es, bs, rfl, o1, o2, o3, o4, hb8⟩
  have HB8 := Lib.hid ((Below.drew (Below.refl w1.heap.size w1)).bt hb8)
  have HO8 := Lib.hid (And.intro o1 (And.intro o2 o3))
  have HL8 := Lib.hid o4
  have HX8 := Lib.hid (blk_below HXa.out HB8.out)
  clear o1 o2 o3 o4 hb8
  try go_simp
  first | refine hK.out _ _ ?_ (fun hU1 => ?_) | (go_wp2_with fail; refine hK.out _ _ ?_ (fun hU1 => ?_)) | fail
  · exact Or.inr ⟨blk_cell HX8.out rfl, blk_cell HX8.out rfl⟩
  clear hK K
  clear hU0
  try simp only [Act.put, List.setIfInBounds_toArray, List.set_cons_zero, List.set_cons_succ]
  first | refine upto_next 6 rfl (by kernel_rfl) (fun K hK => ?_) | fail
  go_simp
  first | refine hK.out _ _ ?_ (fun hU2 => ?_) | (go_wp2_with fail; refine hK.out _ _ ?_ (fun hU2 => ?_)) | fail
  · exact Or.inl (by kernel_rfl)
  clear hK K
  clear hU1
  try simp only [Act.put, List.setIfInBounds_toArray, List.set_cons_zero, List.set_cons_succ]
  first | refine upto_next 7 rfl (by kernel_rfl) (fun K hK => ?_) | fail
  go_simp
  first | refine hK.out _ _ ?_ (fun hU3 => ?_) | (go_wp2_with fail; refine hK.out _ _ ?_ (fun hU3 => ?_)) | fail
  · exact Or.inl (by kernel_rfl)
  clear hK K
  clear hU2
  try simp only [Act.put, List.setIfInBounds_toArray, List.set_cons_zero, List.set_cons_succ]
  first | refine upto_run 8 (v := ?_) hU3 (by kernel_rfl) rfl (by kernel_rfl) (by kernel_rfl) (by kernel_rfl) (by kernel_rfl) (fun _ _ _ h => h) (Or.inl ⟨by rfl, ?_⟩) ?_ | fail
  rotate_left
  · first | (intro w _; go_simp; with_reducible rfl) | (intro w _; go_simp; done) | (intro w _; go_simp; rw [if_neg (by omega)]) | fail
  try simp only [Act.put, List.setIfInBounds_toArray, List.set_cons_zero, List.set_cons_succ]
  refine upto_done (by kernel_rfl) ?_ _
  obtain ⟨k0, hk0⟩ : ∃ k : PK, k = ⟨.pointer (some ⟨pb, 0, none⟩), .pointer (some ⟨fb, fq, none⟩), .slice (some ⟨gp, 0, none⟩) R R, (cells : Nat), v1, v2, an, n, .slice none 0 0, 0, 0⟩ := ⟨_, rfl⟩
  have e0 : k0.slots = .slice none 0 0 := by rw [hk0]
  have e1 : k0.place = .slice (some ⟨gp, 0, none⟩) R R := by rw [hk0]
  have e2 : k0.mi = v1 := by rw [hk0]
  have e3 : k0.me = v2 := by rw [hk0]
  obtain ⟨gk, hgk⟩ : ∃ z, z = w8.heap.size := ⟨_, rfl⟩
  have hbx : Below w8.heap.size w8 (w8.alloc (.cells (k0.cs (.slice none 0 0)) 85)) := below_alloc _ (Below.refl _ _)
  have hb1x : Below w1.heap.size w1 (w8.alloc (.cells (k0.cs (.slice none 0 0)) 85)) := below_over HB8.out hbx
  have h0x : Below w.heap.size w (w8.alloc (.cells (k0.cs (.slice none 0 0)) 85)) := HA.out.bt hb1x
  have hbase : w.heap.size ≤ w1.drew.heap.size + 2 := by have := HA.out.size; show w.heap.size ≤ w1.heap.size + 2; omega
  have HP := Lib.hid (show PS w gk k0 pl [] [] (w8.alloc (.cells (k0.cs (.slice none 0 0)) 85)) from ⟨h0x, by rw [hgk]; exact Nat.le_trans HA.out.size HB8.out.size, ⟨none, 0, by rw [hgk]; exact blk_new w8 _, World.ownsRow_nil _ _ _ _⟩, by rw [e1]; exact own_below HPR.out h0x, by rw [e0]; exact World.ownsRow_nil _ _ _ _⟩)
  have HM := Lib.hid (show MarkR w.heap.size k0 f (w8.alloc (.cells (k0.cs (.slice none 0 0)) 85)) from ⟨xs, es, bs, by rw [e2]; exact own_below (own_base HO8.out.1 hbase) hbx, by rw [e3]; exact own_below (own_base HO8.out.2.1 hbase) hbx, by rw [e3]; exact (HO8.out.2.2.base hbase).later hbx, HL8.out⟩)
  have HXA := Lib.hid (blk_below HX8.out hbx)
  have HXC := Lib.hid (blk_below HXc.out hb1x)
  have HW0 := Lib.hid h0x
  rw [show (Obj.cells #[.pointer (some ⟨pb, 0, none⟩), .pointer (some ⟨fb, fq, none⟩), .slice (some ⟨gp, 0, none⟩) R R, .int .i64 (cells : Nat), v1, v2, .bool an, .int .i64 (n : Nat), .slice none 0 0, .int .i64 0, .int .i64 0, .slice none 0 0] 85) = .cells (k0.cs (.slice none 0 0)) 85 by rw [hk0]; rfl]
  obtain ⟨wx, hwx⟩ : ∃ z, z = w8.alloc (.cells (k0.cs (.slice none 0 0)) 85) := ⟨_, rfl⟩
  rw [← hwx] at HP HM HXA HXC HW0 ⊢
  rw [← hgk]
  have HK0 := Lib.hid hk0
  clear e1 e2 e3 hwx hgk hbx hb1x h0x hbase hU3 HXa HXc HX8 HB8 HO8 HL8 HOF HA q0 q1 ql hk0
  have f4 := later HF4.out HW0.out
  have f4l := World.block_lt_of_cell? _ _ f4
  obtain ⟨As, caps, rfl, _, ms, his⟩ := id HSS.out
  have HIS := Lib.hid his
  have hsl4 : f.slots.length ≤ 2000 := HPl.out.2.2.2.1.1
  have HSL := Lib.hid (HPl.out.2.2.2.1.2)
  clear his ms
  go_wp2_with fail
  clear f4 f4l
  go_loopw [9, 35] (fun a i wr => ∃ (j : Nat) (a0 : Int) (sl : List Int) (sv : Value), j ≤ f.slots.length ∧ i = .int .i64 (j : Nat) ∧ a = .int .i64 a0 ∧ 0 ≤ a0 ∧ a0 ≤ 2000 * j ∧ sl.length = j ∧ (∀ (i : Nat) (z : Int), sl[i]? = some z → 0 ≤ z ∧ z ≤ 1000000) ∧ PS w gk { k0 with slots := sv } pl sl [] wr ∧ KeptP wx wr) (fun _ i _ => f.slots.length - (intOf i).toNat)
  case atStart => exact ⟨0, 0, [], .slice none 0 0, by omega, rfl, rfl, by omega, by omega, rfl, fun i z h => by simp at h, by rw [← e0]; exact HP.out, KeptP.refl _⟩
  case round =>
    obtain ⟨j, a0, sl, sv, hj, rfl, rfl, ha1, ha2, hsl, hsr, hps, hkp⟩ := hrel
    have HPS := Lib.hid hps
    have HKP := Lib.hid hkp
    have HSR := Lib.hid hsr
    have HSN := Lib.hid hsl
    have HBW := Lib.hid hps.bel
    obtain ⟨Ao, co, hbox, _⟩ := hps.box
    obtain ⟨sA, sc, hsv, _⟩ := own_slice hps.slt
    have hsv2 : sv = .slice sA j sc := by rw [← hsl]; exact hsv
    subst hsv2
    have b8 : wr.cell? ⟨gk, 8, none⟩ = some (.slice sA j sc) := blk_cell hbox rfl
    have bl := blk_lt hbox
    clear hps hkp hsr hbox hsv e0
    by_cases hlt : j < f.slots.length
    · obtain ⟨z, hz⟩ : ∃ z, f.slots[j]? = some z := ⟨_, List.getElem?_eq_getElem hlt⟩
      obtain ⟨sb, so, cs, rfl, g1, g2, g3, g4⟩ := HIS.out j z hz
      subst g3
      have r0 := later (g2 0 (by omega)) HBW.out
      rw [Nat.add_zero, Nat.mul_one] at r0
      have rl := World.block_lt_of_cell? _ _ r0
      have hz2 := HSL.out.2 z (by rw [List.take_length]; exact List.mem_of_getElem? hz)
      have hl4 := HSL.out.1 (by omega)
      obtain ⟨hz3, hz4⟩ := hz2
      have hb7 := bit7 z hz3 hz4
      obtain ⟨hb7a, hb7b⟩ := hb7
      have hmx : max z 0 = z := by omega
      rw [← hmx] at hb7a hb7b
      clear hmx
      have hju := HSN.out
      obtain ⟨A', c', w', hr8, ⟨Ab, cb, hbx⟩, hps', hkp'⟩ := HPS.out.slotPush a0 (by omega)
      rw [hju] at hr8 hps' hkp'
      have t0 : w'.cell? ⟨gk, 8, none⟩ = some (.slice sA j sc) := blk_cell (i := 8) hbx rfl
      have t1 := blk_free (i := 8) hbx
      have t2 := blk_lt hbx
      have HPN := Lib.hid hps'
      have HKN := Lib.hid hkp'
      clear g1 g2 g4 hz hps' hkp' hbx hju
      go_wp2_with (at_builtin; refine wpList_append_run' _ rfl _ _ _ rfl _ _ _ _ rfl rfl hr8 ?_)
      go_roundw
      case rel =>
        refine ⟨j + 1, a0 + bits .andNot .i64 (max z 0 + 7) 7, sl ++ [a0], _, by omega, by go_num, rfl, by omega, by omega, by simp [HSN.out], fun i z2 h2 => ?_, HPN.out, HKP.out.trans HKN.out⟩
        by_cases hi : i < sl.length
        · rw [List.getElem?_append_left hi] at h2
          exact HSR.out i z2 h2
        · have h3 := (List.getElem?_eq_some_iff.1 h2).1
          rw [List.length_append, List.length_singleton] at h3
          rw [List.getElem?_append_right (by omega), show i - sl.length = 0 by omega] at h2
          obtain rfl : a0 = z2 := by simpa using h2
          omega
      case measure => simp [intOf]; omega
    · have e : j = f.slots.length := by omega
      subst e
      have b9 : wr.cell? ⟨gk, 9, none⟩ = some (.int .i64 k0.cells) := (by obtain ⟨Ao, co, hbox, _⟩ := HPS.out.box; exact blk_cell hbox rfl)
      have b9f : wr.frozen? ⟨gk, 9, none⟩ = false := (by obtain ⟨Ao, co, hbox, _⟩ := HPS.out.box; exact blk_free hbox)
      clear b8
      go_upto_region 11 with (fail)
      have HSLe := Lib.hid hsl
      have ha8 : a0 ≤ 8000 := by
        by_cases h0 : f.slots.length = 0
        · omega
        · have := HSL.out.1 (by omega); omega
      obtain ⟨hs1, hk1⟩ := HPS.out.setK (k' := { k0 with slots := .slice sA f.slots.length sc, cells := a0 }) 9 (.int .i64 a0) (fun out => rfl) rfl rfl
      have HP2 := Lib.hid hs1
      have HK2 := Lib.hid (HKP.out.trans hk1)
      obtain ⟨wy, hwy⟩ : ∃ z, z = wr.setCell ⟨gk, 9, none⟩ (.int .i64 a0) := ⟨_, rfl⟩
      rw [← hwy] at HP2 HK2 ⊢
      have HXA2 := Lib.hid (HK2.out.2 _ _ _ _ HXA.out (by decide) (by decide) (by decide))
      have x1 := blk_cell (i := 1) HXA2.out rfl
      have xl := blk_lt HXA2.out
      have y1 : wy.cell? ⟨gk, 10, none⟩ = some (.int .i64 k0.frame) := (by obtain ⟨Ao, co, hbox, _⟩ := HP2.out.box; exact blk_cell hbox rfl)
      have y1f : wy.frozen? ⟨gk, 10, none⟩ = false := (by obtain ⟨Ao, co, hbox, _⟩ := HP2.out.box; exact blk_free hbox)
      have y1l : gk < wy.heap.size := (by obtain ⟨Ao, co, hbox, _⟩ := HP2.out.box; exact blk_lt hbox)
      clear hs1 hk1 hwy b9 b9f bl HPS HKP HSN HBW
      go_upto_region 12 with (fail)
      obtain ⟨F, hFe⟩ : ∃ F : Int, F = a0 + 8 * (cells : Int) := ⟨_, rfl⟩
      rw [← hFe]
      have hF0 : 0 ≤ F := by omega
      have hF1 : F ≤ 20000 := by omega
      obtain ⟨KK, hK⟩ : ∃ KK : PK, KK = { k0 with slots := .slice sA f.slots.length sc, cells := a0, frame := F } := ⟨_, rfl⟩
      obtain ⟨hs1, hk1⟩ := HP2.out.setK (k' := KK) 10 (.int .i64 F) (fun out => by rw [hK]; rfl) (by rw [hK]) (by rw [hK])
      have HP3 := Lib.hid hs1
      have HK3 := Lib.hid (HK2.out.trans hk1)
      have HM3 := Lib.hid (HM.out.kept (k' := KK) HK3.out (by rw [hK]) (by rw [hK]))
      obtain ⟨wz, hwz⟩ : ∃ z, z = wy.setCell ⟨gk, 10, none⟩ (.int .i64 F) := ⟨_, rfl⟩
      rw [← hwz] at HP3 HK3 HM3 ⊢
      obtain ⟨nb, hnb⟩ : ∃ z, z = f.blocks.length := ⟨_, rfl⟩
      have HNb := Lib.hid hnb
      have HKo := Lib.hid (show KOk w KK pl from ⟨HTab.out, fun i x hx => by have := HAl.out.rng i x hx; omega, by rw [hK]; exact ha1, by rw [hK]; show a0 ≤ 1000000; omega, by rw [HAl.out.len]; omega⟩)
      have HFp := Lib.hid (show FnP w KK fb fq nb f.blocks from ⟨by rw [hK, HK0.out], ⟨_, HF5.out, HSB.out⟩, hnb.symm, by have := HFn.out.hn; omega, by rw [hK]; exact hF0, by rw [hK]; show F ≤ 2147483647; omega, by rw [hK, HK0.out]; show n ≤ 1000; omega, HPw.out⟩)
      have HNt := Lib.hid (HNm.out KK (by rw [hK, HK0.out]))
      have HKn := Lib.hid (show KK.num = n by rw [hK, HK0.out])
      have HKf := Lib.hid (show KK.frame = F by rw [hK])
      have hnn0 : 0 < nb := by have := HFn.out.h0n; omega
      have hnb2 : nb ≤ 2000 := by have := HFn.out.hn; omega
      have HXC3 := Lib.hid (HK3.out.2 _ _ _ _ HXC.out (by decide) (by decide) (by decide))
      have f0 := later HF0.out HP3.out.bel
      have f0l := World.block_lt_of_cell? _ _ f0
      clear hs1 hk1 hwz hK hnb x1 xl y1 y1f y1l HXA2 HP2 HK2 HXA HXC HM HNm HPw HTab hFe ha1 ha2 ha8 hsl hcl HK0
      go_wp2_with fail
      refine (flab_any _ f.name HNz.out).mono ?_
      rintro e w2 ⟨rfl, hb2⟩
      have HP4 := Lib.hid (HP3.out.later hb2)
      have HK4 := Lib.hid (HK3.out.trans (KeptL.of_below hb2).p)
      have HM4 := Lib.hid (HM3.out.kept (k' := KK) (KeptL.of_below hb2).p rfl rfl)
      have HXC4 := Lib.hid (blk_below HXC3.out hb2)
      clear hb2 f0 f0l HP3 HK3 HM3 HXC3
      go_wp2_with fail
      refine (label_push w gk KK pl sl [] _ HP4.out (fnB f.name.data.toList) (by simp)).mono ?_
      rintro e w3 ⟨rfl, hp, hk⟩
      obtain ⟨l0, hl0⟩ : ∃ l : LineD, l = ⟨fnB f.name.data.toList, 0, 0, 0, 0, 0, false, 0, [], false, false⟩ := ⟨_, rfl⟩
      rw [← hl0] at hp
      have HL0 := Lib.hid (show Laid f.name.data.toList n nb 0 [l0] from Laid.start (by rw [hl0]) (by rw [hl0]))
      have HS5 := Lib.hid (show PSeg w gk KK pl sl nb [l0] 0 w3 from ⟨by simp, [], by simp, Seg.nil _ _, by simpa using hp⟩)
      have HM5 := Lib.hid (HM4.out.kept (k' := KK) hk.p rfl rfl)
      have HXC5 := Lib.hid (hk.2 _ _ _ _ HXC4.out (by decide) (by decide))
      have z10 := HS5.out.cells.2.2
      rw [HKf.out] at z10
      have z10l := World.block_lt_of_cell? _ _ z10
      clear hp hk hl0 HP4 HM4 HXC4
      go_upto_if 79 with (fail)
      go_cut [] (fun wx => PSeg w gk KK pl sl nb [l0] 1 wx ∧ KeptL w3 wx)
      case first =>
        by_cases hp0 : F > 0
        · have d1 : decide (F > 0) = true := decide_eq_true hp0
          go_wp2_with fail
          refine (ins_lays w gk KK pl sl nb 0 [l0] _ HS5.out (by omega) 15 4 0 F 0 false 0 [] (num_ok (by omega) (Or.inr rfl) (by omega) (by omega)) (by decide) (by decide)).mono ?_
          rintro e w5 ⟨rfl, hp, hkk⟩
          have HP6 := Lib.hid hp
          have HK6 := Lib.hid hkk
          clear hp hkk
          go_wp2_with fail
          go_meet
          exact ⟨HP6.out, HK6.out⟩
        · have d1 : decide (F > 0) = false := decide_eq_false hp0
          go_wp2_with fail
          go_meet
          exact ⟨HS5.out.le (by omega), KeptL.refl _⟩
      case rest =>
        obtain ⟨hS6, hK6⟩ := hcut
        have HS6 := Lib.hid hS6
        have HM6 := Lib.hid (HM5.out.kept (k' := KK) hK6.p rfl rfl)
        have HXC6 := Lib.hid (hK6.2 _ _ _ _ HXC5.out (by decide) (by decide))
        have f1 := later HF1.out HS6.out.bel
        have f1l := World.block_lt_of_cell? _ _ f1
        have HP6 := Lib.hid (show P ≤ 6 from by have := HPo.out.1.2.2.1; have := HFn.out.par; omega)
        have hP6 : P ≤ 6 := HP6.out
        clear hS6 hK6 HS5 HM5 HXC5 z10 z10l
        go_wp2_with fail
        clear f1 f1l
        go_loopw [91] (fun i wr => ∃ j : Nat, j ≤ P ∧ i = .int .i64 (j : Nat) ∧ PSeg w gk KK pl sl nb [l0] (1 + j) wr ∧ KeptL wc wr) (fun i _ => P - (intOf i).toNat)
        case atStart => exact ⟨0, by omega, rfl, HS6.out, KeptL.refl _⟩
        case round =>
          rename World => wp
          obtain ⟨j, hj, rfl, hps, hkp⟩ := hrel
          have HPS := Lib.hid hps
          have HKP := Lib.hid hkp
          clear hps hkp
          by_cases hlt : j < P
          · obtain ⟨x, hx⟩ : ∃ x, pl[j]? = some x := ⟨_, List.getElem?_eq_getElem (by rw [HAl.out.len]; omega)⟩
            obtain ⟨a, ha⟩ : ∃ a, argT[j]? = some a := ⟨_, List.getElem?_eq_getElem (by show j < 6; omega)⟩
            have g0 : wp.cell? ⟨0, j, none⟩ = some (.int .i64 a) := later (HKo.out.tab.2 j a ha) HPS.out.bel
            have g0l := World.block_lt_of_cell? _ _ g0
            have HKL := Lib.hid (keep_lays w gk KK pl sl HKo.out nb (1 + j) [l0] wp HPS.out (by omega) j x hx a (arg_rr ha))
            have hj6 : j < 6 := by omega
            clear hx ha
            go_wp2_with fail
            refine HKL.out.mono ?_
            rintro e w5 ⟨rfl, hp, hkk⟩
            have HP7 := Lib.hid (show PSeg w gk KK pl sl nb [l0] (1 + (j + 1)) w5 from hp)
            have HK7 := Lib.hid (HKP.out.trans hkk)
            clear hp hkk
            go_wp2_with fail
            go_roundw
            case rel => exact ⟨j + 1, by omega, by go_num, HP7.out, HK7.out⟩
            case measure => simp [intOf]; omega
          · have e : j = P := by omega
            subst e
            obtain ⟨AB, cB, hvb, _, mB, hiB⟩ := id HSB.out
            subst hvb
            have HIB := Lib.hid hiB
            have HKPp := Lib.hid HKP.out
            obtain ⟨hl9, s, hs1, hs2, hs3⟩ := HPS.out
            have HSs := Lib.hid (And.intro hs1 (And.intro hs2 hs3))
            have HMp := Lib.hid (HM6.out.kept (k' := KK) HKP.out.p rfl rfl)
            have HXCp := Lib.hid (HKP.out.2 _ _ _ _ HXC6.out (by decide) (by decide))
            have HLd0 := Lib.hid (show Laid f.name.data.toList n nb 0 ([l0] ++ s) from HL0.out.seg (by rw [← HKn.out]; exact hs2))
            have HLen0 := Lib.hid (show ([l0] ++ s).length ≤ 10 by rw [List.length_append, List.length_singleton]; have := HP6.out; omega)
            have f5 : wp.cell? ⟨fb, fq + 5, none⟩ = some (.slice AB nb cB) := by rw [HNb.out]; exact later HF5.out HPS.out.bel
            have f5l := World.block_lt_of_cell? _ _ f5
            have HWP := Lib.hid HPS.out.bel
            clear mB hiB hl9 hs1 hs2 hs3 HPS HKP HM6 HXC6 HS6 HL0
            go_wp2_with fail
            clear f5 f5l
            go_loopw [106] (fun idx wr => ∃ (i : Nat) (ls : List LineD), i ≤ nb ∧ idx = .int .i64 (i : Nat) ∧ Laid f.name.data.toList n nb i ls ∧ PS w gk KK pl sl ls wr ∧ KeptL wp wr ∧ ls.length ≤ 10 + i * 20100 ∧ EndOk f i nb ls) (fun idx _ => nb - (intOf idx).toNat)
            case atStart => exact ⟨0, [l0] ++ s, by omega, rfl, HLd0.out, HSs.out.2.2, KeptL.refl _, by have := HLen0.out; omega, fun h => by omega, fun h => by omega⟩
            case round =>
              rename World => wq
              obtain ⟨i, ls, hi, rfl, hld, hps, hkp, hlen, hend⟩ := hrel
              have HLd := Lib.hid hld
              have HPQ := Lib.hid hps
              have HKQ := Lib.hid hkp
              have HEn := Lib.hid hend
              have HLe := Lib.hid hlen
              clear hld hps hkp hend
              by_cases hlt : i < nb
              · obtain ⟨B, hB⟩ : ∃ B, f.blocks[i]? = some B := ⟨_, List.getElem?_eq_getElem (by rw [← HNb.out]; exact hlt)⟩
                obtain ⟨bb, bo, cs, hAB, g1, g2, vi, g3, g4, g5, t1, t2, t3, t4, t5, t6, t7, t8⟩ := HIB.out i B hB
                subst hAB
                subst g3
                obtain ⟨AI, cI, rfl, _, mI, hiI⟩ := g4
                have HII := Lib.hid hiI
                have HT64 := Lib.hid (And.intro t3 (And.intro t4 (And.intro t5 t6)))
                have HBm := Lib.hid (List.mem_of_getElem? hB)
                have HBi := Lib.hid hB
                have HR0 := Lib.hid (show w.cell? ⟨bb, bo + i * 9, none⟩ = some (.slice AI B.ins.length cI) from g2 0 (by omega))
                have HBA := Lib.hid (block_any w gk KK pl sl HFp.out.pw ls wq HPQ.out (by rw [HKn.out]; omega) i (by omega))
                have hil := HFn.out.hil B (List.mem_of_getElem? hB)
                clear g1 g2 g5 t1 t2 t3 t4 t5 t6 t7 t8 mI hiI hB
                go_wp2_with fail
                refine HBA.out.mono ?_
                rintro e w5 ⟨rfl, hb5⟩
                have HP5 := Lib.hid (HPQ.out.later hb5)
                have HBel := Lib.hid hb5
                have HK5 := Lib.hid (HKQ.out.trans (KeptL.of_below hb5))
                clear hb5 HBA
                go_wp2_with fail
                refine (label_push w gk KK pl sl ls _ HP5.out (labB KK.num i) (by omega)).mono ?_
                rintro e w6 ⟨rfl, hp, hkk⟩
                obtain ⟨ls1, hls1⟩ : ∃ z, z = ls ++ [(⟨labB KK.num i, 0, 0, 0, 0, 0, false, 0, [], false, false⟩ : LineD)] := ⟨_, rfl⟩
                rw [← hls1] at hp
                have HLd1 := Lib.hid (show Laid f.name.data.toList n nb (i + 1) ls1 by rw [hls1]; exact HLd.out.block (by rw [HKn.out]) rfl (fun b hb e => by have := labB_inj e; omega))
                have hl1 : ls1.length ≤ 11 + i * 20100 := by rw [hls1, List.length_append, List.length_singleton]; omega
                have HS7 := Lib.hid (show PSeg w gk KK pl sl nb ls1 0 w6 from ⟨by omega, [], by simp, Seg.nil _ _, by simpa using hp⟩)
                have HK7 := Lib.hid (HK5.out.trans hkk)
                have HK7m := Lib.hid ((KeptL.of_below HBel.out).trans hkk)
                have f5 : w6.cell? ⟨fb, fq + 5, none⟩ = some (.slice (some ⟨bb, bo, none⟩) nb cB) := by rw [HNb.out]; exact later HF5.out HS7.out.bel
                have f5l := World.block_lt_of_cell? _ _ f5
                have r0 := later HR0.out HS7.out.bel
                have r0l := World.block_lt_of_cell? _ _ r0
                have HLl := Lib.hid hl1
                clear hp hkk hls1 HP5 HK5 hl1 hlen
                go_wp2_with fail
                clear f5 f5l r0 r0l
                go_loopw [123] (fun idx wr => ∃ q : Nat, q ≤ B.ins.length ∧ idx = .int .i64 (q : Nat) ∧ PSeg w gk KK pl sl nb ls1 (10 * q) wr ∧ KeptL w6 wr) (fun idx _ => B.ins.length - (intOf idx).toNat)
                case atStart => exact ⟨0, by omega, rfl, HS7.out, KeptL.refl _⟩
                case round =>
                  rename World => wi
                  obtain ⟨q, hq, rfl, hps, hkp⟩ := hrel
                  have HPI := Lib.hid hps
                  have HKI := Lib.hid hkp
                  clear hps hkp
                  by_cases hltq : q < B.ins.length
                  · obtain ⟨x, hx⟩ : ∃ x, B.ins[q]? = some x := ⟨_, List.getElem?_eq_getElem hltq⟩
                    obtain ⟨ib, io, cs, hAI, e1, e2, hIR⟩ := HII.out q x hx
                    subst hAI
                    have HRD := Lib.hid hIR.reads
                    obtain ⟨va, e3, p1, p2, p3, p4, p5, p6, p7, p8, p9, p10, p11⟩ := hIR
                    subst e3
                    have hxm := List.mem_of_getElem? hx
                    have HOk := Lib.hid (OneOk.of (pl := pl) (sl := sl) (p := p) (f := f) (x := x) (by rw [HFn.out.regs, HAl.out.len]) HSLe.out HSR.out ((HPo.out.2 B HBm.out).1 x hxm) ((HPl.out.2.2.2.2 B HBm.out).2 x hxm) HPp.out HRD.out)
                    obtain ⟨Ax, capx, rfl, _, _, _⟩ := id p10
                    have HSA := Lib.hid p10
                    have hb0 := HPI.out.bel
                    have r0 := later (e2 0 (by omega)) hb0
                    have r1 := later (e2 1 (by omega)) hb0
                    have r2 := later (e2 2 (by omega)) hb0
                    have r3 := later (e2 3 (by omega)) hb0
                    have r4 := later (e2 4 (by omega)) hb0
                    have r5 := later (e2 5 (by omega)) hb0
                    have r6 := later (e2 6 (by omega)) hb0
                    have r7 := later (e2 7 (by omega)) hb0
                    have r8 := later (e2 8 (by omega)) hb0
                    have r9 := later (e2 9 (by omega)) hb0
                    have r10 := later (e2 10 (by omega)) hb0
                    have r11 := later (e2 11 (by omega)) hb0
                    rw [Nat.add_zero] at r0
                    have r0l := World.block_lt_of_cell? _ _ r0
                    clear e1 e2 p1 p2 p3 p4 p5 p6 p7 p8 p9 p10 p11 hx hxm hb0
                    have HA := Lib.hid (below_alloc (.cells #[.int .i64 x.op, .int .i64 x.dst, .int .i64 x.a.reg, .int .i64 x.a.num, .int .i64 x.b.reg, .int .i64 x.b.num, .int .i64 x.size, .bool x.signed, .bool x.secret, .int .i64 x.ref, .int .i64 x.off, .slice Ax x.args.length capx] 74) (Below.refl wi.heap.size wi))
                    have HXI := Lib.hid (blk_new wi (.cells #[.int .i64 x.op, .int .i64 x.dst, .int .i64 x.a.reg, .int .i64 x.a.num, .int .i64 x.b.reg, .int .i64 x.b.num, .int .i64 x.size, .bool x.signed, .bool x.secret, .int .i64 x.ref, .int .i64 x.off, .slice Ax x.args.length capx] 74))
                    go_upto_region 27 with (fail)
                    obtain ⟨wj, hwj⟩ : ∃ z, z = wi.alloc (.cells #[.int .i64 x.op, .int .i64 x.dst, .int .i64 x.a.reg, .int .i64 x.a.num, .int .i64 x.b.reg, .int .i64 x.b.num, .int .i64 x.size, .bool x.signed, .bool x.secret, .int .i64 x.ref, .int .i64 x.off, .slice Ax x.args.length capx] 74) := ⟨_, rfl⟩
                    rw [← hwj] at HA HXI ⊢
                    obtain ⟨gi, hgi⟩ : ∃ z, z = wi.heap.size := ⟨_, rfl⟩
                    rw [← hgi] at HXI ⊢
                    clear hwj r0 r1 r2 r3 r4 r5 r6 r7 r8 r9 r10 r11 r0l
                    obtain ⟨gm, mc, gr, rn, rc, mb, m1, m2, m3, m4⟩ := ((HMp.out.kept (k' := KK) HKQ.out.p rfl rfl).kept (k' := KK) (HK7m.out.trans (HKI.out.trans (KeptL.of_below HA.out))).p rfl rfl).cell (i := i) (j := q) (by rw [← HNb.out]; exact hlt) (by rw [blkF_of HBi.out]; exact hltq)
                    rw [blkF_of HBi.out] at m3
                    rw [← HNb.out] at m1
                    subst m3
                    have HPJ := Lib.hid (HPI.out.later HA.out)
                    have k4 : wj.cell? ⟨gk, 4, none⟩ = some (.slice (some ⟨gm, 0, none⟩) nb mc) := (by obtain ⟨_, _, _, _, h3⟩ := HPJ.out; obtain ⟨Ab, cb, hbb, _⟩ := h3.box; rw [← m1]; exact blk_cell hbb rfl)
                    have k4l := World.block_lt_of_cell? _ _ k4
                    have m2l := World.block_lt_of_cell? _ _ m2
                    have m4l := World.block_lt_of_cell? _ _ m4
                    have q0 := blk_cell (i := 0) HXI.out rfl
                    have q1 := blk_cell (i := 1) HXI.out rfl
                    have q2 := blk_cell (i := 2) HXI.out rfl
                    have q3 := blk_cell (i := 3) HXI.out rfl
                    have q4 := blk_cell (i := 4) HXI.out rfl
                    have q5 := blk_cell (i := 5) HXI.out rfl
                    have q6 := blk_cell (i := 6) HXI.out rfl
                    have q7 := blk_cell (i := 7) HXI.out rfl
                    have q8 := blk_cell (i := 8) HXI.out rfl
                    have q9 := blk_cell (i := 9) HXI.out rfl
                    have q10 := blk_cell (i := 10) HXI.out rfl
                    have q11 := blk_cell (i := 11) HXI.out rfl
                    have qxl := blk_lt HXI.out
                    clear m1
                    refine upto_begin 13 (fun w' => Below wj.heap.size wj w') (by kernel_rfl) ?_ (fun hU0 => ?_)
                    · first | exact Below.refl _ _ | exact Below.drew (Below.refl _ _)
                    first | refine upto_run 0 (v := ?_) hU0 (by kernel_rfl) rfl (by kernel_rfl) (by kernel_rfl) (by kernel_rfl) (by kernel_rfl) (fun _ _ _ h => h) (Or.inl ⟨by rfl, ?_⟩) ?_ | fail
                    rotate_left
                    · first | (intro w _; go_simp; with_reducible rfl) | (intro w _; go_simp; done) | (intro w _; go_simp; rw [if_neg (by omega)]) | fail
                    try simp only [Act.put, List.setIfInBounds_toArray, List.set_cons_zero, List.set_cons_succ]
                    first | refine upto_run 2 (v := ?_) hU0 (by kernel_rfl) rfl (by kernel_rfl) (by kernel_rfl) (by kernel_rfl) (by kernel_rfl) (fun _ _ _ h => h) (Or.inl ⟨by rfl, ?_⟩) ?_ | fail
                    rotate_left
                    · first | (intro w _; go_simp; with_reducible rfl) | (intro w _; go_simp; done) | (intro w _; go_simp; rw [if_neg (by omega)]) | fail
                    try simp only [Act.put, List.setIfInBounds_toArray, List.set_cons_zero, List.set_cons_succ]
                    first | refine upto_run 3 (v := ?_) hU0 (by kernel_rfl) rfl (by kernel_rfl) (by kernel_rfl) (by kernel_rfl) (by kernel_rfl) (fun _ _ _ h => h) (Or.inl ⟨by rfl, ?_⟩) ?_ | fail
                    rotate_left
                    · first | (intro w _; go_simp; with_reducible rfl) | (intro w _; go_simp; done) | (intro w _; go_simp; rw [if_neg (by omega)]) | fail
                    try simp only [Act.put, List.setIfInBounds_toArray, List.set_cons_zero, List.set_cons_succ]
                    first | refine upto_run 4 (v := ?_) hU0 (by kernel_rfl) rfl (by kernel_rfl) (by kernel_rfl) (by kernel_rfl) (by kernel_rfl) (fun _ _ _ h => h) (Or.inl ⟨by rfl, ?_⟩) ?_ | fail
                    rotate_left
                    · first | (intro w _; go_simp; with_reducible rfl) | (intro w _; go_simp; done) | (intro w _; go_simp; rw [if_neg (by omega)]) | fail
                    try simp only [Act.put, List.setIfInBounds_toArray, List.set_cons_zero, List.set_cons_succ]
                    first | refine upto_run 5 (v := ?_) hU0 (by kernel_rfl) rfl (by kernel_rfl) (by kernel_rfl) (by kernel_rfl) (by kernel_rfl) (fun _ _ _ h => h) (Or.inl ⟨by rfl, ?_⟩) ?_ | fail
                    rotate_left
                    · first | (intro w _; go_simp; with_reducible rfl) | (intro w _; go_simp; done) | (intro w _; go_simp; rw [if_neg (by omega)]) | fail
                    try simp only [Act.put, List.setIfInBounds_toArray, List.set_cons_zero, List.set_cons_succ]
                    first | refine upto_run 7 (v := ?_) hU0 (by kernel_rfl) rfl (by kernel_rfl) (by kernel_rfl) (by kernel_rfl) (by kernel_rfl) (fun _ _ _ h => h) (Or.inl ⟨by rfl, ?_⟩) ?_ | fail
                    rotate_left
                    · first | (intro w _; go_simp; with_reducible rfl) | (intro w _; go_simp; done) | (intro w _; go_simp; rw [if_neg (by omega)]) | fail
                    try simp only [Act.put, List.setIfInBounds_toArray, List.set_cons_zero, List.set_cons_succ]
                    first | refine upto_run 10 (v := ?_) hU0 (by kernel_rfl) rfl (by kernel_rfl) (by kernel_rfl) (by kernel_rfl) (by kernel_rfl) (fun _ _ _ h => h) (Or.inl ⟨by rfl, ?_⟩) ?_ | fail
                    rotate_left
                    · first | (intro w _; go_simp; with_reducible rfl) | (intro w _; go_simp; done) | (intro w _; go_simp; rw [if_neg (by omega)]) | fail
                    try simp only [Act.put, List.setIfInBounds_toArray, List.set_cons_zero, List.set_cons_succ]
                    first | refine upto_read 1 (v := ?_) hU0 (by kernel_rfl) rfl (by kernel_rfl) (by kernel_rfl) (by kernel_rfl) (by kernel_rfl) (by kernel_rfl) (fun _ _ _ h => h) (Or.inl ⟨by rfl, ?_⟩) ?_ | fail
                    rotate_left
                    · refine load_ins (S := fun w' => Below wj.heap.size wj w') ?lx1 ?lo1 gi ?lh1 [.int .i64 x.op, .int .i64 x.dst, .int .i64 x.a.reg, .int .i64 x.a.num, .int .i64 x.b.reg, .int .i64 x.b.num, .int .i64 x.size, .bool x.signed, .bool x.secret, .int .i64 x.ref, .int .i64 x.off, .slice Ax x.args.length capx] rfl (fun w hw => blk_below HXI.out hw)
                      case lo1 => rfl
                      case lh1 => rfl
                    try simp only [Act.put, List.setIfInBounds_toArray, List.set_cons_zero, List.set_cons_succ]
                    first | refine upto_next 6 rfl (by kernel_rfl) (fun K hK => ?_) | fail
                    go_simp
                    first | refine hK.out _ _ ?_ (fun hU1 => ?_) | (go_wp2_with fail; refine hK.out _ _ ?_ (fun hU1 => ?_)) | fail
                    · exact Or.inr (by first | exact Below.refl _ _ | exact Below.drew (Below.refl _ _))
                    clear hK K
                    clear hU0
                    try simp only [Act.put, List.setIfInBounds_toArray, List.set_cons_zero, List.set_cons_succ]
                    first | refine upto_run 8 (v := ?_) hU1 (by kernel_rfl) rfl (by kernel_rfl) (by kernel_rfl) (by kernel_rfl) (by kernel_rfl) (fun _ _ _ h => h) (Or.inl ⟨by rfl, ?_⟩) ?_ | fail
                    rotate_left
                    · first | (intro w _; go_simp; with_reducible rfl) | (intro w _; go_simp; done) | (intro w _; go_simp; rw [if_neg (by omega)]) | fail
                    try simp only [Act.put, List.setIfInBounds_toArray, List.set_cons_zero, List.set_cons_succ]
                    first | refine upto_next 9 rfl (by kernel_rfl) (fun K hK => ?_) | fail
                    go_simp
                    first | refine hK.out _ _ ?_ (fun hU2 => ?_) | (go_wp2_with fail; refine hK.out _ _ ?_ (fun hU2 => ?_)) | fail
                    · exact Or.inr (by first | exact Below.refl _ _ | exact Below.drew (Below.refl _ _))
                    clear hK K
                    clear hU1
                    try simp only [Act.put, List.setIfInBounds_toArray, List.set_cons_zero, List.set_cons_succ]
                    first | refine upto_run 11 (v := ?_) hU2 (by kernel_rfl) rfl (by kernel_rfl) (by kernel_rfl) (by kernel_rfl) (by kernel_rfl) (fun _ _ _ h => h) (Or.inl ⟨by rfl, ?_⟩) ?_ | fail
                    rotate_left
                    · first | (intro w _; go_simp; with_reducible rfl) | (intro w _; go_simp; done) | (intro w _; go_simp; rw [if_neg (by omega)]) | fail
                    try simp only [Act.put, List.setIfInBounds_toArray, List.set_cons_zero, List.set_cons_succ]
                    first | refine upto_next 12 rfl (by kernel_rfl) (fun K hK => ?_) | fail
                    go_simp
                    first | refine hK.out _ _ ?_ (fun hU3 => ?_) | (go_wp2_with fail; refine hK.out _ _ ?_ (fun hU3 => ?_)) | fail
                    · exact Or.inr (by first | exact Below.refl _ _ | exact Below.drew (Below.refl _ _))
                    clear hK K
                    clear hU2
                    try simp only [Act.put, List.setIfInBounds_toArray, List.set_cons_zero, List.set_cons_succ]
                    first | refine upto_next 13 rfl (by kernel_rfl) (fun K hK => ?_) | fail
                    go_simp
                    go_at_call 25
                    refine (one_any w gk KK pl sl HKo.out nb (10 * q) ls1 _ (HPJ.out.later (by first | exact Below.refl _ _ | exact Below.drew (Below.refl _ _))) (by have := HFn.out.hil B HBm.out; omega) pb p.funcs p.globals HNt.out (by have := HSLe.out; omega) x _ HSA.out HOk.out mb).mono ?_
                    rintro e w9 ⟨rfl, hp, hkk⟩
                    have HP9 := Lib.hid hp
                    have HK9 := Lib.hid (HKI.out.trans ((KeptL.of_below HA.out).trans ((KeptL.of_below (by first | exact Below.refl _ _ | exact Below.drew (Below.refl _ _))).trans hkk)))
                    clear hp hkk
                    try go_simp
                    first | refine hK.out _ _ ?_ (fun hU4 => ?_) | (go_wp2_with fail; refine hK.out _ _ ?_ (fun hU4 => ?_)) | fail
                    · exact Or.inl (by kernel_rfl)
                    clear hK K
                    clear hU3
                    try simp only [Act.put, List.setIfInBounds_toArray, List.set_cons_zero, List.set_cons_succ]
                    refine upto_done (by kernel_rfl) ?_ _
                    clear q0 q1 q2 q3 q4 q5 q6 q7 q8 q9 q10 q11 qxl k4 k4l m2 m2l m4 m4l
                    go_wp2_with fail
                    go_roundw
                    case rel => exact ⟨q + 1, by omega, by go_num, by rw [show 10 * (q + 1) = 10 * q + 10 by omega]; exact HP9.out, HK9.out⟩
                    case measure => simp [intOf]; omega
                  · have e : q = B.ins.length := by omega
                    subst e
                    have hil2 := hil
                    have HTI := Lib.hid ((HPo.out.2 B HBm.out).2)
                    have HMq := Lib.hid ((HMp.out.kept (k' := KK) HKQ.out.p rfl rfl).kept (k' := KK) (HK7m.out.trans HKI.out).p rfl rfl)
                    have HEND := Lib.hid (end_any w gk KK pl sl HKo.out nb (10 * B.ins.length) ls1 wi HPI.out (by omega) fb fq f HNb.out.symm HFp.out i B HBi.out HMq.out (by rw [HNb.out, HAl.out.len, ← HFn.out.regs]; exact HTI.out) HT64.out)
                    go_wp2_with fail
                    refine HEND.out.mono ?_
                    rintro e w9 ⟨⟨rfl, hk9, hE⟩, hRt⟩
                    have HKEY := Lib.hid (show ∃ s, s.length ≤ 20010 ∧ Seg KK.num nb s ∧ PS w gk KK pl sl (ls1 ++ s) w9 ∧ EndOk f (i + 1) nb (ls1 ++ s) by
                      by_cases h3 : B.term.kind = 3
                      · obtain ⟨_, s, s1, s2, s3, l, s4, s5⟩ := hRt h3
                        exact ⟨s, by omega, s2, s3, fun _ _ => ⟨l, by rw [List.getLast?_append, s4]; rfl, Or.inr s5⟩, fun _ _ => ⟨l, by rw [List.getLast?_append, s4]; rfl, s5⟩⟩
                      · rcases hE with ⟨⟨f1, f2⟩, _, s, s1, s2, s3⟩ | ⟨_, s, s1, s2, s3, l, s4, s5⟩
                        · refine ⟨s, by omega, s2, s3, fun _ e => ?_, fun _ hall => absurd (hall B HBm.out) h3⟩
                          have := HTI.out.2.2.2.2 B.term.to_ (by unfold nextT; rw [if_pos f1]; simp)
                          have := HNb.out
                          omega
                        · exact ⟨s, by omega, s2, s3, fun _ _ => ⟨l, by rw [List.getLast?_append, s4]; rfl, s5⟩, fun _ hall => absurd (hall B HBm.out) h3⟩)
                    have HK9 := Lib.hid ((HK7.out.trans HKI.out).trans hk9)
                    clear hk9 hE hRt HEND HMq HTI
                    go_wp2_with fail
                    go_roundw
                    case rel =>
                      obtain ⟨s, s1, s2, s3, s4⟩ := HKEY.out
                      exact ⟨i + 1, ls1 ++ s, by omega, by go_num, HLd1.out.seg (by rw [← HKn.out]; exact s2), s3, HK9.out, by rw [List.length_append]; have := HLl.out; omega, s4⟩
                    case measure => simp [intOf]; omega
              · have HIe := Lib.hid (show i = nb by omega)
                have f0 := later HF0.out HPQ.out.bel
                have f0l := World.block_lt_of_cell? _ _ f0
                have hbx : ∃ Ao co, wq.heap[gk]? = some (.cells (KK.cs (.slice Ao ls.length co)) 85 (0, 0)) ∧ wq.ownsRow w.heap.size 46 11 (.slice Ao ls.length co) ls.length (flatL ls) := HPQ.out.box
                obtain ⟨Ao, co, hbox, hrow⟩ := hbx
                have HRow := Lib.hid hrow
                have z11 : wq.cell? ⟨gk, 11, none⟩ = some (.slice Ao ls.length co) := blk_cell hbox rfl
                have z6 : wq.cell? ⟨gk, 6, none⟩ = some (.bool KK.any_) := blk_cell hbox rfl
                have zl := blk_lt hbox
                have HXQ := Lib.hid (HKQ.out.2 _ _ _ _ HXCp.out (by decide) (by decide))
                have c0 := blk_cell (i := 0) HXQ.out rfl
                have c1 := blk_cell (i := 1) HXQ.out rfl
                have c2 := blk_cell (i := 2) HXQ.out rfl
                have c0f := blk_free (i := 0) HXQ.out
                have c1f := blk_free (i := 1) HXQ.out
                have c2f := blk_free (i := 2) HXQ.out
                have cl := blk_lt HXQ.out
                obtain ⟨nm, hnm⟩ : ∃ nm, nm = f.name := ⟨_, rfl⟩
                rw [← hnm] at f0
                have HNm := Lib.hid hnm
                obtain ⟨ll, hll⟩ : ∃ ll, ll = ls.length := ⟨_, rfl⟩
                rw [← hll] at z11
                have HLl := Lib.hid hll
                clear hbox hrow hnm hll hlen
                go_upto_region 31 with (fail)
                go_region
                have hgc : w.heap.size ≤ gc := by have := HGC.out; omega
                have X1 := blk_setCell (i := 0) HXQ.out (Value.string nm)
                have O1 := own_set (u := Value.string nm) HRow.out HXQ.out (by decide) 0
                have X2 := blk_setCell (i := 1) X1 (Value.slice Ao ll co)
                have O2 := own_set (u := Value.slice Ao ll co) O1 X1 (by decide) 1
                have X3 := blk_setCell (i := 2) X2 (Value.bool KK.any_)
                have O3 := own_set (u := Value.bool KK.any_) O2 X2 (by decide) 2
                have B3 : Below w.heap.size w (((wq.setCell ⟨gc, 0, none⟩ (Value.string nm)).setCell ⟨gc, 1, none⟩ (Value.slice Ao ll co)).setCell ⟨gc, 2, none⟩ (Value.bool KK.any_)).drew := Below.drew (below_set (below_set (below_set HPQ.out.bel gc 0 _ hgc) gc 1 _ hgc) gc 2 _ hgc)
                obtain ⟨wE, hwE⟩ : ∃ z, z = (((wq.setCell ⟨gc, 0, none⟩ (Value.string nm)).setCell ⟨gc, 1, none⟩ (Value.slice Ao ll co)).setCell ⟨gc, 2, none⟩ (Value.bool KK.any_)).drew := ⟨_, rfl⟩
                have Y3 : wE.heap[gc]? = some (.cells #[.string nm, .slice Ao ll co, .bool KK.any_] 35 (0, 0)) := by rw [hwE]; exact X3
                have P3 : wE.ownsRow w.heap.size 46 11 (.slice Ao ls.length co) ls.length (flatL ls) := by rw [hwE]; exact O3
                rw [← hwE] at B3 ⊢
                have HB3 := Lib.hid B3
                have HP3 := Lib.hid P3
                have x0 := blk_cell (i := 0) Y3 rfl
                have x1 := blk_cell (i := 1) Y3 rfl
                have x2 := blk_cell (i := 2) Y3 rfl
                have x3 := blk_lt Y3
                clear X1 X2 X3 O1 O2 O3 B3 P3 hwE Y3 c0 c1 c2 c0f c1f c2f cl f0 f0l z11 z6 zl
                go_wp2_with fail
                refine bodyPost_ret (by simp [results, Tryd.results15, go_sem, x0, x1, x2]; try rfl) rfl ?_
                have hL := HLd.out
                have hE := HEn.out
                have hle := HLe.out
                rw [HIe.out] at hL hE hle
                rw [HNb.out] at hL hE
                exact ⟨Ao, co, ls, KK.any_, by rw [HNm.out, HLl.out], HP3.out, hL, by omega, hE, HB3.out⟩
end Go.Proofs.YtbogcompeefoaaaDoor
