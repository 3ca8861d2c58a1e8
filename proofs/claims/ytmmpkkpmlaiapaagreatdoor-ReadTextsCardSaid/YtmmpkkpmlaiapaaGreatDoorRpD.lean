/- read.datum. No condition. -/
import Derived.Test.YtmmpkkpmlaiapaaGreatDoorQh
namespace Go.Proofs.YtmmpkkpmlaiapaaGreatDoor
open Go.RowKit
set_option linter.unusedVariables false
set_option maxHeartbeats 4000000
set_option maxRecDepth 100000
def RowU (w : World) (B : Nat) (v : Value) (bs : List Int) : Prop := w.ownsRow B 5 1 v bs.length (bs.map (Value.int .u8))
theorem RowU.slice {w : World} {B : Nat} {v : Value} {xs : List Int} (h : RowU w B v xs) : ∃ A cap, v = .slice A xs.length cap := let ⟨A, cap, e, _⟩ := own_slice h; ⟨A, cap, e⟩
theorem RowU.push {w : World} {B : Nat} {v : Value} {xs : List Int} (h : RowU w B v xs) (hB : B ≤ w.heap.size) (x : Int) (g : Nat) (hg : g = w.heap.size) (hl : xs.length ≤ 1000000000) :
    ∃ v' w', (Builtin.append_ #[65, 65] 65 #[v, .slice (some ⟨g, 0, none⟩) 1 1]).run Tryz.prog (w.alloc (.cells #[.int .u8 x] 5)) = .ok v' w' ∧ RowU w' B v' (xs ++ [x]) ∧ Below B w w' ∧ KpT 5 w w' := by
  obtain ⟨i0, z0, q1, q2, q3, q4, q5⟩ := info_partsK (C := 1) (B := 1) (show (Tryz.prog.info? 5).map (fun i => (i.zero.map (·.cells.size), i.size, i.bytes)) = some (some 1, 1, 1) by kernel_rfl)
  obtain ⟨v', w', r1, r2, r3, r4⟩ := append_oneC (P := Tryz.prog) B 65 5 i0 z0 1 1 Tryz.underlying65 q1 q2 q4 q5 q3 (by decide) v xs.length _ h #[.int .u8 x] rfl g hg (fun u hu => by
    simp only [List.mem_cons, List.not_mem_nil, or_false] at hu
    subst hu; rfl) (by unfold maxLen; omega) (by omega) hB
  refine ⟨v', w', r1, ?_, below_of_grown (Below.refl _ _) hB r3 (fun k hk => ?_), kpT_grown h r3⟩
  · unfold RowU
    rw [List.length_append, List.map_append]
    simpa using r2
  · rcases h.2 with ⟨rfl, e2⟩ | ⟨g', cap, cur, rfl, k1, k2, _⟩
    · simp [Value.ownBlock] at hk
    · simp only [Value.ownBlock, Option.some.injEq] at hk
      omega
theorem kpT_store {w w' : World} {g : Nat} {cs : Array Value} {T : TypeId} {fr : Nat × Nat} (h : w.heap[g]? = some (.cells cs T fr)) (hz : w'.heap.size = w.heap.size) (ho : ∀ k, k ≠ g → w'.heap[k]? = w.heap[k]?) : KpT T w w' :=
  ⟨by omega, fun b o hb hT => by
    by_cases e : b = g
    · subst e
      rw [h] at hb
      cases hb
      exact absurd rfl (hT _ _)
    · rw [ho b e]; exact hb⟩
theorem kpT_set {w : World} {g i : Nat} {cs : Array Value} {T : TypeId} {fr : Nat × Nat} (h : w.heap[g]? = some (.cells cs T fr)) (v : Value) : KpT T w (w.setCell ⟨g, i, none⟩ v) :=
  kpT_store h (by simp [World.setCell]) (fun k hk => Below.heap_setCell _ _ _ _ hk)
def DatO (s : List UInt8) (w : World) (e : Ending) (w' : World) : Prop := ∃ (d : XDatumD) (v : Value) (b : Bool), e = .returned (.tuple #[.agg #[.int .i64 d.kind, .string d.name, v, .int .i64 d.n], .bool b]) ∧ (b = true → datumF s = some d) ∧ (b = false → datumF s = none) ∧ RowU w' w.heap.size v d.data ∧ Below w.heap.size w w'
theorem datum_parse (w : World) (hR : RdOk w) (s : ByteArray) (hs : s.size ≤ 1000000) : Calls Tryz.prog 35 #[.string s] w (DatO s.data.toList w) := by
  have HR := Lib.hid hR
  have HS := Lib.hid hs
  clear hR hs
  have HX0 := Lib.hid (blk_new w (.cells #[.int .i64 0, .string ⟨#[]⟩, .slice none 0 0, .int .i64 0] 67))
  have HB0 := Lib.hid (below_alloc (.cells #[.int .i64 0, .string ⟨#[]⟩, .slice none 0 0, .int .i64 0] 67) (Below.refl w.heap.size w))
  go_enter Tryz.func35, Tryz.ntmps35
  go_upto_region 1 with (fail)
  obtain ⟨w1, hw1⟩ : ∃ z, z = w.alloc (.cells #[.int .i64 0, .string ⟨#[]⟩, .slice none 0 0, .int .i64 0] 67) := ⟨_, rfl⟩
  change Code.wp _ _ _ _ (w.alloc (.cells #[.int .i64 0, .string ⟨#[]⟩, .slice none 0 0, .int .i64 0] 67))
  obtain ⟨g, hg⟩ : ∃ z, z = w.heap.size := ⟨_, rfl⟩
  have HGE := Lib.hid (show w.heap.size ≤ g by rw [hg]; exact Nat.le_refl _)
  rw [← hw1] at HX0 HB0 ⊢
  rw [← hg] at HX0 ⊢
  clear hw1 hg
  obtain ⟨nm, hnm⟩ : ∃ T : ByteArray, T = ⟨(Lib.cut s.data.toList [32]).1.toArray⟩ := ⟨_, rfl⟩
  obtain ⟨rs, hrs⟩ : ∃ T : ByteArray, T = ⟨(Lib.cut s.data.toList [32]).2.1.toArray⟩ := ⟨_, rfl⟩
  obtain ⟨is_, his⟩ : ∃ b : Bool, b = (Lib.cut s.data.toList [32]).2.2 := ⟨_, rfl⟩
  obtain ⟨mm, hmm⟩ := (HR.out.later HB0.out).ml
  have HCC := Lib.hid (show Calls Tryz.prog 24 #[.string s, .string ⟨#[32]⟩] w1 (fun e w' => e = .returned (.tuple #[.string nm, .string rs, .bool is_]) ∧ ∃ n, w' = w1.drewN n) from by rw [hnm, hrs, his]; exact Tryz.strings_Cut s ⟨#[32]⟩ mm w1 (by have := HS.out; omega) hmm)
  have HNM := Lib.hid (show (Lib.cut s.data.toList [32]).1 = nm.data.toList by rw [hnm])
  have HRS := Lib.hid (show (Lib.cut s.data.toList [32]).2.1 = rs.data.toList by rw [hrs])
  have HLR := Lib.hid (show rs.size ≤ 1000000 by rw [hrs]; exact Nat.le_trans (cut_le2 s.data.toList [32]) HS.out)
  clear hnm hrs his hmm mm
  go_wp2_with fail
  refine HCC.out.mono ?_
  rintro e w2 ⟨rfl, nn, hw2⟩
  have hb2 : Below w1.heap.size w1 w2 := by rw [hw2]; exact below_drewN (Below.refl _ _) nn
  have HX2 := Lib.hid (blk_below HX0.out hb2)
  have HB2 := Lib.hid (HB0.out.trans (hb2.mono HB0.out.size))
  clear hw2 hb2 HCC HX0 HB0 w1
  have HDF := Lib.hid (show datumF s.data.toList = if nm.data.toList = byL then (bytesF (piecesS cmB rs)).map fun bs => ⟨1, emB, bs, 0⟩
    else if nm.data.toList = quL then (if namedB rs = true then some ⟨2, rs, [], 0⟩ else none)
    else match firstF (pubG nm.data.toList) 3 with
      | some j => numD (3 + (j : Int)) rs.data.toList
      | none => none by
    unfold datumF
    rw [HNM.out, HRS.out]
    rfl)
  clear HNM HRS
  by_cases h1 : nm.data.toList = byL
  · obtain rfl := nm_eq h1
    have HDB := Lib.hid (HDF.out.trans (if_pos h1))
    clear HDF h1
    unfold byL
    have HXg := Lib.hid (blk_below HX2.out (below_alloc (.cells #[.int .i64 1, .string ⟨#[]⟩, .slice none 0 0, .int .i64 0] 67) (Below.refl w2.heap.size w2)))
    have HB3 := Lib.hid (HB2.out.trans ((below_alloc (.cells #[.int .i64 1, .string ⟨#[]⟩, .slice none 0 0, .int .i64 0] 67) (Below.refl w2.heap.size w2)).mono HB2.out.size))
    have HZ3 := Lib.hid (blk_new w2 (.cells #[.int .i64 1, .string ⟨#[]⟩, .slice none 0 0, .int .i64 0] 67))
    have HGG := Lib.hid (show g < w2.heap.size from blk_lt HX2.out)
    go_upto_region 6 with (fail)
    obtain ⟨w3, hw3⟩ : ∃ z, z = w2.alloc (.cells #[.int .i64 1, .string ⟨#[]⟩, .slice none 0 0, .int .i64 0] 67) := ⟨_, rfl⟩
    change Code.wp _ _ _ _ (w2.alloc (.cells #[.int .i64 1, .string ⟨#[]⟩, .slice none 0 0, .int .i64 0] 67))
    obtain ⟨gx, hgx⟩ : ∃ z, z = w2.heap.size := ⟨_, rfl⟩
    have HWX := Lib.hid (show w.heap.size ≤ gx by rw [hgx]; exact HB2.out.size)
    rw [← hw3] at HXg HB3 HZ3 ⊢
    rw [← hgx] at HZ3 HGG ⊢
    clear hw3 hgx HX2 HB2
    obtain ⟨ps, hps⟩ : ∃ z, z = piecesS cmB rs := ⟨_, rfl⟩
    obtain ⟨n, hn⟩ : ∃ n, n = ps.length := ⟨_, rfl⟩
    obtain ⟨mm, hmm⟩ := (HR.out.later HB3.out).ml
    have HNB := Lib.hid (show n ≤ 1000002 by rw [hn, hps, piecesS_len (by decide)]; have := countS_le (sep := cmB) (by decide) rs; have := HLR.out; omega)
    have HPL := Lib.hid (show ∀ p ∈ ps, p.size ≤ 1000000 by rw [hps]; exact fun p hp => Nat.le_trans (piecesS_le hp) HLR.out)
    have HSP := Lib.hid (show Calls Tryz.prog 31 #[.string rs, .string ⟨#[44]⟩] w3 (fun e w' => e = .returned (.slice (some ⟨w3.heap.size, 0, none⟩) n n) ∧ w' = w3.alloc (.cells (ps.map Value.string).toArray 9)) from by
      have h := Tryz.strings_Split rs ⟨#[44]⟩ mm w3 (by have := HLR.out; omega) hmm (by decide)
      rw [show (⟨#[44]⟩ : ByteArray) = cmB from rfl, ← piecesS_len (by decide) rs, show Lib.splitB cmB 0 (Lib.countB rs cmB) rs = piecesS cmB rs from rfl, ← hps, ← hn] at h
      exact h)
    rw [← hps] at HDB
    have HN := Lib.hid hn
    clear hmm mm hps hn
    go_wp2_with fail
    refine HSP.out.mono ?_
    rintro e w4 ⟨rfl, hw4⟩
    have hb4 : Below w3.heap.size w3 w4 := by rw [hw4]; exact below_alloc _ (Below.refl _ _)
    have HP := Lib.hid (show w4.heap[w3.heap.size]? = some (.cells (ps.map Value.string).toArray 9 (0, 0)) by rw [hw4]; exact blk_new _ _)
    have HX := Lib.hid (blk_below HXg.out hb4)
    have HZ := Lib.hid (blk_below HZ3.out hb4)
    have HB := Lib.hid (HB3.out.trans (hb4.mono HB3.out.size))
    obtain ⟨gp, hgp⟩ : ∃ z, z = w3.heap.size := ⟨_, rfl⟩
    rw [← hgp] at HP ⊢
    clear hw4 hb4 hgp HSP HXg HB3 HZ3 w3
    go_wp2_with fail
    obtain ⟨wq, hwq⟩ : ∃ wq, wq = w4 := ⟨_, rfl⟩
    rw [← hwq] at HX HP HZ HB ⊢
    clear hwq w4
    go_loopw [29] (fun i wr => ∃ (j : Nat) (v : Value), j ≤ n ∧ i = .int .i64 (j : Nat) ∧ okB ps j ∧ wr.heap[gx]? = some (.cells #[.int .i64 1, .string ⟨#[]⟩, v, .int .i64 0] 67 (0, 0)) ∧ RowU wr w.heap.size v (bsF ps j) ∧ wr.heap[gp]? = some (.cells (ps.map Value.string).toArray 9 (0, 0)) ∧ wr.heap[g]? = some (.cells #[.int .i64 0, .string ⟨#[]⟩, .slice none 0 0, .int .i64 0] 67 (0, 0)) ∧ Below w.heap.size w wr) (fun i _ => n - (intOf i).toNat)
    case atStart => exact ⟨0, .slice none 0 0, by omega, rfl, (fun i p h => by omega), HZ.out, World.ownsRow_nil _ _ _ _, HP.out, HX.out, HB.out⟩
    case round =>
      rename World => wr
      clear HX HP HZ HB
      obtain ⟨j, v, hj, rfl, hok, hz, hrow, hp, hx, hb⟩ := hrel
      have HOK := Lib.hid hok
      have HZ := Lib.hid hz
      have HROW := Lib.hid hrow
      have HP := Lib.hid hp
      have HX := Lib.hid hx
      have HB := Lib.hid hb
      clear hok hz hrow hp hx hb
      by_cases hlt : j < n
      · obtain ⟨p, hp⟩ : ∃ p, ps[j]? = some p := ⟨_, List.getElem?_eq_getElem (by have := HN.out; omega)⟩
        have HPJ := Lib.hid hp
        have HLT := Lib.hid hlt
        have hnb := HNB.out
        have c0 : wr.cell? ⟨gp, j, none⟩ = some (.string p) := blk_cell HP.out (by simp [hp])
        have cl := blk_lt HP.out
        clear hp
        go_wp2_with fail
        refine (number_any wr (HR.out.later HB.out) p (HPL.out p (List.mem_of_getElem? HPJ.out))).mono ?_
        rintro e w5 ⟨u, hu, rfl, hnu, hb5⟩
        have HX5 := Lib.hid (blk_below HX.out hb5)
        have HZ5 := Lib.hid (blk_below HZ.out hb5)
        have HP5 := Lib.hid (blk_below HP.out hb5)
        have HR5 := Lib.hid (own_below HROW.out hb5)
        have HB5 := Lib.hid (HB.out.trans (hb5.mono HB.out.size))
        clear hb5 HX HZ HP HROW HB c0 cl
        cases hnf : numF p.data.toList with
        | none =>
          rw [Option.isSome_none]
          have HBAD := Lib.hid (show bytesF ps = none by
            unfold bytesF
            rw [if_neg (fun h => by
              have h2 := h j p (by have := HN.out; have := HLT.out; omega) HPJ.out
              unfold byteF at h2
              rw [hnf] at h2
              cases h2)])
          clear hu hnu hnf
          go_wp2_with (refine wpList_store_blk (by rfl) 67 _ _ (by rfl) g (by rfl) (by rfl) HX5.out (by rfl) (by kernel_rfl) (by kernel_rfl) ?_; intro x7 k7 hb7 hz7 ho7; have q0 := blk_cell (i := 0) k7 rfl; have q1 := blk_cell (i := 1) k7 rfl; have q2 := blk_cell (i := 2) k7 rfl; have q3 := blk_cell (i := 3) k7 rfl)
          refine bodyPost_ret (by simp [results, Tryz.results35, go_sem, q0, q1, q2, q3]; try rfl) rfl ?_
          have hf : datumF s.data.toList = none := by rw [HDB.out, HBAD.out]; rfl
          exact ⟨⟨0, emB, [], 0⟩, .slice none 0 0, false, rfl, (fun h => by cases h), (fun _ => hf), World.ownsRow_nil _ _ _ _, hb7 _ _ HGE.out (by first | exact HB5.out | exact Below.drew HB5.out)⟩
        | some u' =>
          rw [Option.isSome_some]
          obtain rfl := hnu u' hnf
          have HNF := Lib.hid hnf
          clear hnu hnf
          by_cases h0 : u < 0
          · have d0 : decide (u < 0) = true := decide_eq_true h0
            have HBAD := Lib.hid (show bytesF ps = none by
              unfold bytesF
              rw [if_neg (fun h => by
                have h2 := h j p (by have := HN.out; have := HLT.out; omega) HPJ.out
                unfold byteF at h2
                rw [HNF.out] at h2
                simp only at h2
                rw [if_neg (by omega)] at h2
                cases h2)])
            clear h0 hu
            go_wp2_with (refine wpList_store_blk (by rfl) 67 _ _ (by rfl) g (by rfl) (by rfl) HX5.out (by rfl) (by kernel_rfl) (by kernel_rfl) ?_; intro x7 k7 hb7 hz7 ho7; have q0 := blk_cell (i := 0) k7 rfl; have q1 := blk_cell (i := 1) k7 rfl; have q2 := blk_cell (i := 2) k7 rfl; have q3 := blk_cell (i := 3) k7 rfl)
            refine bodyPost_ret (by simp [results, Tryz.results35, go_sem, q0, q1, q2, q3]; try rfl) rfl ?_
            have hf : datumF s.data.toList = none := by rw [HDB.out, HBAD.out]; rfl
            exact ⟨⟨0, emB, [], 0⟩, .slice none 0 0, false, rfl, (fun h => by cases h), (fun _ => hf), World.ownsRow_nil _ _ _ _, hb7 _ _ HGE.out (by first | exact HB5.out | exact Below.drew HB5.out)⟩
          have d0 : decide (u < 0) = false := decide_eq_false h0
          by_cases h9 : 255 < u
          · have d9 : decide (u > 255) = true := decide_eq_true h9
            have d9' : decide (255 < u) = true := decide_eq_true h9
            have HBAD := Lib.hid (show bytesF ps = none by
              unfold bytesF
              rw [if_neg (fun h => by
                have h2 := h j p (by have := HN.out; have := HLT.out; omega) HPJ.out
                unfold byteF at h2
                rw [HNF.out] at h2
                simp only at h2
                rw [if_neg (by omega)] at h2
                cases h2)])
            clear h0 hu h9
            go_wp2_with (refine wpList_store_blk (by rfl) 67 _ _ (by rfl) g (by rfl) (by rfl) HX5.out (by rfl) (by kernel_rfl) (by kernel_rfl) ?_; intro x7 k7 hb7 hz7 ho7; have q0 := blk_cell (i := 0) k7 rfl; have q1 := blk_cell (i := 1) k7 rfl; have q2 := blk_cell (i := 2) k7 rfl; have q3 := blk_cell (i := 3) k7 rfl)
            refine bodyPost_ret (by simp [results, Tryz.results35, go_sem, q0, q1, q2, q3]; try rfl) rfl ?_
            have hf : datumF s.data.toList = none := by rw [HDB.out, HBAD.out]; rfl
            exact ⟨⟨0, emB, [], 0⟩, .slice none 0 0, false, rfl, (fun h => by cases h), (fun _ => hf), World.ownsRow_nil _ _ _ _, hb7 _ _ HGE.out (by first | exact HB5.out | exact Below.drew HB5.out)⟩
          have d9 : decide (u > 255) = false := decide_eq_false h9
          have d9' : decide (255 < u) = false := decide_eq_false h9
          have HBV := Lib.hid (show byteF p.data.toList = some u by
            unfold byteF
            rw [HNF.out]
            simp only
            rw [if_pos (by omega)])
          have hwr : IntKind.u8.wrap u = u := by unfold IntKind.wrap; simp [IntKind.bits, IntKind.signed]; omega
          obtain ⟨Av, cv, hv⟩ := RowU.slice HR5.out
          obtain ⟨nv, hnv⟩ : ∃ z, z = (bsF ps j).length := ⟨_, rfl⟩
          have HNV := Lib.hid (show nv = j by rw [hnv]; exact bsF_len (by have := HN.out; omega))
          rw [← hnv] at hv
          clear hnv
          subst hv
          obtain ⟨v2, w6, hr, hri, hb6, hk6⟩ := RowU.push HR5.out HB5.out.size u w5.heap.size rfl (by have := bsF_len (ps := ps) (j := j) (by have := HN.out; omega); omega)
          have hri2 : RowU w6 w.heap.size v2 (bsF ps (j + 1)) := by rw [bsF_snoc HPJ.out, HBV.out]; exact hri
          obtain ⟨A2, cc2, hv2⟩ := RowU.slice hri2
          obtain ⟨n2, hn2⟩ : ∃ z, z = (bsF ps (j + 1)).length := ⟨_, rfl⟩
          rw [← hn2] at hv2
          subst hv2
          have HRI := Lib.hid hri2
          clear hri2 hn2
          have HX6 := Lib.hid (hk6.cells HX5.out (by decide))
          have HZ6 := Lib.hid (hk6.cells HZ5.out (by decide))
          have HP6 := Lib.hid (hk6.cells HP5.out (by decide))
          have HB6 := Lib.hid (HB5.out.trans hb6)
          clear hri hb6 hk6
          have z2 := blk_cell (i := 2) HZ5.out rfl
          have zl := blk_lt HZ5.out
          have y2 := blk_cell (i := 2) HZ6.out rfl
          have yl := blk_lt HZ6.out
          have yf := blk_free (i := 2) HZ6.out
          clear h0 h9 hu
          go_wp2_with (at_builtin; refine wpList_append_ro _ rfl _ _ _ rfl _ _ _ _ rfl rfl hr ?_)
          have HK7 := Lib.hid (kpT_set (i := 2) HZ6.out (.slice A2 n2 cc2))
          have HNE := Lib.hid (show g ≠ gx by have := HGG.out; omega)
          go_roundw
          case rel =>
            have hlt2 := HLT.out
            refine ⟨j + 1, .slice A2 n2 cc2, by omega, by go_num, fun i q hi hq => ?_, ?_, HK7.out.own HRI.out (by decide), HK7.out.cells HP6.out (by decide), blk_set HX6.out HNE.out _, HB6.out.setCell HWX.out _⟩
            · by_cases hij : i < j
              · exact HOK.out i q hij hq
              · have e : i = j := by omega
                subst e
                rw [HPJ.out] at hq
                cases hq
                rw [HBV.out]; rfl
            · have := blk_setCell (i := 2) HZ6.out (.slice A2 n2 cc2)
              exact this
          case measure => have hlt2 := HLT.out; simp [intOf]; omega
      · have e : j = n := by omega
        subst e
        have HFD := Lib.hid (show bytesF ps = some (bsF ps j) by
          unfold bytesF
          have hj : ps.length = j := HN.out.symm
          rw [hj, if_pos HOK.out])
        obtain ⟨Av, cv, hv⟩ := RowU.slice HROW.out
        obtain ⟨nv, hnv⟩ : ∃ z, z = (bsF ps j).length := ⟨_, rfl⟩
        rw [← hnv] at hv
        clear hnv
        subst hv
        have z0 := blk_cell (i := 0) HZ.out rfl
        have z1 := blk_cell (i := 1) HZ.out rfl
        have z2 := blk_cell (i := 2) HZ.out rfl
        have z3 := blk_cell (i := 3) HZ.out rfl
        have zl := blk_lt HZ.out
        clear hlt hj
        go_wp2_with (refine wpList_store_blk (by rfl) 67 _ _ (by rfl) g (by rfl) (by rfl) HX.out (by rfl) (by kernel_rfl) (by kernel_rfl) ?_; intro x7 k7 hb7 hz7 ho7; have q0 := blk_cell (i := 0) k7 rfl; have q1 := blk_cell (i := 1) k7 rfl; have q2 := blk_cell (i := 2) k7 rfl; have q3 := blk_cell (i := 3) k7 rfl)
        refine bodyPost_ret (by simp [results, Tryz.results35, go_sem, q0, q1, q2, q3]; try rfl) rfl ?_
        have hf : datumF s.data.toList = some ⟨1, emB, bsF ps j, 0⟩ := by rw [HDB.out, HFD.out]; rfl
        exact ⟨⟨1, emB, bsF ps j, 0⟩, .slice Av nv cv, true, rfl, (fun _ => hf), (fun h => by cases h), (kpT_store HX.out hz7 ho7).own HROW.out (by decide), hb7 _ _ HGE.out HB.out⟩
  have d1 : (nm.toList == [46, 98, 121, 116, 101]) = false := by rw [Lib.toList_data]; exact beq_eq_false_iff_ne.2 h1
  by_cases h2 : nm.data.toList = quL
  · obtain rfl := nm_eq h2
    have HDB := Lib.hid ((HDF.out.trans (if_neg h1)).trans (if_pos h2))
    clear HDF h1 h2 d1
    unfold quL
    go_wp2_with fail
    refine (named_any w2 rs (Nat.le_trans HLR.out (by unfold maxLen; decide))).mono ?_
    rintro e w3 ⟨rfl, hb⟩
    have HX3 := Lib.hid (blk_below HX2.out hb)
    have HB3 := Lib.hid (HB2.out.trans (hb.mono HB2.out.size))
    clear hb
    go_wp2_with (refine wpList_store_blk (by rfl) 67 _ _ (by rfl) g (by rfl) (by rfl) HX3.out (by rfl) (by kernel_rfl) (by kernel_rfl) ?_; intro x7 k7 hb7 hz7 ho7; have q0 := blk_cell (i := 0) k7 rfl; have q1 := blk_cell (i := 1) k7 rfl; have q2 := blk_cell (i := 2) k7 rfl; have q3 := blk_cell (i := 3) k7 rfl)
    refine bodyPost_ret (by simp [results, Tryz.results35, go_sem, q0, q1, q2, q3]; try rfl) rfl ?_
    refine ⟨⟨2, rs, [], 0⟩, .slice none 0 0, namedB rs, rfl, (fun h => ?_), (fun h => ?_), World.ownsRow_nil _ _ _ _, hb7 _ _ HGE.out HB3.out⟩
    · rw [HDB.out, if_pos h]
    · rw [HDB.out, if_neg (by rw [h]; decide)]
  have d2 : (nm.toList == [46, 113, 117, 97, 100]) = false := by rw [Lib.toList_data]; exact beq_eq_false_iff_ne.2 h2
  have HDB := Lib.hid ((HDF.out.trans (if_neg h1)).trans (if_neg h2))
  clear HDF h1 h2
  have ha := below_alloc (.cells (pubs.map fun x => Value.string ⟨⟨x⟩⟩).toArray 9) (Below.refl w2.heap.size w2)
  have HX := Lib.hid (blk_below HX2.out ha)
  have HB := Lib.hid (HB2.out.trans (ha.mono HB2.out.size))
  have HP := Lib.hid (blk_new w2 (.cells (pubs.map fun x => Value.string ⟨⟨x⟩⟩).toArray 9))
  clear ha
  go_wp2_with fail
  obtain ⟨w3, hw3⟩ : ∃ z, z = w2.alloc (.cells (pubs.map fun x => Value.string ⟨⟨x⟩⟩).toArray 9) := ⟨_, rfl⟩
  change Code.wp _ _ _ _ (w2.alloc (.cells (pubs.map fun x => Value.string ⟨⟨x⟩⟩).toArray 9))
  obtain ⟨gq, hgq⟩ : ∃ z, z = w2.heap.size := ⟨_, rfl⟩
  rw [← hw3] at HX HB HP ⊢
  rw [← hgq] at HP ⊢
  clear hw3 hgq HX2 HB2 w2
  go_loopw [66] (fun i wr => ∃ (j : Nat), j ≤ 3 ∧ i = .int .i64 (j : Nat) ∧ firstF (pubG nm.data.toList) j = none ∧ wr.heap[gq]? = some (.cells (pubs.map fun x => Value.string ⟨⟨x⟩⟩).toArray 9 (0, 0)) ∧ wr.heap[g]? = some (.cells #[.int .i64 0, .string ⟨#[]⟩, .slice none 0 0, .int .i64 0] 67 (0, 0)) ∧ Below w.heap.size w wr) (fun i _ => 3 - (intOf i).toNat)
  case atStart => exact ⟨0, by omega, rfl, rfl, HP.out, HX.out, HB.out⟩
  case round =>
    rename World => wr
    clear HX HP HB
    obtain ⟨j, hj, rfl, hf, hp, hx, hb⟩ := hrel
    have HF := Lib.hid hf
    have HP := Lib.hid hp
    have HX := Lib.hid hx
    have HB := Lib.hid hb
    clear hf hp hx hb
    by_cases hlt : j < 3
    · obtain ⟨k, hk⟩ : ∃ k : ByteArray, k = ⟨⟨pubs.getD j []⟩⟩ := ⟨_, rfl⟩
      have c0 : wr.cell? ⟨gq, j, none⟩ = some (.string k) := blk_cell HP.out (by rw [hk]; exact pubs_at j hlt)
      have cl := blk_lt HP.out
      have HK := Lib.hid hk
      have HLT := Lib.hid hlt
      have d3 : decide ((j : Int) < 3) = true := decide_eq_true (by omega)
      clear hk
      by_cases he : k = nm
      · have dn : (k.toList == nm.toList) = true := by rw [he]; simp
        have HSN := Lib.hid (show k.data.toList = nm.data.toList by rw [he])
        have hfj : pubG nm.data.toList j = some j := by unfold pubG; rw [if_pos (by rw [← HSN.out, HK.out])]
        have HFF := Lib.hid (firstF_hit HF.out hfj hlt)
        have HDJ := Lib.hid (show datumF s.data.toList = numD (3 + (j : Int)) rs.data.toList by rw [HDB.out, HFF.out])
        clear he hfj HDB HFF HF
        go_wp2_with fail
        refine (number_any wr (HR.out.later HB.out) rs HLR.out).mono ?_
        rintro e w5 ⟨u, hu, rfl, hnu, hb5⟩
        have HX5 := Lib.hid (blk_below HX.out hb5)
        have HB5 := Lib.hid (HB.out.trans (hb5.mono HB.out.size))
        clear hb5 HX HB HP c0 cl dn d3
        cases hnf : numF rs.data.toList with
        | none =>
          rw [Option.isSome_none]
          have HBAD := Lib.hid (show numD (3 + (j : Int)) rs.data.toList = none by unfold numD; rw [hnf])
          clear hu hnu hnf
          go_wp2_with (refine wpList_store_blk (by rfl) 67 _ _ (by rfl) g (by rfl) (by rfl) HX5.out (by rfl) (by kernel_rfl) (by kernel_rfl) ?_; intro x7 k7 hb7 hz7 ho7; have q0 := blk_cell (i := 0) k7 rfl; have q1 := blk_cell (i := 1) k7 rfl; have q2 := blk_cell (i := 2) k7 rfl; have q3 := blk_cell (i := 3) k7 rfl)
          refine bodyPost_ret (by simp [results, Tryz.results35, go_sem, q0, q1, q2, q3]; try rfl) rfl ?_
          exact ⟨⟨3 + (j : Int), emB, [], u⟩, .slice none 0 0, false, rfl, (fun h => by cases h), (fun _ => HDJ.out.trans HBAD.out), World.ownsRow_nil _ _ _ _, hb7 _ _ HGE.out HB5.out⟩
        | some u' =>
          rw [Option.isSome_some]
          obtain rfl := hnu u' hnf
          have HNF := Lib.hid hnf
          clear hnu hnf
          by_cases h0 : 0 ≤ u
          · have d0 : decide (u ≥ 0) = true := decide_eq_true h0
            have d0' : decide (0 ≤ u) = true := decide_eq_true h0
            by_cases h9 : u ≤ 65536
            · have d9 : decide (u ≤ 65536) = true := decide_eq_true h9
              have HGD := Lib.hid (show numD (3 + (j : Int)) rs.data.toList = some ⟨3 + (j : Int), emB, [], u⟩ by unfold numD; rw [HNF.out]; simp only; rw [if_pos ⟨h0, h9⟩])
              clear h0 h9 hu
              go_wp2_with (refine wpList_store_blk (by rfl) 67 _ _ (by rfl) g (by rfl) (by rfl) HX5.out (by rfl) (by kernel_rfl) (by kernel_rfl) ?_; intro x7 k7 hb7 hz7 ho7; have q0 := blk_cell (i := 0) k7 rfl; have q1 := blk_cell (i := 1) k7 rfl; have q2 := blk_cell (i := 2) k7 rfl; have q3 := blk_cell (i := 3) k7 rfl)
              refine bodyPost_ret (by simp [results, Tryz.results35, go_sem, q0, q1, q2, q3]; try rfl) rfl ?_
              exact ⟨⟨3 + (j : Int), emB, [], u⟩, .slice none 0 0, true, rfl, (fun _ => HDJ.out.trans HGD.out), (fun h => by cases h), World.ownsRow_nil _ _ _ _, hb7 _ _ HGE.out HB5.out⟩
            · have d9 : decide (u ≤ 65536) = false := decide_eq_false h9
              have HBAD := Lib.hid (show numD (3 + (j : Int)) rs.data.toList = none by unfold numD; rw [HNF.out]; simp only; rw [if_neg (fun h => h9 h.2)])
              clear h0 h9 hu
              go_wp2_with (refine wpList_store_blk (by rfl) 67 _ _ (by rfl) g (by rfl) (by rfl) HX5.out (by rfl) (by kernel_rfl) (by kernel_rfl) ?_; intro x7 k7 hb7 hz7 ho7; have q0 := blk_cell (i := 0) k7 rfl; have q1 := blk_cell (i := 1) k7 rfl; have q2 := blk_cell (i := 2) k7 rfl; have q3 := blk_cell (i := 3) k7 rfl)
              refine bodyPost_ret (by simp [results, Tryz.results35, go_sem, q0, q1, q2, q3]; try rfl) rfl ?_
              exact ⟨⟨3 + (j : Int), emB, [], u⟩, .slice none 0 0, false, rfl, (fun h => by cases h), (fun _ => HDJ.out.trans HBAD.out), World.ownsRow_nil _ _ _ _, hb7 _ _ HGE.out HB5.out⟩
          · have d0 : decide (u ≥ 0) = false := decide_eq_false h0
            have d0' : decide (0 ≤ u) = false := decide_eq_false h0
            have HBAD := Lib.hid (show numD (3 + (j : Int)) rs.data.toList = none by unfold numD; rw [HNF.out]; simp only; rw [if_neg (fun h => h0 h.1)])
            clear h0 hu
            go_wp2_with (refine wpList_store_blk (by rfl) 67 _ _ (by rfl) g (by rfl) (by rfl) HX5.out (by rfl) (by kernel_rfl) (by kernel_rfl) ?_; intro x7 k7 hb7 hz7 ho7; have q0 := blk_cell (i := 0) k7 rfl; have q1 := blk_cell (i := 1) k7 rfl; have q2 := blk_cell (i := 2) k7 rfl; have q3 := blk_cell (i := 3) k7 rfl)
            refine bodyPost_ret (by simp [results, Tryz.results35, go_sem, q0, q1, q2, q3]; try rfl) rfl ?_
            exact ⟨⟨3 + (j : Int), emB, [], u⟩, .slice none 0 0, false, rfl, (fun h => by cases h), (fun _ => HDJ.out.trans HBAD.out), World.ownsRow_nil _ _ _ _, hb7 _ _ HGE.out HB5.out⟩
      · have dn : (k.toList == nm.toList) = false := by rw [Lib.toList_data, Lib.toList_data]; exact beq_eq_false_iff_ne.2 (fun h => he (ByteArray.ext (Array.ext' h)))
        have HNG := Lib.hid (show pubG nm.data.toList j = none by
          unfold pubG
          rw [if_neg (fun h => he (by rw [HK.out]; exact ByteArray.ext (Array.ext' h)))])
        clear he
        go_wp2_with fail
        go_roundw
        case rel => exact ⟨j + 1, by have := HLT.out; omega, by go_num, firstF_next HF.out HNG.out, HP.out, HX.out, HB.out⟩
        case measure => have := HLT.out; simp [intOf]; omega
    · have e : j = 3 := by omega
      subst e
      clear hlt hj
      go_wp2_with (refine wpList_store_blk (by rfl) 67 _ _ (by rfl) g (by rfl) (by rfl) HX.out (by rfl) (by kernel_rfl) (by kernel_rfl) ?_; intro x7 k7 hb7 hz7 ho7; have q0 := blk_cell (i := 0) k7 rfl; have q1 := blk_cell (i := 1) k7 rfl; have q2 := blk_cell (i := 2) k7 rfl; have q3 := blk_cell (i := 3) k7 rfl)
      refine bodyPost_ret (by simp [results, Tryz.results35, go_sem, q0, q1, q2, q3]; try rfl) rfl ?_
      have hf : datumF s.data.toList = none := by rw [HDB.out, HF.out]
      exact ⟨⟨0, emB, [], 0⟩, .slice none 0 0, false, rfl, (fun h => by cases h), (fun _ => hf), World.ownsRow_nil _ _ _ _, hb7 _ _ HGE.out HB.out⟩
end Go.Proofs.YtmmpkkpmlaiapaaGreatDoor
