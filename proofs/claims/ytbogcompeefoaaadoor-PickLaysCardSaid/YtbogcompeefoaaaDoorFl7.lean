/- The walk of flow.Live. No condition. -/
import Derived.Test.YtbogcompeefoaaaDoorQf
namespace Go.Proofs.YtbogcompeefoaaaDoor
open Go.RowKit
set_option linter.unusedVariables false
set_option maxHeartbeats 1000000
def blkF (f : FuncD) (i : Nat) : BlockD := match f.blocks[i]? with
  | some b => b
  | none => ⟨[], ⟨0, 0, ⟨0, 0⟩, ⟨0, 0⟩, 0, 0⟩⟩
theorem blkF_of {f : FuncD} {i : Nat} {b : BlockD} (h : f.blocks[i]? = some b) : blkF f i = b := by unfold blkF; rw [h]
theorem set_ne {w : World} {b g o j : Nat} {x v : Value} (h : w.cell? ⟨b, o, none⟩ = some v) (hne : b ≠ g) : (w.setCell ⟨g, j, none⟩ x).cell? ⟨b, o, none⟩ = some v := by
  rw [World.cell?_of_block (a := ⟨b, o, none⟩) (w := w) (Below.heap_setCell w ⟨g, j, none⟩ x b hne)]
  exact h
theorem kept_at {w w' w1 : World} {b o : Nat} {v : Value} (h : w.cell? ⟨b, o, none⟩ = some v) (hf : w.frozen? ⟨b, o, none⟩ = false) (hb : Below w1.heap.size w1 w') (hl : w.heap = w1.heap := by rfl) : w'.cell? ⟨b, o, none⟩ = some v ∧ w'.frozen? ⟨b, o, none⟩ = false ∧ b < w'.heap.size := by
  have hw : b < w1.heap.size := by rw [← hl]; exact World.block_lt_of_cell? _ _ h
  have e1 : w1.cell? ⟨b, o, none⟩ = some v := by rw [← h]; simp [World.cell?, hl]
  have e2 : w1.frozen? ⟨b, o, none⟩ = false := by rw [← hf]; simp [World.frozen?, hl]
  exact ⟨(hb.cell (p := ⟨b, o, none⟩) hw).trans e1, (hb.frozen (p := ⟨b, o, none⟩) hw).trans e2, Nat.lt_of_lt_of_le hw hb.size⟩
theorem sets_apart_ {w w2 : World} {base : Nat} {v v2 : Value} {l l2 : List Nat} (h : SetR w base v l) (h2 : SetR w2 w.heap.size v2 l2) : v.ownBlock = none ∨ v.ownBlock ≠ v2.ownBlock := by
  cases e : v.ownBlock with
  | none => exact Or.inl rfl
  | some g => exact Or.inr (fun e2 => by have := (h.1.lt g e).2; have := (h2.1.lt g e2.symm).1; omega)
theorem updL_const (m : Nat) (z : List Nat) : updL (fun _ => z) m z = fun _ => z := by
  funext j
  unfold updL
  split <;> rfl
theorem drew_below' (w : World) : Below w.heap.size w w.drew := below_drewN (Below.refl _ _) 1
theorem SlR.blk {α : Type} {w : World} {C : Nat} {R : List Value → α → Prop} {v : Value} {xs : List α} (h : SlR w C R v xs) (hC : 0 < C) : xs = [] ∨ ∃ b, v.ownBlock = some b ∧ b < w.heap.size := by
  obtain ⟨A, cap, rfl, h2, h3, h4⟩ := h
  cases xs with
  | nil => exact Or.inl rfl
  | cons x xs =>
    obtain ⟨b, o, cs, rfl, g2, g3, _⟩ := h4 0 x rfl
    refine Or.inr ⟨b, rfl, ?_⟩
    have := g3 0 hC
    rw [List.getElem?_eq_getElem (by omega)] at this
    exact World.block_lt_of_cell? _ _ this
/-- what Live answers -/
def LiveR (w : World) (f : FuncD) (n K : Nat) (e : Ending) (w' : World) : Prop :=
  ∃ (iv ov : Value) (vs : List Value) (I O : Nat → List Nat), e = .returned (.tuple #[iv, ov]) ∧ LS w w' w.heap.size n n iv ov vs I O ∧ LInv (blkF f) (nxF f) n K I O ∧ LDone (blkF f) (nxF f) n K I O 0
set_option maxRecDepth 100000 in
theorem live_sets (W0 w : World) (h0 : Below W0.heap.size W0 w) (fb fo : Nat) (f : FuncD) (vb : Value) (c5 : w.cell? ⟨fb, fo + 5, none⟩ = some vb) (R : Nat) (c3 : w.cell? ⟨fb, fo + 3, none⟩ = some (.int .i64 (R : Nat))) (hb : SlR W0 9 (BlockR W0) vb f.blocks)
    (n : Nat) (hn : n = f.blocks.length) (h0n : 0 < n) (hn6 : n ≤ 1000000) (hR6 : R ≤ 1000000) (hnx : ∀ i k, i < n → k ∈ nxF f i → 0 ≤ k ∧ k < n) (hslim : ∀ b ∈ f.blocks, ∀ x ∈ b.ins, x.args.length ≤ 1000000) :
    Calls Tryd.prog 52 #[.pointer (some ⟨fb, fo, none⟩)] w (LiveR w f n ((R + 63) / 64)) := by
  obtain ⟨A, cap, rfl, _, m3, hi⟩ := hb
  have HI := Lib.hid hi
  have HX := Lib.hid hnx
  have H0 := Lib.hid h0
  have HN := Lib.hid hn
  have HSl := Lib.hid hslim
  have C5 := Lib.hid c5
  have C3 := Lib.hid c3
  rw [← hn] at c5 C5
  obtain ⟨w1, hr1, ho1, hb1⟩ := make_sets w.drew n hn6
  obtain ⟨w2, hr2, ho2, hb2⟩ := make_sets w1 n hn6
  obtain ⟨L1, L2⟩ := LS.start (w := w) (n := n) ho1 ⟨hb1.os, hb1.tape, hb1.output, hb1.size, hb1.block⟩ ho2 hb2 (fun _ => List.replicate ((R + 63) / 64) 0) (fun _ => List.replicate ((R + 63) / 64) 0)
  have HL1 := Lib.hid L1
  have HL2 := Lib.hid L2
  have BB := Lib.hid (Nat.le_refl w.heap.size)
  clear hi hnx h0 hn m3 hslim c3 ho1 ho2 hb1 hb2 L1 L2
  go_enter Tryd.func52, Tryd.ntmps52
  go_wp2_with fail
  go_cut [5, 6] (fun a b wx => LS w wx w.heap.size n 0 a b (List.replicate (2 * n) (.slice none 0 0)) (fun _ => List.replicate ((R + 63) / 64) 0) (fun _ => List.replicate ((R + 63) / 64) 0))
  case first =>
    go_region
    all_goals (try go_wp2_with fail)
    all_goals go_meet
    all_goals first | exact HL1.out | exact HL2.out
  case rest =>
    have HC := Lib.hid hcut
    obtain ⟨gi, ci, hiv, _, _, hgi, _⟩ := own_form hcut.ri h0n
    obtain ⟨go, co, hov, _, _, hgo, _⟩ := own_form hcut.ro h0n
    subst hiv hov
    have hgg : gi ≠ go := by
      rcases hcut.dd with e | e
      · cases e
      · exact fun e2 => e (by rw [e2]; rfl)
    have hfl : fb < w.heap.size := World.block_lt_of_cell? _ _ C3.out
    have hfi : fb ≠ gi := by omega
    have hfo : fb ≠ go := by omega
    have HGG := Lib.hid hgg
    clear hcut hgi hgo hfl c5
    go_wp2_with fail
    go_loopw [25] (fun i wr => ∃ (m : Nat) (vs : List Value), m ≤ n ∧ i = .int .i64 m ∧ LS w wr w.heap.size n m (.slice (some ⟨gi, 0, none⟩) n ci) (.slice (some ⟨go, 0, none⟩) n co) vs (fun _ => List.replicate ((R + 63) / 64) 0) (fun _ => List.replicate ((R + 63) / 64) 0)) (fun i _ => n - (intOf i).toNat)
    case atStart => exact ⟨0, _, by omega, rfl, HC.out⟩
    case round =>
      obtain ⟨m, vs, hm, rfl, hL⟩ := hrel
      have HL := Lib.hid hL
      clear hL HC
      by_cases hlt : m < n
      · obtain ⟨hv1, hv2⟩ := HL.out.rest m (by omega) hlt
        obtain ⟨ci1, fi1, li1⟩ := HL.out.cellI hlt hv1
        obtain ⟨co1, fo1, lo1⟩ := HL.out.cellO hlt hv2
        have c3 := later C3.out HL.out.below
        have C3r := Lib.hid c3
        have CI := Lib.hid (And.intro ci1 (And.intro fi1 li1))
        have CO := Lib.hid (And.intro co1 (And.intro fo1 lo1))
        clear hv1 hv2 ci1 fi1 li1 co1 fo1 lo1
        go_wp2_with fail
        go_region_held3 (fun w' => w'.cell? ⟨fb, fo + 3, none⟩ = some (.int .i64 (R : Nat)))
          (first | exact C3r.out | exact later (by assumption) hb2 | exact later (by assumption) hb1 | exact set_ne (by assumption) hfi | exact set_ne (by assumption) hfo)
          ((first
            | (have hz := hs1; go_at_call 51; refine (empty_any _ R hR6).mono ?_; rintro e w4 ⟨v2, rfl, hs2, hb2⟩; obtain ⟨A4, k4, hv4, _⟩ := hs2.slice_; subst hv4; obtain ⟨ci2, fi2, li2⟩ := kept_at hci3 hfi3 hb2; obtain ⟨co2, fo2, lo2⟩ := kept_at hco3 hfo3 hb2)
            | (go_at_call 51; refine (empty_any _ R hR6).mono ?_; rintro e w3 ⟨v1, rfl, hs1, hb1⟩; obtain ⟨A3, k3, hv3, _⟩ := hs1.slice_; subst hv3; obtain ⟨hci3, hfi3, _⟩ := kept_at CI.out.1 CI.out.2.1 hb1; obtain ⟨hco3, hfo3, _⟩ := kept_at CO.out.1 CO.out.2.1 hb1)))
        simp only [List.length_replicate] at hs1 hs2
        have hbb : Below wr.heap.size wr w4 := (show Below wr.heap.size wr w3 from ⟨hb1.os, hb1.tape, hb1.output, hb1.size, hb1.block⟩).bt hb2
        have hd12 := sets_apart_ hs1 hs2
        have hF := LS.fill HL.out BB.out hlt (w2 := w4) (set_below hs1 hb2) ⟨own_base hs2.1 hb1.size, hs2.2⟩ hd12 hbb
        rw [updL_const] at hF
        have HF := Lib.hid hF
        clear hs1 hs2 hb1 hb2 hbb hd12 hF
        go_wp2_with fail
        go_roundw
        case rel => exact ⟨m + 1, _, by omega, by go_num, HF.out⟩
        case measure => simp [intOf]; omega
      · have e : m = n := by omega
        subst e
        have HI0 := Lib.hid (LInv.start (blkF f) (nxF f) m ((R + 63) / 64))
        have hKb : (R + 63) / 64 ≤ 1000000 := by omega
        have HKB := Lib.hid hKb
        clear hKb
        generalize (R + 63) / 64 = K at *
        clear C3 HGG
        go_wp2_with fail
        go_loopg [8] (m * (64 * K) + 1) (fun g a wr => ∃ (ag : Bool) (vs : List Value) (I O : Nat → List Nat), a = .bool ag ∧ LS w wr w.heap.size m m (.slice (some ⟨gi, 0, none⟩) m ci) (.slice (some ⟨go, 0, none⟩) m co) vs I O ∧ LInv (blkF f) (nxF f) m K I O ∧ (ag = true → m * (64 * K) + 1 ≤ tot K I m + g) ∧ (ag = false → LDone (blkF f) (nxF f) m K I O 0))
        case atStart => exact ⟨true, vs, _, _, rfl, HL.out, HI0.out, (fun _ => by omega), (fun h => by cases h)⟩
        case round =>
          obtain ⟨ag, vs, I, O, rfl, hL, hI, hT, hD⟩ := hrel
          have HLg := Lib.hid hL
          have HIg := Lib.hid hI
          cases ag
          · have HDg := Lib.hid (hD rfl)
            clear hL hI hT hD
            go_wp2_with fail
            go_returns
            exact ⟨_, _, vs, I, O, rfl, HLg.out, HIg.out, HDg.out⟩
          · have HTg := Lib.hid (hT rfl)
            clear hL hI hT hD
            go_wp2_with fail
            go_loopw [8, 9] (fun a i wr => ∃ (ag : Bool) (j : Nat) (vs : List Value) (I2 O2 : Nat → List Nat), a = .bool ag ∧ j ≤ m ∧ i = .int .i64 ((j : Int) - 1) ∧ LS w wr w.heap.size m m (.slice (some ⟨gi, 0, none⟩) m ci) (.slice (some ⟨go, 0, none⟩) m co) vs I2 O2 ∧ LInv (blkF f) (nxF f) m K I2 O2 ∧ (ag = true → tot K I m < tot K I2 m) ∧ tot K I m ≤ tot K I2 m ∧ (ag = false → LDone (blkF f) (nxF f) m K I2 O2 j)) (fun _ i _ => (intOf i + 1).toNat)
            case atStart => exact ⟨false, m, vs, I, O, rfl, Nat.le_refl _, rfl, HLg.out, HIg.out, (fun h => by cases h), Nat.le_refl _, (fun _ b h1 h2 => by omega)⟩
            case round =>
              obtain ⟨ag, j, vs, I2, O2, rfl, hj, rfl, hL, hI, hT, hTl, hD⟩ := hrel
              have HTL := Lib.hid hTl
              have HL2 := Lib.hid hL
              have HI2 := Lib.hid hI
              have HT2 := Lib.hid hT
              have HD2 := Lib.hid hD
              clear hL hI hT hD hTl HLg HIg HL HI0
              rcases Nat.eq_zero_or_pos j with e | e
              · subst e
                go_wp2_with fail
                go_roundg (gk - 1)
                case measure => have := HTg.out; have := tot_le K I m; omega
                case rel => exact ⟨ag, vs, I2, O2, rfl, HL2.out, HI2.out, (fun h => by have := HT2.out h; have := HTg.out; omega), HD2.out⟩
              · obtain ⟨b, rfl⟩ : ∃ b, j = b + 1 := ⟨j - 1, by omega⟩
                clear e
                have hbn : b < m := by omega
                have hjb : (((b + 1 : Nat) : Int) - 1) = (b : Nat) := by omega
                rw [hjb]
                clear hjb
                obtain ⟨blk, hblk⟩ : ∃ b', f.blocks[b]? = some b' := ⟨_, List.getElem?_eq_getElem (by rw [← HN.out]; exact hbn)⟩
                obtain ⟨bb, bo, cs, rfl, e1, e2, vi, e3, y1, y2, t1, t2, t3, t4, t5, t6, t7, t8⟩ := HI.out b blk hblk
                subst e3
                have H03 := H0.out.trans (HL2.out.below.mono H0.out.size)
                have HY1 := Lib.hid y1
                obtain ⟨A9, cap9, rfl, _, _, h9⟩ := y1
                have H9 := Lib.hid h9
                have HT4 := Lib.hid (And.intro t3 t4)
                have HT5 := Lib.hid (And.intro t5 t6)
                have r0 := later (e2 0 (by omega)) H03
                have r1 := later (e2 1 (by omega)) H03
                have r2 := later (e2 2 (by omega)) H03
                have r3 := later (e2 3 (by omega)) H03
                have r4 := later (e2 4 (by omega)) H03
                have r5 := later (e2 5 (by omega)) H03
                have r6 := later (e2 6 (by omega)) H03
                have r7 := later (e2 7 (by omega)) H03
                have r8 := later (e2 8 (by omega)) H03
                rw [Nat.add_zero] at r0
                have c5' := later C5.out HL2.out.below
                have HNx := Lib.hid (nxF_of hblk)
                have HBk := Lib.hid (blkF_of hblk)
                have HSb := Lib.hid (HSl.out blk (List.mem_of_getElem? hblk))
                have hil : blk.ins.length ≤ 140737488351232 := y2
                have hxb : (bb, bo) = (bb, bo) := rfl
                clear e1 e2 y2 t1 t2 t3 t4 t5 t6 t7 t8 hblk H03 h9 hxb
                go_wp2_with fail
                have HBO := Lib.hid (blk_new wr (.cells #[.slice A9 blk.ins.length cap9, .int .i64 blk.term.kind, .int .i64 blk.term.op, .int .i64 blk.term.a.reg, .int .i64 blk.term.a.num, .int .i64 blk.term.b.reg, .int .i64 blk.term.b.num, .int .i64 blk.term.to_, .int .i64 blk.term.els] 58))
                refine (next_own _ blk.term).mono ?_
                rintro e w4 ⟨v4, rfl, ho4, hb4⟩
                have L4 := Lib.hid (HL2.out.more BB.out (below_new hb4))
                have O4 := Lib.hid (own_base ho4 (Nat.zero_le _))
                have HBO4 := Lib.hid (blk_kept HBO.out (grown_of_below (r := none) hb4) (Or.inl rfl))
                clear r0 r1 r2 r3 r4 r5 r6 r7 r8 hb4 ho4 c5' HBO HL2
                generalize wr.heap.size = gb at *
                obtain ⟨A4, cap4, hv4, hm4⟩ := own_slice O4.out
                subst hv4
                have hT2 := nextT_len blk.term
                have HNt := Lib.hid (Eq.refl (nextT blk.term))
                generalize hnt : nextT blk.term = nt at *
                have HTl := Lib.hid hT2
                clear hm4 hT2 hnt HNt
                go_wp2_with fail
                go_loopw [63] (fun i wr => ∃ (q : Nat) (O3 : Nat → List Nat), q ≤ nt.length ∧ i = .int .i64 q ∧ LS w wr w.heap.size m m (.slice (some ⟨gi, 0, none⟩) m ci) (.slice (some ⟨go, 0, none⟩) m co) vs I2 O3 ∧ LInv (blkF f) (nxF f) m K I2 O3 ∧ OwnI wr 0 (.slice A4 nt.length cap4) nt ∧
                  wr.heap[gb]? = some (.cells #[.slice A9 blk.ins.length cap9, .int .i64 blk.term.kind, .int .i64 blk.term.op, .int .i64 blk.term.a.reg, .int .i64 blk.term.a.num, .int .i64 blk.term.b.reg, .int .i64 blk.term.b.num, .int .i64 blk.term.to_, .int .i64 blk.term.els] 58 (0, 0)) ∧
                  (∀ x, b < x → x < m → O3 x = O2 x) ∧ (∀ k : Nat, (k : Int) ∈ nt.take q → ∀ r, bitL (I2 k) r = true → bitL (O3 b) r = true)) (fun i _ => nt.length - (intOf i).toNat)
                case atStart => exact ⟨0, O2, by omega, rfl, L4.out, HI2.out, O4.out, HBO4.out, (fun _ _ _ => rfl), (fun k hk => by simp at hk)⟩
                case round =>
                  obtain ⟨q, O3, hq, rfl, hL, hI, hO, hB, hX, hT⟩ := hrel
                  have HL3 := Lib.hid hL
                  have HI3 := Lib.hid hI
                  have HO3 := Lib.hid hO
                  have HB3 := Lib.hid hB
                  have HX3 := Lib.hid hX
                  have HT3 := Lib.hid hT
                  have hnl := HTl.out
                  clear hL hI hB hX hT L4 O4 HBO4
                  by_cases hltq : q < nt.length
                  · obtain ⟨k, hk⟩ : ∃ k, nt[q]? = some k := ⟨_, List.getElem?_eq_getElem hltq⟩
                    have hkn := HX.out b k hbn (by rw [HNx.out]; exact List.mem_of_getElem? hk)
                    obtain ⟨k, rfl⟩ : ∃ k' : Nat, k = k' := ⟨k.toNat, by omega⟩
                    have hkm : k < m := by omega
                    obtain ⟨g4, k4, e4, _⟩ := own_form hO (by omega)
                    cases e4
                    have cc := hO.cell hltq _ hk
                    have HKq := Lib.hid hk
                    have HKx := Lib.hid (show (k : Int) ∈ nxF f b by rw [HNx.out]; exact List.mem_of_getElem? hk)
                    obtain ⟨u, hu, hsu⟩ := HL3.out.so b hbn
                    obtain ⟨v, hv, hsv⟩ := HL3.out.si k hkm
                    obtain ⟨cu, _, hgo2⟩ := HL3.out.cellO hbn hu
                    obtain ⟨cv, _, hgi2⟩ := HL3.out.cellI hkm hv
                    have HU := Lib.hid hu
                    have HSU := Lib.hid hsu
                    have HSV := Lib.hid hsv
                    have HAP := Lib.hid (HL3.out.ap k (m + b) v u (by omega) hv hu)
                    obtain ⟨Au, ku, hue, _⟩ := hsu.slice_
                    obtain ⟨Av, kv, hve, _⟩ := hsv.slice_
                    have hlu := HI3.out.lo b hbn
                    have hlv := HI3.out.li k hkm
                    rw [hlu] at hue
                    rw [hlv] at hve
                    subst hue hve
                    clear hO hk hkn hu hv hsu hsv hlu hlv
                    go_wp2_with fail
                    have hn1 : some go ≠ (Value.slice Au K ku).ownBlock := by
                      rcases own_ne HL3.out.ro HSU.out.1 (by decide) with h | h
                      · cases h
                      · exact h
                    have hn2 : some gi ≠ (Value.slice Au K ku).ownBlock := by
                      rcases own_ne HL3.out.ri HSU.out.1 (by decide) with h | h
                      · cases h
                      · exact h
                    have HN12 := Lib.hid (And.intro hn1 hn2)
                    have HCC := Lib.hid (And.intro cu cv)
                    have HJ := Lib.hid (join_any wr.drew w.heap.size w.heap.size _ _ _ _ (set_below HSU.out (drew_below' wr)) (set_below HSV.out (drew_below' wr)) HAP.out)
                    clear hn1 hn2
                    go_region_held3 (fun w' => w'.cell? ⟨go, b, none⟩ = some (.slice Au K ku) ∧ w'.cell? ⟨gi, k, none⟩ = some (.slice Av K kv))
                      (first | exact HCC.out | exact ⟨hg6.cell HCC.out.1 HN12.out.1, hg6.cell HCC.out.2 HN12.out.2⟩)
                      ((go_at_call 62; refine HJ.out.mono ?_; rintro e w6 ⟨rfl, hs6, hg6⟩))
                    have hmin : min (O3 b).length (I2 k).length = K := by rw [HI3.out.lo b hbn, HI3.out.li k hkm]; simp
                    rw [hmin] at hs6
                    have hgw : wr.grownBy w6 (Value.slice Au K ku).ownBlock := grown_trans (grown_of_below (drew_below' wr)) hg6
                    have L6 := Lib.hid (HL3.out.outSet BB.out hbn HU.out hs6 hgw)
                    have I6 := Lib.hid (HI3.out.out HX.out hbn HKx.out)
                    have O6 := Lib.hid (World.ownsRow.kept HO3.out hgw (own_ne HO3.out HSU.out.1 (by decide)))
                    have B6 := Lib.hid (blk_kept HB3.out hgw (own_blk HSU.out.1 HB3.out (by decide)))
                    have X6 := Lib.hid (fun x (h1 : b < x) (h2 : x < m) => (updL_other O3 (joinK (O3 b) (I2 k) K) (by omega : x ≠ b)).trans (HX3.out x h1 h2))
                    have T6 := Lib.hid (show ∀ k2 : Nat, (k2 : Int) ∈ nt.take (q + 1) → ∀ r, bitL (I2 k2) r = true → bitL (updL O3 b (joinK (O3 b) (I2 k) K) b) r = true by
                      intro k2 hk2 r hr
                      rw [updL_same, joinK_bits hmin.symm r (by rw [HI3.out.lo b hbn, HI3.out.li k hkm])]
                      rcases take_mem HKq.out hk2 with h | h
                      · rw [HT3.out k2 h r hr]; rfl
                      · have : k2 = k := by omega
                        subst this
                        rw [hr]; simp)
                    clear hs6 hg6 hgw hmin cc HJ
                    go_wp2_with fail
                    go_roundw
                    case rel => exact ⟨q + 1, _, by omega, by go_num, L6.out, I6.out, O6.out, B6.out, X6.out, T6.out⟩
                    case measure => simp [intOf]; omega
                  · have e : q = nt.length := by omega
                    subst e
                    have HT4b := Lib.hid (show ∀ k : Nat, (k : Int) ∈ nxF f b → ∀ r, bitL (I2 k) r = true → bitL (O3 b) r = true by rw [HNx.out]; have := HT3.out; rwa [List.take_length] at this)
                    obtain ⟨u, hu, hsu⟩ := HL3.out.so b hbn
                    obtain ⟨cu, _, hgo2⟩ := HL3.out.cellO hbn hu
                    have HSU := Lib.hid hsu
                    have hlu := HI3.out.lo b hbn
                    obtain ⟨Au, ku, hue, hKm⟩ := hsu.slice_
                    rw [hlu] at hue hKm
                    subst hue
                    clear hO hu hsu HT3 HO3
                    go_wp2_with fail
                    clear cu hgo2
                    obtain ⟨wz, rfl⟩ : ∃ wo : World, wo = wr := ⟨_, rfl⟩
                    refine (copy_any _ w.heap.size _ _ HSU.out (by rw [hlu]; exact HKB.out)).mono ?_
                    rintro e w5 ⟨sv, rfl, hs5, hb5⟩
                    have HS5 := Lib.hid hs5
                    have HB5 := Lib.hid hb5
                    have HO5 := Lib.hid (blk_kept HB3.out (grown_of_below (r := none) hb5) (Or.inl rfl))
                    have k1 : w5.cell? ⟨gb, 1, none⟩ = some (.int .i64 blk.term.kind) := blk_cell HO5.out rfl
                    have k2 : w5.cell? ⟨gb, 2, none⟩ = some (.int .i64 blk.term.op) := blk_cell HO5.out rfl
                    have k3 : w5.cell? ⟨gb, 3, none⟩ = some (.int .i64 blk.term.a.reg) := blk_cell HO5.out rfl
                    have k4 : w5.cell? ⟨gb, 4, none⟩ = some (.int .i64 blk.term.a.num) := blk_cell HO5.out rfl
                    have k5 : w5.cell? ⟨gb, 5, none⟩ = some (.int .i64 blk.term.b.reg) := blk_cell HO5.out rfl
                    have k6 : w5.cell? ⟨gb, 6, none⟩ = some (.int .i64 blk.term.b.num) := blk_cell HO5.out rfl
                    have k7 : w5.cell? ⟨gb, 7, none⟩ = some (.int .i64 blk.term.to_) := blk_cell HO5.out rfl
                    have k8 : w5.cell? ⟨gb, 8, none⟩ = some (.int .i64 blk.term.els) := blk_cell HO5.out rfl
                    have hgb5 := blk_lt HO5.out
                    clear hs5 hb5 hlu hKm
                    go_wp2_with fail
                    refine (treads_new _ blk.term HT4.out HT5.out).mono ?_
                    rintro e w6 ⟨v6, rfl, hv6, hb6, how6⟩
                    have HS6 := Lib.hid (set_below HS5.out hb6)
                    have HB6 := Lib.hid (HB5.out.bt hb6)
                    have HV6 := Lib.hid hv6
                    have HD6 := Lib.hid (show readsT blk.term = [] ∨ v6.ownBlock ≠ sv.ownBlock by
                      rcases how6 with rfl | ⟨B, n', xs, ho⟩
                      · exact Or.inl (hv6.nil_of rfl)
                      · rcases own_ne ho HS6.out.1 (by decide) with h | h
                        · exact Or.inl (hv6.nil_of h)
                        · exact Or.inr h)
                    clear k1 k2 k3 k4 k5 k6 k7 k8 hgb5 hv6 hb6 how6 HS5 HB5 HO5
                    go_wp2_with fail
                    refine (use_any _ wz.heap.size sv v6 _ _ HS6.out HV6.out HD6.out).mono ?_
                    rintro e w7 ⟨rfl, hs7, hg7⟩
                    have HS7 := Lib.hid hs7
                    have HB7 := Lib.hid (below_of_grown HB6.out (Nat.le_refl _) hg7 (fun k hk => (HS6.out.1.lt k hk).1))
                    have hgz : gb < wz.heap.size := blk_lt HB3.out
                    have HGZ := Lib.hid hgz
                    have k0 : w7.cell? ⟨gb, 0, none⟩ = some (.slice A9 blk.ins.length cap9) := blk_cell ((HB7.out.block gb hgz).trans HB3.out) rfl
                    have hg7' : gb < w7.heap.size := Nat.lt_of_lt_of_le hgz HB7.out.size
                    clear hs7 hg7 HS6 HB6 HV6 HD6 hgz
                    go_wp2_with fail
                    clear k0 hg7'
                    go_loopw [14] (fun i wr => ∃ q : Nat, q ≤ blk.ins.length ∧ i = .int .i64 ((q : Int) - 1) ∧ SetR wr wz.heap.size sv (backsL (useL (O3 b) (readsT blk.term)) (blk.ins.drop q)) ∧ Below wz.heap.size wz wr) (fun i _ => (intOf i + 1).toNat)
                    case atStart => exact ⟨blk.ins.length, Nat.le_refl _, by go_num, by rw [List.drop_length]; exact HS7.out, HB7.out⟩
                    case round =>
                      obtain ⟨q, hq, rfl, hs, hb⟩ := hrel
                      have HS8 := Lib.hid hs
                      have HB8 := Lib.hid hb
                      clear hs hb HS7 HB7
                      have k0 : wr.cell? ⟨gb, 0, none⟩ = some (.slice A9 blk.ins.length cap9) := blk_cell ((HB8.out.block gb HGZ.out).trans HB3.out) rfl
                      have hg8 : gb < wr.heap.size := Nat.lt_of_lt_of_le HGZ.out HB8.out.size
                      rcases Nat.eq_zero_or_pos q with e | e
                      · subst e
                        have HS9 := Lib.hid (show SetR wr wz.heap.size sv (transL (blkF f b) (O3 b)) by rw [HBk.out]; have := HS8.out; rwa [List.drop_zero] at this)
                        have HL9 := Lib.hid (HL3.out.more BB.out HB8.out)
                        obtain ⟨v, hv, hsv⟩ := HL9.out.si b hbn
                        obtain ⟨cv, _, hgi2⟩ := HL9.out.cellI hbn hv
                        have HV := Lib.hid hv
                        have HSV := Lib.hid hsv
                        have HAP := Lib.hid (show sv.ownBlock = none ∨ sv.ownBlock ≠ v.ownBlock by
                          cases e : sv.ownBlock with
                          | none => exact Or.inl rfl
                          | some g => exact Or.inr (fun e2 => by have := (HS8.out.1.lt g e).1; have := HL3.out.lt b v hv g e2.symm; omega))
                        obtain ⟨Av, kv, hve, _⟩ := hsv.slice_
                        have hlv := HI3.out.li b hbn
                        rw [hlv] at hve
                        subst hve
                        have HJ := Lib.hid (join_any wr w.heap.size wz.heap.size _ sv _ _ HSV.out HS9.out HAP.out)
                        have HLt := Lib.hid (show (transL (blkF f b) (O3 b)).length = K by rw [transL_length, HI3.out.lo b hbn])
                        have HLv := Lib.hid hlv
                        clear hv hsv hlv HS8 k0 hg8
                        obtain ⟨mr, hmr⟩ : ∃ z, z = moreK (I2 b) (transL (blkF f b) (O3 b)) (min (I2 b).length (transL (blkF f b) (O3 b)).length) := ⟨_, rfl⟩
                        rw [← hmr] at HJ
                        have HMr := Lib.hid hmr
                        clear hmr
                        go_wp2_with fail
                        refine HJ.out.mono ?_
                        rintro e w9 ⟨rfl, hs9, hg9⟩
                        have L10 := Lib.hid (HL9.out.inSet BB.out hbn HV.out hs9 hg9)
                        have hmin : min (I2 b).length (transL (blkF f b) (O3 b)).length = K := by rw [HLv.out, HLt.out]; simp
                        have I10 := Lib.hid (show LInv (blkF f) (nxF f) m K (updL I2 b (joinK (I2 b) (transL (blkF f b) (O3 b)) (min (I2 b).length (transL (blkF f b) (O3 b)).length))) O3 by rw [hmin]; exact HI3.out.in_ HX.out hbn)
                        clear hs9 hg9 cv hgi2 hmin HJ
                        cases mr
                        · have hno := more_none (K := K) HLv.out HLt.out HSV.out.2 HS9.out.2 HMr.out.symm
                          have HTt := Lib.hid (tot_congr (K := K) m (fun x _ r => hno x r))
                          have HDd := Lib.hid (fun h : ag = false => done_step (blk := blkF f) (nx := nxF f) (K := K) hno HX3.out (HD2.out h) HT4b.out (fun r hr ht => in_has HLv.out (HI3.out.lo b hbn) hr ht))
                          clear hno
                          go_wp2_with fail
                          go_roundw
                          case rel => exact ⟨ag, b, vs, _, O3, rfl, by omega, by go_num, L10.out, I10.out, (fun h => by rw [HTt.out]; exact HT2.out h), by rw [HTt.out]; exact HTL.out, HDd.out⟩
                          case measure => first | omega | (simp [intOf]; done) | (simp [intOf]; omega)
                        · have HTt := Lib.hid (more_some (n := m) (K := K) hbn HLv.out HLt.out HSV.out.2 HS9.out.2 HMr.out.symm)
                          have HTl2 := Lib.hid HTL.out
                          go_wp2_with fail
                          go_roundw
                          case rel => exact ⟨true, b, vs, _, O3, rfl, by omega, by go_num, L10.out, I10.out, (fun _ => Nat.lt_of_le_of_lt HTl2.out HTt.out), Nat.le_of_lt (Nat.lt_of_le_of_lt HTl2.out HTt.out), (fun h => by cases h)⟩
                          case measure => first | omega | (simp [intOf]; done) | (simp [intOf]; omega)
                      · obtain ⟨q, rfl⟩ : ∃ q', q = q' + 1 := ⟨q - 1, by omega⟩
                        clear e
                        have hjq : (((q + 1 : Nat) : Int) - 1) = (q : Nat) := by omega
                        rw [hjq]
                        clear hjq
                        have hqi : q < blk.ins.length := by omega
                        obtain ⟨x, hx⟩ : ∃ x, blk.ins[q]? = some x := ⟨_, List.getElem?_eq_getElem hqi⟩
                        obtain ⟨ib, io, cs, rfl, e1, e2, va, e3, u1, u2, u3, u4, u5, u6, u7, u8, u9, u10, u11⟩ := H9.out q x hx
                        subst e3
                        have h08 := H0.out.trans ((HL3.out.below.trans (HB8.out.mono HL3.out.below.size)).mono H0.out.size)
                        have r0 := later (e2 0 (by omega)) h08
                        have r1 := later (e2 1 (by omega)) h08
                        have r2 := later (e2 2 (by omega)) h08
                        have r3 := later (e2 3 (by omega)) h08
                        have r4 := later (e2 4 (by omega)) h08
                        have r5 := later (e2 5 (by omega)) h08
                        have r6 := later (e2 6 (by omega)) h08
                        have r7 := later (e2 7 (by omega)) h08
                        have r8 := later (e2 8 (by omega)) h08
                        have r9 := later (e2 9 (by omega)) h08
                        have r10 := later (e2 10 (by omega)) h08
                        have r11 := later (e2 11 (by omega)) h08
                        rw [Nat.add_zero] at r0
                        have HU10 := Lib.hid (u10.later (by decide) h08)
                        have HDx := Lib.hid (show x.args = [] ∨ va.ownBlock ≠ sv.ownBlock by
                          rcases u10.blk (by decide) with h | ⟨b', h1, h2⟩
                          · exact Or.inl h
                          · refine Or.inr (fun e => ?_)
                            have := (HS8.out.1.lt b' (e.symm.trans h1)).1
                            have := H0.out.size
                            have := HL3.out.below.size
                            omega)
                        have HBa := Lib.hid (back_any wr wz.heap.size sv va _ x HS8.out u1 u2 ⟨u3, u4⟩ ⟨u5, u6⟩ HU10.out (HSb.out x (List.mem_of_getElem? hx)) HDx.out)
                        have HDr := Lib.hid (show backsL (useL (O3 b) (readsT blk.term)) (blk.ins.drop q) = backL (backsL (useL (O3 b) (readsT blk.term)) (blk.ins.drop (q + 1))) x by
                          rw [List.drop_eq_getElem_cons hqi]
                          rw [List.getElem?_eq_getElem hqi] at hx
                          rw [Option.some.inj hx]
                          rfl)
                        obtain ⟨A5, cap5, rfl, _, _, _⟩ := u10
                        clear e1 e2 hx u1 u2 u3 u4 u5 u6 u7 u8 u9 u11 h08
                        go_wp2_with fail
                        refine HBa.out.mono ?_
                        rintro e w9 ⟨rfl, hs9, hg9⟩
                        have HS9 := Lib.hid hs9
                        have HB9 := Lib.hid (below_of_grown HB8.out (Nat.le_refl _) hg9 (fun k hk => (HS8.out.1.lt k hk).1))
                        clear hs9 hg9 r0 r1 r2 r3 r4 r5 r6 r7 r8 r9 r10 r11 k0 hg8
                        go_wp2_with fail
                        go_roundw
                        case rel => exact ⟨q, by omega, by go_num, by rw [HDr.out]; exact HS9.out, HB9.out⟩
                        case measure => first | omega | (simp [intOf]; done) | (simp [intOf]; omega)
end Go.Proofs.YtbogcompeefoaaaDoor
