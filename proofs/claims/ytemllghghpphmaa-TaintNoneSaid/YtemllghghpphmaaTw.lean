/- The walk of taint.Secrets. No condition. -/
import Derived.Test.YtemllghghpphmaaTv
namespace Go.Proofs.Ytemllghghpphmaa
open Go.RowKit
set_option linter.unusedVariables false
set_option maxHeartbeats 4000000
/-- the least of what is closed -/
def LeastP (sec : List Bool) (blk : Nat → BlockD) (nx : Nat → List Int) (n : Nat) (J : Nat → Nat → Bool) : Prop := Post sec blk nx n J ∧ ∀ J', Post sec blk nx n J' → ∀ b r, b < n → J b r = true → J' b r = true
/-- secret at some place of the first blocks -/
def SecU (blk : Nat → BlockD) (I : Nat → List Nat) (i r : Nat) : Prop := ∃ b, b < i ∧ ∃ j, j ≤ (blk b).ins.length ∧ bitL (stepsL (I b) ((blk b).ins.take j)) r = true
def SecJ (blk : Nat → BlockD) (n : Nat) (J : Nat → Nat → Bool) (r : Nat) : Prop := ∃ b, b < n ∧ ∃ j, j ≤ (blk b).ins.length ∧ stepsB (J b) ((blk b).ins.take j) r = true
theorem SecU.succ {blk : Nat → BlockD} {I : Nat → List Nat} {i r : Nat} : SecU blk I (i + 1) r ↔ SecU blk I i r ∨ ∃ j, j ≤ (blk i).ins.length ∧ bitL (stepsL (I i) ((blk i).ins.take j)) r = true := by
  constructor
  · rintro ⟨b, hb, h⟩
    by_cases e : b = i
    · subst e; exact Or.inr h
    · exact Or.inl ⟨b, by omega, h⟩
  · rintro (⟨b, hb, h⟩ | h)
    · exact ⟨b, by omega, h⟩
    · exact ⟨i, by omega, h⟩
theorem SecU.toJ {sec : List Bool} {blk : Nat → BlockD} {nx : Nat → List Int} {n K : Nat} {I : Nat → List Nat} (h : TInv sec blk nx n K I) (hd : ∀ b, b < n → ∀ x ∈ (blk b).ins, x.dst < 64 * K) (r : Nat) : SecU blk I n r ↔ SecJ blk n (fun b => bitL (I b)) r := by
  have key : ∀ b, b < n → ∀ j, bitL (stepsL (I b) ((blk b).ins.take j)) = stepsB (bitL (I b)) ((blk b).ins.take j) := fun b hb j => bit_steps _ _ (fun x hx => by rw [h.len]; exact hd b hb x (List.mem_of_mem_take hx))
  constructor
  · rintro ⟨b, hb, j, hj, hr⟩
    exact ⟨b, hb, j, hj, by rw [← key b hb]; exact hr⟩
  · rintro ⟨b, hb, j, hj, hr⟩
    exact ⟨b, hb, j, hj, by rw [key b hb]; exact hr⟩
def SecretsR (w : World) (f : FuncD) (n : Nat) (e : Ending) (w' : World) : Prop :=
  ∃ (v : Value) (A : List Nat) (J : Nat → Nat → Bool), e = .returned v ∧ SetR w' w.heap.size v A ∧ Below w.heap.size w w' ∧ LeastP f.secret (blkF f) (nxF f) n J ∧ ∀ r, bitL A r = true ↔ SecJ (blkF f) n J r
theorem joinK_bit (l o : List Nat) (K r : Nat) (h1 : l.length = K) (h2 : o.length = K) : bitL (joinK l o K) r = (bitL l r || bitL o r) := joinK_bits (by rw [h1, h2]; simp) r (by rw [h1, h2])
theorem TS.rebase {W0 w : World} {B n m : Nat} {iv : Value} {vs : List Value} {I : Nat → List Nat} (h : TS W0 w B n m iv vs I) : TS w w B n m iv vs I := ⟨h.ri, h.len, h.si, h.rest, h.ap, Below.refl _ _⟩
theorem TS.far {W0 w w' : World} {B n m : Nat} {iv : Value} {vs : List Value} {I : Nat → List Nat} {r : Option Nat} (h : TS W0 w B n m iv vs I) (hg : w.grownBy w' r) (h1 : iv.ownBlock = none ∨ iv.ownBlock ≠ r) (h2 : ∀ (k : Nat) v, vs[k]? = some v → k < m → (v.ownBlock = none ∨ v.ownBlock ≠ r)) : TS w' w' B n m iv vs I :=
  ⟨h.ri.kept hg h1, h.len, fun k hk => let ⟨v, e, hs⟩ := h.si k hk; ⟨v, e, own_kept hs hg (h2 k v e hk)⟩, h.rest, h.ap, Below.refl _ _⟩
set_option maxRecDepth 100000 in
theorem secrets_any (W0 w : World) (h0 : Below W0.heap.size W0 w) (fb fo : Nat) (f : FuncD) (vc vb : Value) (c2 : w.cell? ⟨fb, fo + 2, none⟩ = some vc) (c5 : w.cell? ⟨fb, fo + 5, none⟩ = some vb) (R : Nat) (c3 : w.cell? ⟨fb, fo + 3, none⟩ = some (.int .i64 (R : Nat)))
    (hc : SlR W0 1 BoolR vc f.secret) (hb : SlR W0 9 (BlockR W0) vb f.blocks) (n : Nat) (hn : n = f.blocks.length) (h0n : 0 < n) (hn6 : n ≤ 1000000) (hR6 : R ≤ 1000000) (hnx : ∀ i k, i < n → k ∈ nxF f i → 0 ≤ k ∧ k < n)
    (hslim : ∀ b ∈ f.blocks, ∀ x ∈ b.ins, x.args.length ≤ 1000000) (hdst : ∀ b ∈ f.blocks, ∀ x ∈ b.ins, x.dst < R) (hsl : f.secret.length ≤ R) :
    Calls Try.prog 9 #[.pointer (some ⟨fb, fo, none⟩)] w (SecretsR w f n) := by
  have HSO := Lib.hid (fun (w' : World) (h : Below w.heap.size w w') => solve_any W0 w' (h0.trans (h.mono h0.size)) fb fo f vc vb (later c2 h) (later c5 h) R (later c3 h) hc hb n hn h0n hn6 hR6 hnx hslim hdst hsl)
  have HSC := Lib.hid hc
  obtain ⟨A, cap, rfl, _, m3, hi⟩ := hb
  have HI := Lib.hid hi
  have H0 := Lib.hid h0
  have HN := Lib.hid hn
  have HSl := Lib.hid hslim
  have HDs := Lib.hid hdst
  have C5 := Lib.hid c5
  have hfl : fb < w.heap.size := World.block_lt_of_cell? _ _ c3
  have HB0 := Lib.hid (Nat.le_refl w.heap.size)
  rw [← hn] at c5 C5
  clear hi hnx h0 hn m3 hslim hdst hsl c2 c5 hc
  go_enter Try.func9, Try.ntmps9
  go_wp2_with fail
  refine (empty_any _ R hR6).mono ?_
  rintro e w1 ⟨av, rfl, hs1, hb1⟩
  have HS1 := Lib.hid hs1
  have HB1 := Lib.hid hb1
  have c5 := later C5.out hb1
  have lfb := World.block_lt_of_cell? _ _ c5
  have d1 : ((n : Int) == 0) = false := by simp; omega
  clear hs1 hb1 c3 hfl
  go_wp2_with fail
  clear c5 lfb d1
  refine (HSO.out w1 HB1.out).mono ?_
  rintro e w2 ⟨iv, vs, I, rfl, hT, hI, hD, hS⟩
  have HT := Lib.hid hT
  have HIV := Lib.hid hI
  have HRK := Lib.hid (show R ≤ 64 * ((R + 63) / 64) by omega)
  have HDD := Lib.hid (show ∀ b, b < n → ∀ x ∈ (blkF f b).ins, x.dst < 64 * (((R + 63) / 64 : Nat) : Int) from fun b hb x hx => by
    have hbl : b < f.blocks.length := by rw [← HN.out]; exact hb
    have e : blkF f b = f.blocks[b] := blkF_of (List.getElem?_eq_getElem hbl)
    rw [e] at hx
    have := HDs.out _ (List.getElem_mem hbl) x hx
    omega)
  have HLP := Lib.hid (show LeastP f.secret (blkF f) (nxF f) n (fun b => bitL (I b)) from ⟨hI.post hD HDD.out hS, fun J hJ b r hb hr => hI.least J hJ b r hb hr⟩)
  have HLT := Lib.hid (fun b x hx => hI.lt b x hx)
  obtain ⟨gi, ci, hiv, _, _, hgi, _⟩ := own_form hT.ri h0n
  subst hiv
  have HS2 := Lib.hid (set_below HS1.out hT.below)
  have HAP := Lib.hid (show ∀ (k : Nat) v, vs[k]? = some v → k < n → (v.ownBlock = none ∨ v.ownBlock ≠ av.ownBlock) from fun k v hv hk => by
    obtain ⟨v', e, hs⟩ := hT.si k hk
    rw [hv] at e
    obtain rfl := Option.some.inj e
    cases hso : v.ownBlock with
    | none => exact Or.inl rfl
    | some q => exact Or.inr (fun e => by
        have h1 := (hs.1.lt q hso).1
        have h2 := (HS1.out.1.lt q e.symm).2
        omega))
  clear hT hI hD hS hgi HRK HSO
  generalize (R + 63) / 64 = K at *
  go_wp2_with fail
  go_loopw [23] (fun i wr => ∃ (j : Nat) (I2 : Nat → List Nat) (Al : List Nat), j ≤ n ∧ i = .int .i64 j ∧ TS wr wr w1.heap.size n n (.slice (some ⟨gi, 0, none⟩) n ci) vs I2 ∧ (∀ b, j ≤ b → I2 b = I b) ∧ (∀ b, (I2 b).length = K) ∧ SetR wr w.heap.size av Al ∧ Al.length = K ∧ (∀ r, bitL Al r = true ↔ SecU (blkF f) I j r) ∧ Below w.heap.size w wr ∧ w1.heap.size ≤ wr.heap.size) (fun i _ => n - (intOf i).toNat)
  case atStart => exact ⟨0, I, _, by omega, rfl, HT.out.rebase, (fun _ _ => rfl), HIV.out.len, HS2.out, by simp, (fun r => Iff.intro (fun h => (by rw [bitL_zero] at h; cases h)) (fun h => (by obtain ⟨b, hb, _⟩ := h; omega))), HB1.out.bt (show Below w1.heap.size w1 w2 from HT.out.below), HT.out.below.size⟩
  case round =>
    obtain ⟨j, I2, Al, hj, rfl, hT, hE, hL, hA, hAl, hAb, hB, hZ⟩ := hrel
    have HT2 := Lib.hid hT
    have HE2 := Lib.hid hE
    have HL2 := Lib.hid hL
    have HA2 := Lib.hid hA
    have HAl := Lib.hid hAl
    have HAb := Lib.hid hAb
    have HB2 := Lib.hid hB
    have HZ2 := Lib.hid hZ
    clear hT hE hL hA hAl hAb hB hZ
    by_cases hlt : j < n
    · obtain ⟨v, hv, hsv⟩ := HT2.out.si j hlt
      obtain ⟨cv, _, hgv⟩ := HT2.out.cell hlt hv
      have HV := Lib.hid hv
      have HSV := Lib.hid hsv
      obtain ⟨Av, kv, hve, _⟩ := hsv.slice_
      rw [HL2.out] at hve
      have HJ := join_any wr w.heap.size w1.heap.size av _ Al (I2 j) HA2.out hsv (HAP.out j v hv hlt)
      rw [show min Al.length (I2 j).length = K by rw [HAl.out, HL2.out]; simp, HE2.out j (Nat.le_refl _)] at HJ
      have HJJ := Lib.hid HJ
      have HAPv := Lib.hid (HAP.out j v hv hlt)
      obtain ⟨blk, hblk⟩ : ∃ b', f.blocks[j]? = some b' := ⟨_, List.getElem?_eq_getElem (by rw [← HN.out]; exact hlt)⟩
      have HBk := Lib.hid (blkF_of hblk)
      obtain ⟨bb, bo, cs, hAe, e1, e2, vi, e3, y1, y2, _⟩ := HI.out j blk hblk
      subst e3
      cases hAe
      obtain ⟨A9, cap9, rfl, _, _, h9⟩ := id y1
      have H9 := Lib.hid h9
      have hil : blk.ins.length ≤ 140737488351232 := y2
      have E2 := Lib.hid (e2 0 (by omega))
      have HSb := Lib.hid (HSl.out blk (List.mem_of_getElem? hblk))
      clear hv hsv HJ e1 e2 y1 y2 h9 hblk
      subst hve
      go_wp2_with fail
      clear cv hgv
      refine HJJ.out.mono ?_
      rintro e w3 ⟨rfl, hs3, hg3⟩
      have HS3 := Lib.hid hs3
      have HB3 := Lib.hid (below_of_grown HB2.out (Nat.le_refl _) hg3 (fun k hk => (HA2.out.1.lt k hk).1))
      have HT3 := Lib.hid (HT2.out.far hg3 (own_ne HT2.out.ri HA2.out.1 (by decide)) (fun k v hv hk => HAP.out k v hv hk))
      have HZ3 := Lib.hid (Nat.le_trans HZ2.out hg3.size)
      have HAb3 := Lib.hid (show ∀ r, bitL (joinK Al (I j) K) r = true ↔ SecU (blkF f) I j r ∨ ∃ t, t ≤ 0 ∧ bitL (stepsL (I j) (blk.ins.take t)) r = true from fun r => by
        rw [joinK_bit _ _ _ _ HAl.out (HIV.out.len j), Bool.or_eq_true, HAb.out r]
        constructor
        · rintro (h | h)
          · exact Or.inl h
          · exact Or.inr ⟨0, by omega, h⟩
        · rintro (h | ⟨t, ht, h⟩)
          · exact Or.inl h
          · obtain rfl : t = 0 := by omega
            exact Or.inr h)
      have HLj := Lib.hid (show (joinK Al (I j) K).length = K by rw [joinK_length]; exact HAl.out)
      have c5 := later C5.out HB3.out
      have lfb := World.block_lt_of_cell? _ _ c5
      have r0 := later E2.out (H0.out.trans (HB3.out.mono H0.out.size))
      rw [Nat.add_zero] at r0
      have lr0 := World.block_lt_of_cell? _ _ r0
      clear hs3 hg3 HJJ
      go_wp2_with fail
      clear c5 lfb r0 lr0
      obtain ⟨wz, rfl⟩ : ∃ wo : World, wo = w3 := ⟨_, rfl⟩
      go_loopw [40] (fun i wq => ∃ (q : Nat) (I3 : Nat → List Nat) (Aq : List Nat), q ≤ blk.ins.length ∧ i = .int .i64 q ∧ TS wq wq w1.heap.size n n (.slice (some ⟨gi, 0, none⟩) n ci) vs I3 ∧ I3 j = stepsL (I j) (blk.ins.take q) ∧ (∀ b, b ≠ j → I3 b = I2 b) ∧ SetR wq w.heap.size av Aq ∧ Aq.length = K ∧ (∀ r, bitL Aq r = true ↔ SecU (blkF f) I j r ∨ ∃ t, t ≤ q ∧ bitL (stepsL (I j) (blk.ins.take t)) r = true) ∧ Below w.heap.size w wq ∧ w1.heap.size ≤ wq.heap.size) (fun i _ => blk.ins.length - (intOf i).toNat)
      case atStart => exact ⟨0, I2, _, by omega, rfl, HT3.out, HE2.out j (Nat.le_refl _), (fun _ _ => rfl), HS3.out, HLj.out, HAb3.out, HB3.out, HZ3.out⟩
      case round =>
        rename World => wq
        obtain ⟨q, I3, Aq, hq, rfl, hT, hE, hO, hA, hAl, hAb, hB, hZ⟩ := hrel
        have HT4 := Lib.hid hT
        have HE4 := Lib.hid hE
        have HO4 := Lib.hid hO
        have HA4 := Lib.hid hA
        have HAl4 := Lib.hid hAl
        have HAb4 := Lib.hid hAb
        have HB4 := Lib.hid hB
        have HZ4 := Lib.hid hZ
        clear hT hE hO hA hAl hAb hB hZ
        by_cases hltq : q < blk.ins.length
        · obtain ⟨x, hx⟩ : ∃ x, blk.ins[q]? = some x := ⟨_, List.getElem?_eq_getElem hltq⟩
          obtain ⟨ib, io, cs, rfl, e1, e2, va, e3, p1, p2, p3, p4, p5, p6, p7, p8, p9, p10, p11⟩ := H9.out q x hx
          subst e3
          have HST := Lib.hid (stepsL_take (l := I j) hx)
          have HSx := Lib.hid (HSb.out x (List.mem_of_getElem? hx))
          have HBq := Lib.hid (H0.out.trans (HB4.out.mono H0.out.size))
          have r0 := later (e2 0 (by omega)) HBq.out
          have r1 := later (e2 1 (by omega)) HBq.out
          have r2 := later (e2 2 (by omega)) HBq.out
          have r3 := later (e2 3 (by omega)) HBq.out
          have r4 := later (e2 4 (by omega)) HBq.out
          have r5 := later (e2 5 (by omega)) HBq.out
          have r6 := later (e2 6 (by omega)) HBq.out
          have r7 := later (e2 7 (by omega)) HBq.out
          have r8 := later (e2 8 (by omega)) HBq.out
          have r9 := later (e2 9 (by omega)) HBq.out
          have r10 := later (e2 10 (by omega)) HBq.out
          have r11 := later (e2 11 (by omega)) HBq.out
          rw [Nat.add_zero] at r0
          have lr0 := World.block_lt_of_cell? _ _ r0
          obtain ⟨Ax, capx, rfl, _, _, _⟩ := id p10
          have HAL := Lib.hid (below_alloc (.cells #[.int .i64 x.op, .int .i64 x.dst, .int .i64 x.a.reg, .int .i64 x.a.num, .int .i64 x.b.reg, .int .i64 x.b.num, .int .i64 x.size, .bool x.signed, .bool x.secret, .int .i64 x.ref, .int .i64 x.off, .slice Ax x.args.length capx] 29) (Below.refl wq.heap.size wq))
          obtain ⟨v', hv', hsv'⟩ := HT4.out.si j hlt
          rw [HV.out] at hv'
          obtain rfl := Option.some.inj hv'
          have HSV4 := Lib.hid hsv'
          have HCA := Lib.hid (step_any _ w1.heap.size _ (.slice Ax x.args.length capx) _ x (set_below hsv' HAL.out) p1 p2 ⟨p3, p4⟩ ⟨p5, p6⟩ ((p10.later (by decide) HBq.out).later (by decide) HAL.out) HSx.out)
          clear e1 e2 hx p1 p2 p3 p4 p5 p6 p7 p8 p9 p10 p11 hv' hsv'
          go_wp2_with fail
          refine HCA.out.mono ?_
          rintro e w6 ⟨rfl, hs6, hg6⟩
          have hgq := grown_trans (grown_of_below (r := (Value.slice Av K kv).ownBlock) HAL.out) hg6
          have HT6 := Lib.hid ((HT4.out.inSet HZ4.out hlt HV.out hs6 hgq).rebase)
          have HS6 := Lib.hid hs6
          have HA6 := Lib.hid (own_kept HA4.out hgq (apart_symm HAPv.out))
          have HB6 := Lib.hid (below_of_grown HB4.out (Nat.le_refl _) hgq (fun k hk => by
            have h1 := (HSV4.out.1.lt k hk).1
            have h2 := HB1.out.size
            omega))
          have HZ6 := Lib.hid (Nat.le_trans HZ4.out hgq.size)
          have HJ := join_any w6 w.heap.size w1.heap.size av _ Aq (stepL (I3 j) x) HA6.out hs6 HAPv.out
          rw [HE4.out, ← HST.out] at HJ
          rw [show min Aq.length (stepsL (I j) (blk.ins.take (q + 1))).length = K by rw [HAl4.out, stepsL_length, HIV.out.len]; simp] at HJ
          have HJJ := Lib.hid HJ
          clear hs6 hgq hg6 HJ r0 r1 r2 r3 r4 r5 r6 r7 r8 r9 r10 r11 lr0 HCA
          go_wp2_with fail
          refine HJJ.out.mono ?_
          rintro e w7 ⟨rfl, hs7, hg7⟩
          have HS7 := Lib.hid hs7
          have HB7 := Lib.hid (below_of_grown HB6.out (Nat.le_refl _) hg7 (fun k hk => (HA6.out.1.lt k hk).1))
          have HT7 := Lib.hid (HT6.out.far hg7 (own_ne HT6.out.ri HA6.out.1 (by decide)) (fun k v hv hk => HAP.out k v hv hk))
          have HZ7 := Lib.hid (Nat.le_trans HZ6.out hg7.size)
          have HAb7 := Lib.hid (show ∀ r, bitL (joinK Aq (stepsL (I j) (blk.ins.take (q + 1))) K) r = true ↔ SecU (blkF f) I j r ∨ ∃ t, t ≤ q + 1 ∧ bitL (stepsL (I j) (blk.ins.take t)) r = true from fun r => by
            rw [joinK_bit _ _ _ _ HAl4.out (by rw [stepsL_length, HIV.out.len]), Bool.or_eq_true, HAb4.out r]
            constructor
            · rintro ((h | ⟨t, ht, h⟩) | h)
              · exact Or.inl h
              · exact Or.inr ⟨t, by omega, h⟩
              · exact Or.inr ⟨q + 1, by omega, h⟩
            · rintro (h | ⟨t, ht, h⟩)
              · exact Or.inl (Or.inl h)
              · by_cases e : t = q + 1
                · subst e; exact Or.inr h
                · exact Or.inl (Or.inr ⟨t, by omega, h⟩))
          have HL7 := Lib.hid (show (joinK Aq (stepsL (I j) (blk.ins.take (q + 1))) K).length = K by rw [joinK_length]; exact HAl4.out)
          have HE7 := Lib.hid (show updL I3 j (stepL (I3 j) x) j = stepsL (I j) (blk.ins.take (q + 1)) by rw [updL_same, HE4.out, ← HST.out])
          have HO7 := Lib.hid (show ∀ b, b ≠ j → updL I3 j (stepL (I3 j) x) b = I2 b from fun b hb => by rw [updL_other _ _ hb]; exact HO4.out b hb)
          clear hs7 hg7 HJJ
          go_wp2_with fail
          go_roundw
          case rel => exact ⟨q + 1, _, _, by omega, by go_num, HT7.out, HE7.out, HO7.out, HS7.out, HL7.out, HAb7.out, HB7.out, HZ7.out⟩
          case measure => simp [intOf]; omega
        · have e : q = blk.ins.length := by omega
          subst e
          have HN7 := Lib.hid (show ∀ r, bitL Aq r = true ↔ SecU (blkF f) I (j + 1) r from fun r => by rw [HAb4.out r, SecU.succ, HBk.out])
          have HE7 := Lib.hid (show ∀ b, j + 1 ≤ b → I3 b = I b from fun b hb => by rw [HO4.out b (by omega)]; exact HE2.out b (by omega))
          have HL7 := Lib.hid (show ∀ b, (I3 b).length = K from fun b => by
            by_cases e : b = j
            · rw [e, HE4.out, stepsL_length]; exact HIV.out.len j
            · rw [HO4.out b e]; exact HL2.out b)
          go_wp2_with fail
          go_roundw
          case rel => exact ⟨j + 1, I3, Aq, by omega, by go_num, HT4.out, HE7.out, HL7.out, HA4.out, HAl4.out, HN7.out, HB4.out, HZ4.out⟩
          case measure => simp [intOf]; omega
    · have e : j = n := by omega
      subst e
      have HF := Lib.hid (show SecretsR w f j (.returned av) wr from ⟨av, Al, _, rfl, HA2.out, HB2.out, HLP.out, fun r => by rw [HAb.out r]; exact SecU.toJ HIV.out HDD.out r⟩)
      go_wp2_with fail
      go_returns
      exact HF.out
end Go.Proofs.Ytemllghghpphmaa
