/- Walks: graph's ins. No condition. -/
import Derived.Test.YtbogcompeefoaaaDoorQh
import Derived.Deep.RegionLaw
namespace Go.Proofs.YtbogcompeefoaaaDoor
open Go.RowKit
set_option linter.unusedVariables false
set_option maxHeartbeats 4000000
theorem Tryd.infoInt2 : (Tryd.prog.info? 132).map (fun i => (i.zero, i.size, i.bytes)) = some (some (.agg #[.int .i64 0, .int .i64 0]), 2, 16) := by kernel_rfl
theorem box_set {w : World} {b : Nat} {c0 c1 c2 c3 v : Value} {T : TypeId} (hb : w.heap[b]? = some (.cells #[c0, c1, c2, c3] T (0, 0))) :
    (w.setCell ⟨b, 1, none⟩ v).heap[b]? = some (.cells #[c0, v, c2, c3] T (0, 0)) ∧ w.grownBy (w.setCell ⟨b, 1, none⟩ v) (some b) := by
  refine ⟨by rw [blk_setCell hb v]; rfl, rfl, rfl, rfl, by simp [World.setCell], fun k hk hne => ?_⟩
  exact Below.heap_setCell w ⟨b, 1, none⟩ v k (fun e => hne (by rw [e]))
/-- append by its own equation, as one step of a region that draws -/
theorem step_append_eq {P : Program} {ops : Array Oper} {o : Oper} {a : Act} {w : World} {K : Act → World → Prop} {Q : Exit → Act → World → Prop} {E : Prop}
    (hg : o.guard = none) (s x : Operand) (t : TypeId) (hop : o.op = Op.call { callee := Callee.builtin Builtin.append, args := #[s, x], argTypes := #[t, t] }) (v u v' : Value) (w' : World) (hs : a.eval s = v) (hx : a.eval x = u)
    (hr : (Builtin.append_ #[t, t] o.type #[v, u]).run P w = .ok v' w') (hK : K (a.put o.dst v') w') : if Region.wanted o (yielded ops a.tmps) = true then Oper.wp P o a w K Q else E := by
  have hw : Region.wanted o (yielded ops a.tmps) = true := by simp [Region.wanted, hg]
  rw [if_pos hw]
  unfold Oper.wp
  simp [execOp, hop, resolve, invoke, builtin, hs, hx, hr, Result.andThen]
  exact hK
section
variable {w w' : World} {B L0 L1 gb R : Nat} {av cv mv uv : Value} {vs : List Value} {E : Nat → Nat → Bool} {M : Nat → Bool} {us : List Int} {cp : List (Int × Int)}
/-- the copies' list moves -/
theorem GrR.setC (h : GrR w B L0 L1 gb R av cv mv uv vs E M us cp) {w2 : World} {cv2 : Value} {cp2 : List (Int × Int)} (hg : w.grownBy w2 cv.ownBlock) (ho : w2.ownsRow L1 132 2 cv2 cp2.length (cpv cp2)) :
    GrR (w2.setCell ⟨gb, 1, none⟩ cv2) B L0 L1 gb R av cv2 mv uv vs E M us cp2 ∧ Mid B L0 L1 w (w2.setCell ⟨gb, 1, none⟩ cv2) ∧ ∀ (base : Nat) (v : Value) (S : Nat → Bool), SetB w base v R S → SetB (w2.setCell ⟨gb, 1, none⟩ cv2) base v R S := by
  have hk0 := blk_kept h.blk hg (own_blk h.ci h.blk (by decide))
  obtain ⟨k1, k2⟩ := box_set (v := cv2) hk0
  have cl : ∀ k, cv.ownBlock = some k → L0 ≤ k := fun k hk => Nat.le_trans h.le (h.cLo k hk)
  have gl : ∀ k, (some gb : Option Nat) = some k → k < L1 := fun k hk => by cases hk; exact Nat.lt_of_lt_of_le h.gH h.le
  have kr : ∀ {base size n : Nat} {T : TypeId} {v : Value} {xs : List Value}, w.ownsRow base T size v n xs → (∀ g, v.ownBlock = some g → g < L0) → T ≠ 119 → (w2.setCell ⟨gb, 1, none⟩ cv2).ownsRow base T size v n xs := fun hr hl hT => by
    have h1 := hr.kept hg (ne_of_lt hl cl)
    exact h1.kept k2 (own_blk h1 hk0 hT)
  have ks : ∀ {v : Value} {S : Nat → Bool}, SetB w B v R S → (∀ g, v.ownBlock = some g → g < L0) → SetB (w2.setCell ⟨gb, 1, none⟩ cv2) B v R S := fun hs hl => by
    obtain ⟨l, h1, h2, h3⟩ := hs
    exact ⟨l, ⟨kr h1.1 hl (by decide), h1.2⟩, h2, h3⟩
  refine ⟨⟨k1, h.gB, h.gH, kr h.ra h.ha (by decide), h.ha, fun i hi => let ⟨v, e1, e2⟩ := h.sa i hi; ⟨v, e1, ks e2 (fun g hg => h.hs i v g e1 hg)⟩, h.hs, h.ap, ks h.sm h.hm, h.hm, h.am, kr h.ui h.hu (by decide), h.hu, h.ul, ho.kept k2 (own_blk ho hk0 (by decide)), h.le, Nat.le_trans h.top (Nat.le_trans hg.size k2.size)⟩, ?_, fun base v S hs => by
    have h1 := hs.kept hg (hs.ne_ h.ci (by decide))
    obtain ⟨n0, xs0, o0⟩ := h1.own_
    exact h1.kept k2 (own_blk o0 hk0 (by decide))⟩
  refine (Mid.of_grown hg (fun k hk => ⟨⟨Nat.le_trans (Nat.le_trans h.gB (Nat.le_of_lt h.gH)) (cl k hk), Or.inr (h.cLo k hk)⟩, own_hot h.ci hk (by simp)⟩)).trans ?_
  exact Mid.of_grown k2 (fun k hk => by cases hk; exact ⟨⟨h.gB, Or.inl h.gH⟩, ⟨_, _, _, hk0, by simp⟩⟩)
set_option maxRecDepth 100000 in
theorem ins_any (h : GrR w B L0 L1 gb R av cv mv uv vs E M us cp) (hR : R ≤ 1000000) (hB : B ≤ L0) (sv : Value) (S : Nat → Bool) (hs : SetB w L1 sv R S) (x : InsD) (va : Value) (hop : In64 x.op) (hd1 : -1 ≤ x.dst) (hd2 : x.dst < R) (ha : In64 x.a.reg ∧ In64 x.a.num) (hbb : In64 x.b.reg ∧ In64 x.b.num)
    (hv : KeepV w B va x.args) (hal : x.args.length ≤ 1000000) (hrd : ∀ a ∈ readsD x, -1 ≤ a.reg ∧ a.reg < R) (c : Int) (hc0 : 0 ≤ c) (hc : c ≤ 3000000000000000000) (hu : Ub us c) (hcp : cp.length ≤ 5000000000000) :
    Calls Tryd.prog 54 #[.pointer (some ⟨gb, 0, none⟩), sv, insV x va] w fun e w' => ∃ cv', e = .returned (.tuple #[]) ∧ GrR w' B L0 L1 gb R av cv' mv uv vs (insEk R S x E) (insM S x M) (insU us x) (insC cp x) ∧ SetB w' L1 sv R (backF S x) ∧ Mid B L0 L1 w w' := by
  have H := Lib.hid h
  have HS := Lib.hid hs
  have HV := Lib.hid hv
  have HU := Lib.hid hu
  have HRD := Lib.hid hrd
  have HP := Lib.hid (And.intro hop (And.intro ha hbb))
  have hgl := blk_lt h.blk
  obtain ⟨A5, cap5, rfl, _⟩ := id hv.1
  have HBX := Lib.hid (below_alloc (.cells #[.int .i64 x.op, .int .i64 x.dst, .int .i64 x.a.reg, .int .i64 x.a.num, .int .i64 x.b.reg, .int .i64 x.b.num, .int .i64 x.size, .bool x.signed, .bool x.secret, .int .i64 x.ref, .int .i64 x.off, .slice A5 x.args.length cap5] 74) (Below.refl w.heap.size w))
  have HBO := Lib.hid (blk_new w (.cells #[.int .i64 x.op, .int .i64 x.dst, .int .i64 x.a.reg, .int .i64 x.a.num, .int .i64 x.b.reg, .int .i64 x.b.num, .int .i64 x.size, .bool x.signed, .bool x.secret, .int .i64 x.ref, .int .i64 x.off, .slice A5 x.args.length cap5] 74))
  have H1 := Lib.hid (h.more HBX.out)
  have HS1 := Lib.hid (hs.more HBX.out)
  have HM1 := Lib.hid (Mid.of_below (B := B) (L0 := L0) (L1 := L1) HBX.out)
  clear h hs hv hu hrd hop ha hbb
  go_enter Tryd.func54, Tryd.ntmps54
  have q1 : (w.alloc (.cells #[.int .i64 x.op, .int .i64 x.dst, .int .i64 x.a.reg, .int .i64 x.a.num, .int .i64 x.b.reg, .int .i64 x.b.num, .int .i64 x.size, .bool x.signed, .bool x.secret, .int .i64 x.ref, .int .i64 x.off, .slice A5 x.args.length cap5] 74)).cell? ⟨w.heap.size, 1, none⟩ = some (.int .i64 x.dst) := blk_cell HBO.out rfl
  go_upto_if 12 with (fail)
  obtain ⟨wa, hwa⟩ : ∃ z, z = w.alloc (.cells #[.int .i64 x.op, .int .i64 x.dst, .int .i64 x.a.reg, .int .i64 x.a.num, .int .i64 x.b.reg, .int .i64 x.b.num, .int .i64 x.size, .bool x.signed, .bool x.secret, .int .i64 x.ref, .int .i64 x.off, .slice A5 x.args.length cap5] 74) := ⟨_, rfl⟩
  rw [← hwa] at HBO HBX H1 HS1 HM1 ⊢
  obtain ⟨ga, hga⟩ : ∃ z, z = w.heap.size := ⟨_, rfl⟩
  rw [← hga] at HBO ⊢
  have HGA := Lib.hid hga
  clear hwa hga q1
  go_cut [] (fun wx => ∃ cv', GrR wx B L0 L1 gb R av cv' mv uv vs (insEk R S x E) M (addU us x.dst) (insC cp x) ∧ SetB wx L1 sv R (fun r => S r && !decide (x.dst = (r : Int))) ∧ Mid B L0 L1 wa wx)
  case first =>
    have kb0 : wa.cell? ⟨ga, 0, none⟩ = some (.int .i64 x.op) := blk_cell HBO.out rfl
    have kb1 : wa.cell? ⟨ga, 1, none⟩ = some (.int .i64 x.dst) := blk_cell HBO.out rfl
    have kb2 : wa.cell? ⟨ga, 2, none⟩ = some (.int .i64 x.a.reg) := blk_cell HBO.out rfl
    have lb := blk_lt HBO.out
    by_cases hd : 0 ≤ x.dst
    · obtain ⟨d, hdd⟩ : ∃ d : Nat, x.dst = d := ⟨x.dst.toNat, by omega⟩
      have hdR : d < R := by omega
      obtain ⟨g, cap, rfl⟩ := H1.out.lenU (by omega)
      obtain ⟨y, hy⟩ : ∃ y, us[d]? = some y := ⟨_, List.getElem?_eq_getElem (by rw [H1.out.ul]; exact hdR)⟩
      obtain ⟨y1, y2⟩ := HU.out.at_ hy
      have kg : wa.cell? ⟨gb, 3, none⟩ = some (.slice (some ⟨g, 0, none⟩) R cap) := blk_cell H1.out.blk rfl
      have lg := blk_lt H1.out.blk
      obtain ⟨ku, kf, kl⟩ := H1.out.cellU hy
      have V := H1.out.setU d (y + 1)
      have H2 := V.1.more (drew_below' _)
      rw [← addU_some hy, ← hdd] at H2
      have H2 := Lib.hid H2
      have HS2 := Lib.hid ((HS1.out.kept V.2 (HS1.out.ne_ H1.out.ui (by decide))).more (drew_below' _))
      have HM2 := Lib.hid ((Mid.of_grown (B := B) (L0 := L0) (L1 := L1) V.2 (fun k hk => ⟨⟨(World.ownsRow.lt H1.out.ui k (by cases hk; rfl)).1, Or.inl (H1.out.hu k (by cases hk; rfl))⟩, own_hot H1.out.ui (by cases hk; rfl) (Or.inl rfl)⟩)).trans (Mid.of_below (drew_below' _)))
      have hin : (y + 1) ≤ 9223372036854775807 := by omega
      have hin2 : -9223372036854775808 ≤ (y + 1) := by omega
      have d0 : decide ((0 : Int) ≤ (d : Int)) = true := decide_eq_true (by omega)
      have HBO2 := Lib.hid (HM2.out.blk_ HBO.out (by decide))
      rw [hdd] at kb1
      clear V hy
      have HDD := Lib.hid hdd
      have hne : ga ≠ g := by
        rcases own_blk H1.out.ui HBO.out (by decide) with e | e
        · cases e
        · exact fun e2 => e (by rw [e2]; rfl)
      rw [hdd, d0]
      clear hdd hd hd1 hd2
      go_wp2_with fail
      go_region
      go_upto_if 25 with (fail)
      obtain ⟨wb, hwb⟩ : ∃ z, z = (wa.setCell ⟨g, d, none⟩ (.int .i64 (y + 1))).drew := ⟨_, rfl⟩
      rw [← hwb] at H2 HS2 HM2 HBO2 ⊢
      clear hwb ku kf kl kg kb0 kb1 kb2 lb lg
      go_cut [6] (fun z wx => z = .int .i64 (if x.op = 2 then x.a.reg else -1) ∧ ∃ cv', GrR wx B L0 L1 gb R av cv' mv (.slice (some ⟨g, 0, none⟩) R cap) vs E M (addU us x.dst) (insC cp x) ∧ SetB wx L1 sv R S ∧ Mid B L0 L1 wa wx)
      case first =>
        have kd1 : wb.cell? ⟨ga, 1, none⟩ = some (.int .i64 (d : Nat)) := by rw [← HDD.out]; exact blk_cell HBO2.out rfl
        have kd2 : wb.cell? ⟨ga, 2, none⟩ = some (.int .i64 x.a.reg) := blk_cell HBO2.out rfl
        have ld := blk_lt HBO2.out
        by_cases ho : x.op = 2
        · have b2 : (x.op == 2) = true := by simpa using ho
          have HO := Lib.hid ho
          rw [b2]
          clear ho b2
          by_cases hr : 0 ≤ x.a.reg ∧ x.a.reg ≠ (d : Int)
          · have HR2 := Lib.hid hr
            have e1 : decide (0 ≤ x.a.reg) = true := decide_eq_true hr.1
            have e2 : (x.a.reg != (d : Int)) = true := by simpa using hr.2
            have kg : wb.cell? ⟨gb, 1, none⟩ = some cv := blk_cell H2.out.blk rfl
            have lg := blk_lt H2.out.blk
            have kf : wb.frozen? ⟨gb, 1, none⟩ = false := blk_free H2.out.blk
            obtain ⟨r, hrr⟩ : ∃ r, r = x.a.reg := ⟨_, rfl⟩
            rw [← hrr] at kd2 e1 e2
            have HRR := Lib.hid hrr
            have HE1 := Lib.hid e1
            have HE2 := Lib.hid e2
            have HCC := Lib.hid (show insC cp x = cp ++ [((d : Int), r)] by
              have h1 : isCp x = true := by
                unfold isCp
                rw [decide_eq_true HO.out, HDD.out, ← HRR.out, HE1.out, decide_eq_true (show (0 : Int) ≤ (d : Int) by omega)]
                simpa using HE2.out
              unfold insC
              rw [if_pos h1, HDD.out, HRR.out])
            obtain ⟨i0, hi, hz0, hz1, hz2⟩ := info_parts Tryd.infoInt2
            have H3 := H2.out.more (drew_below' _)
            obtain ⟨v', w', hr1, ho', hg', _⟩ := append_oneC (P := Tryd.prog) (w := wb.drew) L1 117 132 i0 _ 2 16 Tryd.underlying117 hi hz0 hz1 hz2 rfl (by decide) cv cp.length (cpv cp) H3.ci #[.int .i64 (d : Nat), .int .i64 r] rfl _ rfl (by simp [Value.oneCell']) (by unfold maxLen; omega) (by omega) H3.top
            have ho2 : w'.ownsRow L1 132 2 v' (cp ++ [((d : Int), r)]).length (cpv (cp ++ [((d : Int), r)])) := by rw [cpv_snoc, List.length_append]; exact ho'
            obtain ⟨A7, c7, hv7, _⟩ := own_slice ho2
            subst hv7
            obtain ⟨H4, hm4, hs4⟩ := H3.setC hg' ho2
            have hll : (cp ++ [((d : Int), r)]).length = cp.length + 1 := by simp
            rw [hll] at H4 hm4 hs4 hr1
            have hk0 := blk_kept H3.blk hg' (own_blk H3.ci H3.blk (by decide))
            have kw : w'.cell? ⟨gb, 1, none⟩ = some cv := blk_cell hk0 rfl
            have kwf : w'.frozen? ⟨gb, 1, none⟩ = false := blk_free hk0
            have lw := blk_lt hk0
            have HS4 := Lib.hid (hs4 _ _ _ (HS2.out.more (drew_below' _)))
            have HM4 := Lib.hid (HM2.out.trans ((Mid.of_below (drew_below' _)).trans hm4))
            have H4 := Lib.hid H4
            have HR1 := Lib.hid hr1
            clear hll hr ho' hg' ho2 hm4 hs4 hk0 H3 hi hz0 hz1 hz2 hr1 hrr
            go_wp2_with fail
            go_region_law (refine step_append_eq rfl (.tmp 41) (.tmp 46) 117 rfl _ _ _ _ (by simp [Act.eval, Act.put]) (by simp [Act.eval, Act.put]) HR1.out ?_)
            all_goals go_wp2_with fail
            all_goals go_meet
            all_goals exact ⟨by rw [if_pos HO.out, HRR.out], _, by rw [HCC.out]; exact H4.out, HS4.out, HM4.out⟩
          · have HR2 := Lib.hid hr
            have HCC := Lib.hid (show insC cp x = cp by
              unfold insC isCp
              rw [if_neg]
              intro h
              simp only [Bool.and_eq_true, decide_eq_true_eq, Bool.not_eq_true', decide_eq_false_iff_not] at h
              exact HR2.out ⟨h.1.2, by rw [← HDD.out]; exact h.2⟩)
            obtain ⟨r, hrr⟩ : ∃ r, r = x.a.reg := ⟨_, rfl⟩
            rw [← hrr] at kd2 hr
            have HRR := Lib.hid hrr
            clear hrr
            by_cases h0 : 0 ≤ r
            · have e1 : decide (0 ≤ r) = true := decide_eq_true h0
              have e2 : r = (d : Int) := Decidable.byContradiction (fun h => hr ⟨h0, h⟩)
              have HE2 := Lib.hid e2
              rw [e2] at kd2
              have e3 : ((d : Int) != (d : Int)) = false := by simp
              have e4 : decide ((0 : Int) ≤ (d : Int)) = true := decide_eq_true (by omega)
              clear hr h0 e2 e1
              go_wp2_with fail
              go_meet
              exact ⟨by rw [if_pos HO.out, ← HRR.out, HE2.out], cv, by rw [HCC.out]; exact H2.out, HS2.out, HM2.out⟩
            · have e1 : decide (0 ≤ r) = false := decide_eq_false h0
              clear hr h0
              go_wp2_with fail
              go_meet
              exact ⟨by rw [if_pos HO.out, HRR.out], cv, by rw [HCC.out]; exact H2.out, HS2.out, HM2.out⟩
        · have b2 : (x.op == 2) = false := by simpa using ho
          have HO := Lib.hid ho
          rw [b2]
          clear ho b2
          go_wp2_with fail
          go_meet
          refine ⟨by rw [if_neg HO.out], cv, ?_, HS2.out, HM2.out⟩
          rw [show insC cp x = cp by unfold insC isCp; rw [decide_eq_false HO.out]; simp]
          exact H2.out
      case rest =>
        obtain ⟨hz6, cv3, h3, hs3, hm3⟩ := hcut
        have H3 := Lib.hid h3
        have HS3 := Lib.hid hs3
        have HM3 := Lib.hid hm3
        have HC6 := Lib.hid (show (if x.op = 2 then x.a.reg else -1) = cpd x from rfl)
        rw [HC6.out] at hz6
        subst hz6
        obtain ⟨p6, hp6⟩ : ∃ z, z = cpd x := ⟨_, rfl⟩
        rw [← hp6]
        have HP6 := Lib.hid hp6
        obtain ⟨g8, cap8, rfl⟩ := h3.formA (by omega)
        have kg : wc.cell? ⟨gb, 0, none⟩ = some (.slice (some ⟨g8, 0, none⟩) R cap8) := blk_cell h3.blk rfl
        have lg := blk_lt h3.blk
        have HDR := Lib.hid hdR
        clear h3 hs3 hm3 hp6 H2 HS2 HM2 HBO2 hin hin2
        go_wp2_with fail
        go_loopw [55] (fun i wr => ∃ k : Nat, k ≤ R ∧ i = .int .i64 k ∧ GrR wr B L0 L1 gb R (.slice (some ⟨g8, 0, none⟩) R cap8) cv3 mv (.slice (some ⟨g, 0, none⟩) R cap) vs (insEk k S x E) M (addU us x.dst) (insC cp x) ∧ SetB wr L1 sv R S ∧ Mid B L0 L1 wa wr) (fun i _ => R - (intOf i).toNat)
        case atStart => exact ⟨0, by omega, rfl, H3.out.congr (fun a b _ _ => (insEk_zero S x E a b).symm) (fun _ _ => rfl), HS3.out, HM3.out⟩
        case round =>
          obtain ⟨k, hk, rfl, h4, hs4, hm4⟩ := hrel
          have H4 := Lib.hid h4
          have HS4 := Lib.hid hs4
          have HM4 := Lib.hid hm4
          have HB4 := Lib.hid (hm4.blk_ HBO.out (by decide))
          have ke1 : wr.cell? ⟨ga, 1, none⟩ = some (.int .i64 (d : Nat)) := by rw [← HDD.out]; exact blk_cell HB4.out rfl
          have le1 := blk_lt HB4.out
          clear h4 hs4 hm4 kg lg H3 HS3 HM3
          by_cases hlt : k < R
          · have HH := Lib.hid (has_b wr k HS4.out hR hlt)
            by_cases hkc : (k : Int) = p6
            · have b1 : ((k : Int) != p6) = false := by simp [hkc]
              have HN := Lib.hid (insEk_no k S x E (by rw [evB_cpd, ← HP6.out, decide_eq_true hkc.symm]; simp))
              clear hkc
              go_wp2_with fail
              go_roundw
              case rel => exact ⟨k + 1, by omega, by go_num, H4.out.congr (fun a b _ _ => (HN.out a b).symm) (fun _ _ => rfl), HS4.out, HM4.out⟩
              case measure => first | omega | (simp [intOf]; done) | (simp [intOf]; omega)
            · have b1 : ((k : Int) != p6) = true := by simpa using hkc
              have HKC := Lib.hid hkc
              obtain ⟨sk, hsk⟩ : ∃ z, S k = z := ⟨_, rfl⟩
              have HSK := Lib.hid hsk
              have HH2 := HH.out
              rw [hsk] at HH2
              have HH := Lib.hid HH2
              clear hkc hsk HH2
              cases sk
              · have HN := Lib.hid (insEk_no k S x E (by rw [evB_cpd, HSK.out]; simp))
                go_wp2_with fail
                refine HH.out.mono ?_
                rintro e w7 ⟨rfl, rfl⟩
                go_wp2_with fail
                go_roundw
                case rel => exact ⟨k + 1, by omega, by go_num, H4.out.congr (fun a b _ _ => (HN.out a b).symm) (fun _ _ => rfl), HS4.out, HM4.out⟩
                case measure => first | omega | (simp [intOf]; done) | (simp [intOf]; omega)
              · go_wp2_with fail
                refine HH.out.mono ?_
                rintro e w7 ⟨rfl, rfl⟩
                go_wp2_with fail
                refine (edge_any H4.out hR d k HDR.out hlt).mono ?_
                rintro e w8 ⟨rfl, h5, hm5⟩
                have H5 := Lib.hid (h5.congr (fun a b _ _ => insEk_yes k d S x E HDD.out HSK.out (by rw [← HP6.out]; exact fun e => HKC.out e.symm) a b) (fun _ _ => rfl))
                have HS5 := Lib.hid (hm5.set_ HS4.out H4.out.le (fun g hg => (HS4.out.lt_ hg).2))
                have HM5 := Lib.hid (HM4.out.trans (hm5.mono H4.out.top))
                clear h5 hm5 ke1 le1
                go_wp2_with fail
                go_roundw
                case rel => exact ⟨k + 1, by omega, by go_num, H5.out, HS5.out, HM5.out⟩
                case measure => first | omega | (simp [intOf]; done) | (simp [intOf]; omega)
          · have e : k = R := by omega
            subst e
            have HO := Lib.hid (out_b wr (d : Nat) HS4.out hR (by have := HDR.out; omega))
            go_wp2_with fail
            refine HO.out.mono ?_
            rintro e w8 ⟨rfl, hs5, hg5⟩
            have H5 := Lib.hid (H4.out.kept hg5 (fun k hk => Nat.le_trans H4.out.le (HS4.out.lt_ hk).1) (apart_symm (HS4.out.ne_ H4.out.ci (by decide))))
            have HS5 := Lib.hid hs5
            have HM5 := Lib.hid (HM4.out.trans (Mid.of_grown (B := B) (L0 := L0) (L1 := L1) hg5 (fun j hj => ⟨⟨Nat.le_trans (Nat.le_trans hB H4.out.le) (HS4.out.lt_ hj).1, Or.inr (HS4.out.lt_ hj).1⟩, HS4.out.hot hj⟩)))
            clear hs5 hg5 ke1 le1
            go_wp2_with fail
            go_meet
            exact ⟨cv3, H5.out, by rw [HDD.out]; exact HS5.out, HM5.out⟩
    · have d0 : decide ((0 : Int) ≤ x.dst) = false := decide_eq_false hd
      have hx : ∀ r : Nat, decide (x.dst = (r : Int)) = false := fun r => decide_eq_false (by omega)
      have HX := Lib.hid hx
      have HD := Lib.hid d0
      clear hd hd1 hd2 hx
      rw [d0]
      go_wp2_with fail
      go_meet
      refine ⟨cv, ?_, ?_, Mid.refl _ _ _ _⟩
      · rw [show addU us x.dst = us by unfold addU; rw [if_neg (of_decide_eq_false HD.out)], show insC cp x = cp by unfold insC isCp; rw [HD.out]; rfl]
        exact H1.out.congr (fun a b _ _ => by unfold insEk; rw [HX.out, HX.out]; simp) (fun _ _ => rfl)
      · exact HS1.out.congr (fun r _ => by rw [HX.out]; simp)
  case rest =>
    obtain ⟨cv2, h2, hs2, hm2⟩ := hcut
    have H2 := Lib.hid h2
    have HS2 := Lib.hid hs2
    have HM2 := Lib.hid hm2
    have HB2 := Lib.hid (hm2.blk_ HBO.out (by decide))
    have HGB := Lib.hid hgl
    clear h2 hs2 hm2 H1 HS1 hd1 hd2 hgl
    go_upto_region 15 with (fail)
    go_cut [83] (fun z wx => z = .bool (callB x) ∧ wx = wc)
    case first =>
      have kb0 : wc.cell? ⟨ga, 0, none⟩ = some (.int .i64 x.op) := blk_cell HB2.out rfl
      have lb := blk_lt HB2.out
      obtain ⟨op, hop⟩ : ∃ z, z = x.op := ⟨_, rfl⟩
      rw [← hop] at kb0
      have HOP := Lib.hid hop
      clear hop
      by_cases h1 : op = 28
      · have b1 : (op == 28) = true := by simpa using h1
        have HC := Lib.hid (show callB x = true by unfold callB; rw [← HOP.out, decide_eq_true h1]; rfl)
        clear h1
        go_wp2_with fail
        go_meet
        exact ⟨by rw [HC.out], rfl⟩
      · have b1 : (op == 28) = false := by simpa using h1
        by_cases h2 : op = 29
        · have b2 : (op == 29) = true := by simpa using h2
          have HC := Lib.hid (show callB x = true by unfold callB; rw [← HOP.out, decide_eq_true h2]; simp)
          clear h1 h2
          go_wp2_with fail
          go_meet
          exact ⟨by rw [HC.out], rfl⟩
        · have b2 : (op == 29) = false := by simpa using h2
          have HC := Lib.hid (show callB x = false by unfold callB; rw [← HOP.out, decide_eq_false h1, decide_eq_false h2]; rfl)
          clear h1 h2
          go_wp2_with fail
          go_meet
          exact ⟨by rw [HC.out], rfl⟩
    case rest =>
      obtain ⟨rfl, rfl⟩ := hcut
      go_upto_if 83 with (fail)
      go_cut [] (fun wx => GrR wx B L0 L1 gb R av cv2 mv uv vs (insEk R S x E) (insM S x M) (addU us x.dst) (insC cp x) ∧ SetB wx L1 sv R (fun r => S r && !decide (x.dst = (r : Int))) ∧ Mid B L0 L1 wa wx)
      case first =>
        obtain ⟨cb, hcb⟩ : ∃ z, z = callB x := ⟨_, rfl⟩
        rw [← hcb]
        have HCB := Lib.hid hcb
        clear hcb
        cases cb
        · go_wp2_with fail
          go_meet
          exact ⟨H2.out.congr (fun _ _ _ _ => rfl) (fun r _ => by unfold insM; rw [← HCB.out]; simp), HS2.out, HM2.out⟩
        · have kg : wc.cell? ⟨gb, 2, none⟩ = some mv := blk_cell H2.out.blk rfl
          have lg := blk_lt H2.out.blk
          go_wp2_with fail
          refine (join_b wc H2.out.sm HS2.out (low_ne (L1 := L1) (fun g hg => (HS2.out.lt_ hg).1) (fun k hk => Nat.lt_of_lt_of_le (H2.out.hm k hk) H2.out.le))).mono ?_
          rintro e w3 ⟨b3, rfl, hs3, hg3⟩
          have H3 := Lib.hid (H2.out.setM hs3 hg3)
          have HS3 := Lib.hid (HS2.out.kept hg3 (low_ne (L1 := L1) (fun g hg => (HS2.out.lt_ hg).1) (fun k hk => Nat.lt_of_lt_of_le (H2.out.hm k hk) H2.out.le)))
          have HM3 := Lib.hid (HM2.out.trans (Mid.of_grown (B := B) (L0 := L0) (L1 := L1) hg3 (fun k hk => ⟨⟨(H2.out.sm.lt_ hk).1, Or.inl (H2.out.hm k hk)⟩, H2.out.sm.hot hk⟩)))
          clear hs3 hg3 kg lg
          go_wp2_with fail
          go_meet
          exact ⟨H3.out.congr (fun _ _ _ _ => rfl) (fun r _ => by unfold insM; rw [← HCB.out]; simp), HS3.out, HM3.out⟩
      case rest =>
        obtain ⟨h3, hs3, hm3⟩ := hcut
        have H3 := Lib.hid h3
        have HS3 := Lib.hid hs3
        have HM3 := Lib.hid hm3
        have HB3 := hm3.blk_ HBO.out (by decide)
        have c0 : wc.cell? ⟨ga, 0, none⟩ = some (.int .i64 x.op) := blk_cell HB3 rfl
        have c1 : wc.cell? ⟨ga, 1, none⟩ = some (.int .i64 x.dst) := blk_cell HB3 rfl
        have c2 : wc.cell? ⟨ga, 2, none⟩ = some (.int .i64 x.a.reg) := blk_cell HB3 rfl
        have c3 : wc.cell? ⟨ga, 3, none⟩ = some (.int .i64 x.a.num) := blk_cell HB3 rfl
        have c4 : wc.cell? ⟨ga, 4, none⟩ = some (.int .i64 x.b.reg) := blk_cell HB3 rfl
        have c5 : wc.cell? ⟨ga, 5, none⟩ = some (.int .i64 x.b.num) := blk_cell HB3 rfl
        have c6 : wc.cell? ⟨ga, 6, none⟩ = some (.int .i64 x.size) := blk_cell HB3 rfl
        have c7 : wc.cell? ⟨ga, 7, none⟩ = some (.bool x.signed) := blk_cell HB3 rfl
        have c8 : wc.cell? ⟨ga, 8, none⟩ = some (.bool x.secret) := blk_cell HB3 rfl
        have c9 : wc.cell? ⟨ga, 9, none⟩ = some (.int .i64 x.ref) := blk_cell HB3 rfl
        have c10 : wc.cell? ⟨ga, 10, none⟩ = some (.int .i64 x.off) := blk_cell HB3 rfl
        have c11 : wc.cell? ⟨ga, 11, none⟩ = some (.slice A5 x.args.length cap5) := blk_cell HB3 rfl
        have HV3 := Lib.hid ((HV.out.mid (HM1.out.trans hm3)))
        have lb := blk_lt HB3
        clear h3 hs3 hm3 HB3 H2 HS2 HM2
        go_wp2_with fail
        refine (ireads_new _ x _ HP.out.1 HP.out.2.1 HP.out.2.2 HV3.out.1 hal).mono ?_
        rintro e w4 ⟨v, rfl, hv4, hb4, how⟩
        have H4 := Lib.hid (H3.out.more hb4)
        have HS4 := Lib.hid (HS3.out.more hb4)
        have HM4 := Lib.hid (HM3.out.trans (Mid.of_below hb4))
        have HV4 := Lib.hid (show KeepV w4 B v (readsD x) from ⟨hv4, by
          rcases how with rfl | ⟨b9, n9, xs9, ho9⟩
          · have hlen := hv4.len_eq HV3.out.1
            rcases HV3.out.2 with h | h
            · left; rw [h] at hlen; exact List.length_eq_zero_iff.1 (by simpa using hlen)
            · refine Or.inr (fun b hb => ?_)
              rcases h b hb with h | ⟨cs, fr, h⟩
              · exact Or.inl h
              · exact Or.inr ⟨cs, fr, (hb4.block b (blk_lt h)).trans h⟩
          · refine Or.inr (fun b hb => ?_)
            rcases ho9.2 with ⟨rfl, _⟩ | ⟨g, cap, cur, rfl, _, hh, _⟩
            · cases hb
            · cases hb; exact Or.inr ⟨_, _, hh⟩⟩)
        have hlen2 : (readsD x).length ≤ 1000002 := by
          unfold readsD
          split
          · omega
          · split
            · simp; omega
            · split
              · simp
              · split <;> simp
        obtain ⟨A4, cap4, hv5, _⟩ := id hv4
        subst hv5
        clear c0 c1 c2 c3 c4 c5 c6 c7 c8 c9 c10 c11 lb hv4 hb4 how H3 HS3 HM3
        obtain ⟨al, hal2⟩ : ∃ z, z = readsD x := ⟨_, rfl⟩
        rw [← hal2] at HV4 HRD hlen2 ⊢
        have HAL := Lib.hid hal2
        obtain ⟨n, hn⟩ : ∃ n, n = al.length := ⟨_, rfl⟩
        rw [← hn] at HV4 hlen2 ⊢
        have HN := Lib.hid hn
        have HU4 := Lib.hid (show Ub (addU us x.dst) (c + 1) from HU.out.add x.dst hc0)
        clear hal2 hn
        go_wp2_with fail
        go_loopw [93] (fun i wr => ∃ k : Nat, k ≤ n ∧ i = .int .i64 k ∧ GrR wr B L0 L1 gb R av cv2 mv uv vs (insEk R S x E) (insM S x M) (readU (addU us x.dst) (al.take k)) (insC cp x) ∧ SetB wr L1 sv R (useF (fun r => S r && !decide (x.dst = (r : Int))) (al.take k)) ∧ Mid B L0 L1 wa wr ∧ Mid B L0 L1 w4 wr) (fun i _ => n - (intOf i).toNat)
        case atStart => exact ⟨0, by omega, rfl, by rw [List.take_zero]; exact H4.out, HS4.out.congr (fun r _ => by simp [useF, useB]), HM4.out, Mid.refl _ _ _ _⟩
        case round =>
          obtain ⟨k, hk, rfl, h5, hs5, hm5, hm6⟩ := hrel
          have H5 := Lib.hid h5
          have HS5 := Lib.hid hs5
          have HM5 := Lib.hid hm5
          have HM6 := Lib.hid hm6
          have hv6 := (HV4.out.mid hm6).1
          clear h5 hs5 hm5 hm6 H4 HS4 HM4
          by_cases hlt : k < n
          · have hlk : k < al.length := by rw [← HN.out]; exact hlt
            obtain ⟨a, ha⟩ : ∃ a, al[k]? = some a := ⟨_, List.getElem?_eq_getElem hlk⟩
            obtain ⟨A6, cap6, e6, _, _, hv7⟩ := hv6
            cases e6
            obtain ⟨lb, lo, cs, rfl, e1, e2, e3, e4, e5⟩ := hv7 k a ha
            subst e3
            have q0 := e2 0 (by omega)
            have q1 := e2 1 (by omega)
            rw [Nat.add_zero] at q0
            have hb0 := World.block_lt_of_cell? _ _ q0
            have HR := Lib.hid (HRD.out a (List.mem_of_getElem? ha))
            have HT1 := Lib.hid (readU_take (addU us x.dst) ha)
            have HT2 := Lib.hid (useF_take (fun r => S r && !decide (x.dst = (r : Int))) ha)
            have HAB := Lib.hid (below_alloc (.cells #[.int .i64 a.reg, .int .i64 a.num] 52) (Below.refl wr.heap.size wr))
            clear e1 e2 e4 e5 hlk ha hv7
            go_wp2_with fail
            refine (read_any (H5.out.more HAB.out) hR hB sv _ (HS5.out.more HAB.out) a HR.out.1 HR.out.2 (c + 1 + k) (by omega) (by omega) ((HU4.out.reads _ (by omega)).mono (by rw [List.length_take]; omega))).mono ?_
            rintro e w9 ⟨rfl, h9, hs9, hm9⟩
            have H9 := Lib.hid h9
            have HS9 := Lib.hid hs9
            have HM9 := Lib.hid ((Mid.of_below (B := B) (L0 := L0) (L1 := L1) HAB.out).trans hm9)
            clear h9 hs9 hm9 q0 q1 hb0
            go_wp2_with fail
            go_roundw
            case rel => exact ⟨k + 1, by omega, by go_num, by rw [HT1.out]; exact H9.out, by rw [HT2.out]; exact HS9.out, HM5.out.trans HM9.out, HM6.out.trans HM9.out⟩
            case measure => first | omega | (simp [intOf]; done) | (simp [intOf]; omega)
          · have e : k = n := by omega
            subst e
            go_wp2_with fail
            go_returns
            refine ⟨cv2, rfl, ?_, ?_, HM1.out.trans HM5.out⟩
            · have := H5.out
              rw [HN.out, List.take_length, HAL.out] at this
              exact this
            · have := HS5.out
              rw [HN.out, List.take_length, HAL.out] at this
              exact this.congr (fun r _ => rfl)
end
end Go.Proofs.YtbogcompeefoaaaDoor
