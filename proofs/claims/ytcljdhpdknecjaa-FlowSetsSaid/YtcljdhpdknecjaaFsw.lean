/- The walk of FlowSets. No condition. -/
import Derived.Test.YtcljdhpdknecjaaFs
namespace Go.Proofs.Ytcljdhpdknecjaa
open Go.RowKit
set_option linter.unusedVariables false
set_option maxHeartbeats 1000000
def bools200 : Array Value := Array.replicate 200 (.bool false)
theorem alloc_bools (w : World) : (Instr.alloc 27 true (.tuple #[])).run Try.prog w = .ok (.pointer (some ⟨w.heap.size, 0, none⟩)) (w.alloc (.cells bools200 27)) := by kernel_rfl
theorem exec_bools (ρ : Operand → Value) (o : Oper) (ho : o.op = .alloc 27) (w : World) : (execOp ρ o).run Try.prog w = .ok (.value (.pointer (some ⟨w.heap.size, 0, none⟩))) (w.alloc (.cells bools200 27)) := by
  unfold execOp
  rw [ho]
  have := alloc_bools w
  simp only [Sem.run_bind, this, Result.andThen]
  rfl
theorem wpList_bools {ops : Array Oper} {rest : List Oper} {o : Oper} {a : Act} {w : World} {Q : Exit → Act → World → Prop} (hgd : o.guard = none) (ho : o.op = .alloc 27)
    (h : wpList Try.prog ops Q rest (a.put o.dst (.pointer (some ⟨w.heap.size, 0, none⟩))) (w.alloc (.cells bools200 27))) : wpList Try.prog ops Q (o :: rest) a w :=
  wpList_value hgd _ _ (exec_bools _ o ho w) h
theorem bools_new {w : World} {b : Nat} (h : w.heap[b]? = some (.cells bools200 27 (0, 0))) : BoolsAt w b (fun _ => false) :=
  ⟨_, h, by simp [bools200], fun j hj => by simp [bools200, hj]⟩
theorem fs_start (B m : Nat) (W w1 w2 w3 : World) (v1 v2 : Value) (hB : B = W.heap.size) (k1 : Below W.heap.size W w1) (k2 : Below W.heap.size W w2) (s1 : SetR w2 w1.heap.size v1 (List.replicate ((m + 63) / 64) 0)) (s2 : SetR w3 w2.heap.size v2 (List.replicate ((m + 63) / 64) 0)) (b3 : Below w2.heap.size w2 w3) :
    FS B W ((w3.alloc (.cells bools200 27)).alloc (.cells bools200 27)) v1 v2 w3.heap.size (w3.heap.size + 1) (List.replicate ((m + 63) / 64) 0) (List.replicate ((m + 63) / 64) 0) (fun _ => false) (fun _ => false) := by
  subst hB
  have h1 := k1.size
  have h2 := k2.size
  have h3 := b3.size
  have a3 : Below w3.heap.size w3 ((w3.alloc (.cells bools200 27)).alloc (.cells bools200 27)) := below_alloc _ (below_alloc _ (Below.refl _ _))
  refine ⟨((s1.below b3).below a3).base h1, (s2.below a3).base h2, bools_new (blk_alloc (blk_new w3 _) _), ?_, sets_apart s1 s2 (Nat.le_refl _), by omega, by omega, by omega, (k2.bt b3).bt a3⟩
  have := blk_new (w3.alloc (.cells bools200 27)) (.cells bools200 27)
  exact bools_new (by simpa using this)
set_option maxRecDepth 100000 in
theorem sets_law (n : Int) (A1 A2 : Option Addr) (n1 c1 n2 c2 : Nat) (W : World) (hn : In64 n) (h1 : IntsIn W A1 n1) (h2 : IntsIn W A2 n2) :
    Calls Try.prog 3 #[.int .i64 n, .slice A1 n1 c1, .slice A2 n2 c2] W fun e w' => e = .returned (.bool true) ∧ Below W.heap.size W w' := by
  obtain ⟨m, hm, hml⟩ : ∃ m : Nat, n.tmod 200 % 200 = (m : Int) ∧ m < 200 := ⟨(n.tmod 200 % 200).toNat, by omega, by omega⟩
  have hlo : -199 ≤ n.tmod 200 ∧ n.tmod 200 ≤ 199 := by rw [tmod_eq_if]; split <;> omega
  have hl1 := h1.1
  have hl2 := h2.1
  have HI1 := Lib.hid h1
  have HI2 := Lib.hid h2
  clear h1 h2 hn
  go_enter Try.func3, Try.ntmps3
  go_wp2_with fail
  refine (fit_vm _).mono ?_
  rintro e w1 ⟨rfl, hb1⟩
  have kb1 := Lib.hid hb1
  clear hb1
  go_wp2_with fail
  · go_returns
    exact ⟨rfl, kb1.out⟩
  · clear hm hlo
    refine (empty_any _ m (by omega)).mono ?_
    rintro e w2 ⟨v1, rfl, hs1, hb2⟩
    have kb2 := Lib.hid (kb1.out.bt hb2)
    have HS1 := Lib.hid hs1
    clear hs1 hb2
    go_wp2_with fail
    refine (empty_any _ m (by omega)).mono ?_
    rintro e w3 ⟨v2, rfl, hs2, hb3⟩
    have HB3 := Lib.hid hb3
    have HS2 := Lib.hid hs2
    clear hs2 hb3
    go_wp2_with (refine wpList_bools rfl rfl ?_)
    have F0 := Lib.hid (fs_start W.heap.size m W w1 w2 w3 v1 v2 rfl kb1.out kb2.out HS1.out HS2.out HB3.out)
    have HBB := Lib.hid (Nat.le_refl W.heap.size)
    generalize w3.heap.size = hb at *
    go_loopw [39] (fun i wr => ∃ (k : Nat) (l : List Nat) (h : Nat → Bool), k ≤ n1 ∧ i = .int .i64 k ∧ FS W.heap.size W wr v1 v2 hb (hb + 1) l (List.replicate ((m + 63) / 64) 0) h (fun _ => false) ∧ Jst m l h) (fun i _ => n1 - (intOf i).toNat)
    case atStart => exact ⟨0, _, _, by omega, rfl, F0.out, Jst.zero m⟩
    case round =>
      obtain ⟨k, l, h, hk, rfl, hf, hj⟩ := hrel
      have HF := Lib.hid hf
      have HJ := Lib.hid hj
      clear hf hj
      by_cases hlt : k < n1
      · obtain ⟨ad, x, rfl, hc, hx1, hx2⟩ := HI1.out.at_ HF.out.below hlt
        by_cases hx : 0 ≤ x ∧ x < m
        · obtain ⟨i, rfl⟩ : ∃ i : Nat, x = i := ⟨x.toNat, by omega⟩
          have him : i < m := by omega
          clear hx
          go_wp2_with fail
          refine (put_any _ W.heap.size v1 l i HF.out.s (by omega)).mono ?_
          rintro e w4 ⟨rfl, hs4, hg4⟩
          have F4 := Lib.hid (HF.out.one HBB.out hs4 hg4)
          clear hs4 hg4
          obtain ⟨hc4, hz4⟩ := F4.out.hh.cell (show i < 200 by omega)
          go_wp2_with fail
          go_roundw
          case rel => exact ⟨k + 1, _, _, by omega, by go_num, F4.out.setH (by omega) true, HJ.out.put him⟩
          case measure => simp [intOf]; omega
        · go_wp2_with fail
          all_goals
            go_roundw
            case rel => exact ⟨k + 1, _, _, by omega, by go_num, HF.out, HJ.out⟩
            case measure => simp [intOf]; omega
      · have e : k = n1 := by omega
        subst e
        go_wp2_with fail
        obtain ⟨wo, rfl⟩ : ∃ wo : World, wo = wr := ⟨_, rfl⟩
        go_loopw [58] (fun i wr => ∃ (q : Nat) (o : List Nat) (t : Nat → Bool), q ≤ n2 ∧ i = .int .i64 q ∧ FS W.heap.size W wr v1 v2 hb (hb + 1) l o h t ∧ Jst m o t) (fun i _ => n2 - (intOf i).toNat)
        case atStart => exact ⟨0, _, _, by omega, rfl, HF.out, Jst.zero m⟩
        case round =>
          obtain ⟨q, o, t, hq, rfl, hf, hj⟩ := hrel
          have HF2 := Lib.hid hf
          have HJ2 := Lib.hid hj
          clear hf hj HF
          by_cases hlt2 : q < n2
          · obtain ⟨ad, x, rfl, hc, hx1, hx2⟩ := HI2.out.at_ HF2.out.below hlt2
            by_cases hx : 0 ≤ x ∧ x < m
            · obtain ⟨i, rfl⟩ : ∃ i : Nat, x = i := ⟨x.toNat, by omega⟩
              have him : i < m := by omega
              clear hx
              by_cases h3 : q % 3 = 2
              · have t1 : ((q : Int) % 3 == 2) = true := by rw [beq_iff_eq]; omega
                have t2 : ((q : Int) % 3 != 2) = false := by rw [bne, t1]; rfl
                clear h3
                go_wp2_with fail
                refine (put_any _ W.heap.size v2 o i HF2.out.o (by omega)).mono ?_
                rintro e w4 ⟨rfl, hs4, hg4⟩
                have F4 := Lib.hid (HF2.out.two HBB.out hs4 hg4)
                clear hs4 hg4
                go_wp2_with fail
                refine (out_any _ W.heap.size v2 _ i F4.out.o (by omega)).mono ?_
                rintro e w5 ⟨rfl, hs5, hg5⟩
                have F5 := Lib.hid (F4.out.two HBB.out hs5 hg5)
                clear hs5 hg5
                obtain ⟨hc5, hz5⟩ := F5.out.oh.cell (show i < 200 by omega)
                go_wp2_with fail
                go_roundw
                case rel => exact ⟨q + 1, _, _, by omega, by go_num, F5.out.setO (by omega) false, HJ2.out.out him⟩
                case measure => simp [intOf]; omega
              · have t1 : ((q : Int) % 3 == 2) = false := by rw [beq_eq_false_iff_ne]; omega
                have t2 : ((q : Int) % 3 != 2) = true := by rw [bne, t1]; rfl
                clear h3
                go_wp2_with fail
                refine (put_any _ W.heap.size v2 o i HF2.out.o (by omega)).mono ?_
                rintro e w4 ⟨rfl, hs4, hg4⟩
                have F4 := Lib.hid (HF2.out.two HBB.out hs4 hg4)
                clear hs4 hg4
                obtain ⟨hc4, hz4⟩ := F4.out.oh.cell (show i < 200 by omega)
                go_wp2_with fail
                go_roundw
                case rel => exact ⟨q + 1, _, _, by omega, by go_num, F4.out.setO (by omega) true, HJ2.out.put him⟩
                case measure => simp [intOf]; omega
            · go_wp2_with fail
              all_goals
                go_roundw
                case rel => exact ⟨q + 1, _, _, by omega, by go_num, HF2.out, HJ2.out⟩
                case measure => simp [intOf]; omega
          · have e : q = n2 := by omega
            subst e
            go_wp2_with fail
            refine (copy_any _ W.heap.size v1 l HF2.out.s (by have := HJ.out.1; omega)).mono ?_
            rintro e w6 ⟨v3, rfl, hs6, hb6⟩
            have F6 := Lib.hid (HF2.out.more HBB.out hb6)
            have N1 := Lib.hid (sets_apart HF2.out.s hs6 (Nat.le_refl _))
            have N2 := Lib.hid (sets_apart HF2.out.o hs6 (Nat.le_refl _))
            have S6 := Lib.hid (hs6.base (Nat.le_trans HBB.out HF2.out.below.size))
            clear hs6 hb6 HF2
            go_wp2_with fail
            go_loop [16, 88] (fun b i => ∃ k : Nat, k ≤ m ∧ i = .int .i64 k ∧ b = .bool (anyK h t k)) (fun _ i => m - (intOf i).toNat)
            case atStart => exact ⟨0, by omega, rfl, rfl⟩
            case round =>
              obtain ⟨k, hk, rfl, rfl⟩ := hrel
              by_cases hlt3 : k < m
              · obtain ⟨c1, _⟩ := F6.out.hh.cell (show k < 200 by omega)
                obtain ⟨c2, _⟩ := F6.out.oh.cell (show k < 200 by omega)
                have HS := Lib.hid (anyK_succ h t k)
                generalize anyK h t k = x at *
                generalize h k = y at *
                generalize t k = z at *
                cases x <;> cases y <;> cases z
                all_goals
                  go_wp2_with fail
                  go_round
                  case rel => exact ⟨k + 1, by omega, by go_num, by rw [HS.out]; rfl⟩
                  case measure => simp [intOf]; omega
              · have e : k = m := by omega
                subst e
                go_wp2_with fail
                have J1 := Lib.hid (join_any _ W.heap.size W.heap.size v3 v2 l o S6.out F6.out.o (ne_symm N2.out))
                have J1' := J1.out
                rw [more_eq HJ.out HJ2.out F6.out.s.2 F6.out.o.2] at J1'
                have J2 := Lib.hid J1'
                clear J1 J1'
                have hbb : (anyK h t k != anyK h t k) = false := by simp
                refine J2.out.mono ?_
                rintro e w7 ⟨rfl, hs7, hg7⟩
                have F7 := Lib.hid (F6.out.third HBB.out S6.out N1.out N2.out hs7 hg7)
                have S7 := Lib.hid hs7
                have HJ3 := Lib.hid (HJ.out.join HJ2.out)
                clear hs7 hg7 J2
                generalize hl3 : joinK l o (min l.length o.length) = l3 at *
                clear hl3
                go_wp2_with fail
                have J1 := Lib.hid (join_any _ W.heap.size W.heap.size v3 v2 l3 o S7.out F7.out.o (ne_symm N2.out))
                have J1' := J1.out
                rw [more_eq HJ3.out HJ2.out S7.out.2 F7.out.o.2, join_again HJ.out HJ2.out] at J1'
                have J2 := Lib.hid J1'
                clear J1 J1'
                refine J2.out.mono ?_
                rintro e w8 ⟨rfl, hs8, hg8⟩
                have F8 := Lib.hid (F7.out.third HBB.out S7.out N1.out N2.out hs8 hg8)
                have S8 := Lib.hid hs8
                have HJ4 := Lib.hid (HJ3.out.join HJ2.out)
                clear hs8 hg8 J2
                generalize hl4 : joinK l3 o (min l3.length o.length) = l4 at *
                clear hl4
                obtain ⟨hn1, hn2⟩ := hasJ_no HJ.out hml
                have A1 := Lib.hid (has_any w8 W.heap.size v1 l (-1) F8.out.s (by omega))
                have A2 := Lib.hid (has_any w8 W.heap.size v1 l 1000 F8.out.s (by omega))
                rw [hn1] at A1
                rw [hn2] at A2
                clear hn1 hn2
                go_wp2_with fail
                refine A1.out.mono ?_
                rintro e w9 ⟨rfl, rfl⟩
                go_wp2_with fail
                refine A2.out.mono ?_
                rintro e w9 ⟨rfl, rfl⟩
                go_wp2_with fail
                obtain ⟨w10, rfl⟩ : ∃ wo : World, wo = w8 := ⟨_, rfl⟩
                go_loopw [123] (fun i wr => ∃ j : Nat, j ≤ k ∧ i = .int .i64 j ∧ FS W.heap.size W wr v1 v2 hb (hb + 1) l o h t ∧ SetR wr W.heap.size v3 l4) (fun i _ => k - (intOf i).toNat)
                case atStart => exact ⟨0, by omega, rfl, F8.out, S8.out⟩
                case round =>
                  obtain ⟨j, hj, rfl, hf, hs⟩ := hrel
                  have F9 := Lib.hid hf
                  have S9 := Lib.hid hs
                  clear hf hs A1 A2
                  by_cases hlt4 : j < k
                  · obtain ⟨c1, _⟩ := F9.out.hh.cell (show j < 200 by omega)
                    obtain ⟨c2, _⟩ := F9.out.oh.cell (show j < 200 by omega)
                    have A1 := Lib.hid (fun q => (has_any (wr.drewN q) W.heap.size v1 l (j : Int) F9.out.s (by omega)).mono (fun _ _ h => (⟨h.1, h.2.symm⟩ : _ ∧ _)))
                    have A2 := Lib.hid (fun q => (has_any (wr.drewN q) W.heap.size v2 o (j : Int) F9.out.o (by omega)).mono (fun _ _ h => (⟨h.1, h.2.symm⟩ : _ ∧ _)))
                    have A3 := Lib.hid (fun q => (has_any (wr.drewN q) W.heap.size v3 l4 (j : Int) S9.out (by omega)).mono (fun _ _ h => (⟨h.1, h.2.symm⟩ : _ ∧ _)))
                    rw [hasJ HJ.out hlt4] at A1
                    rw [hasJ HJ2.out hlt4] at A2
                    rw [hasJ HJ4.out hlt4] at A3
                    have D9 := Lib.hid (fun q => F9.out.drew q)
                    generalize h j = y at *
                    generalize t j = z at *
                    cases y <;> cases z
                    all_goals
                      go_wp2_with fail
                      go_quiet ((go_at_call 13; first | (with_reducible exact Calls.quiet_of_same (A1.out _)) | (with_reducible exact Calls.quiet_of_same (A2.out _)) | (with_reducible exact Calls.quiet_of_same (A3.out _))))
                      go_wp2_with fail
                      go_roundw
                      case rel => exact ⟨j + 1, by omega, by go_num, D9.out _, S9.out⟩
                      case measure => simp [intOf]; omega
                  · go_wp2_with fail
                    go_returns
                    exact ⟨rfl, F9.out.below⟩
  · go_returns
    exact ⟨rfl, kb1.out⟩
end Go.Proofs.Ytcljdhpdknecjaa
