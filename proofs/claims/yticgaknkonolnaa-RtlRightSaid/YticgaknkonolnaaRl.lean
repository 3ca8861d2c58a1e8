/- Walks: like, same, the reference's Reads (RtlReads). No condition. -/
import Derived.Test.YticgaknkonolnaaRv
import Derived.BigQuiet
namespace Go.Proofs.Yticgaknkonolnaa
open Go.RowKit
set_option linter.unusedVariables false
set_option maxHeartbeats 1000000
theorem Try.infoArg8 : (Try.prog.info? 59).map (fun i => (i.zero, i.size, i.bytes)) = some (some (.agg #[.int .i64 0, .int .i64 0]), 2, 16) := by kernel_rfl
/-- append to a row of the call's own -/
theorem append_args8 (w : World) (a : ArgD) (ha : In64 a.reg ∧ In64 a.num) (g : Nat) (hg : w.heap[g]? = some (.cells #[.int .i64 a.reg, .int .i64 a.num] 59 (0, 0))) (v : Value) (l : List ArgD) (h : SlR w 2 ArgR v l) (hl : l.length ≤ 1000000) :
    ∃ v' w', (Builtin.append_ #[57, 57] 57 #[.slice (some ⟨g, 0, none⟩) 1 1, v]).run Try.prog w = .ok v' w' ∧ SlR w' 2 ArgR v' (a :: l) ∧ w.grownBy w' (some g) := by
  obtain ⟨i0, hi, hz0, hz1, hz2⟩ := info_parts Try.infoArg8
  have hown : w.ownsRow g 59 2 (.slice (some ⟨g, 0, none⟩) 1 1) 1 (flatA [a]) :=
    ⟨rfl, .inr ⟨g, 1, _, rfl, Nat.le_refl _, hg, Nat.le_refl _, by decide, rfl, rfl⟩⟩
  have hin : ArgsIn (a :: l) := fun x hx => by
    rcases List.mem_cons.1 hx with rfl | hx
    · exact ha
    · exact h.argsIn x hx
  by_cases h0 : l.length = 0
  · have : l = [] := List.length_eq_zero_iff.1 h0
    subst this
    obtain ⟨A, cap, rfl, _⟩ := h
    refine ⟨.slice (some ⟨g, 0, none⟩) 1 1, w, ?_, own_slR hown rfl hin, ⟨rfl, rfl, rfl, Nat.le_refl _, fun _ _ _ => rfl⟩⟩
    cases A with
    | none => simp [Builtin.append_, run_underlying Try.underlying57, sizeOf, typeInfo, hi, Builtin.lenOf, Builtin.firstCells, storeCells]
    | some ad => simp [Builtin.append_, run_underlying Try.underlying57, sizeOf, typeInfo, hi, Builtin.lenOf, Builtin.firstCells, storeCells, loadCells, loadCellsFrom]
  · obtain ⟨A, cap, rfl, h1, h2, _⟩ := id h
    obtain ⟨b, o, rfl, hnews⟩ := h.news (by omega)
    obtain ⟨v', w', hr, g1, g2, _⟩ := run_append_own (P := Try.prog) w g 57 57 59 i0 _ 2 16 Try.underlying57 hi hz0 hz1 hz2 rfl (by decide) _ 1 (flatA [a]) hown ⟨b, o, none⟩ l.length cap (flatA l) (flatA_length l) hnews
      (fun u hu => by
        obtain ⟨x, _, hx⟩ := List.mem_flatMap.1 hu
        rcases List.mem_cons.1 hx with rfl | hx
        · rfl
        · rcases List.mem_cons.1 hx with rfl | hx
          · rfl
          · cases hx) (by unfold maxLen; omega) (by omega) (Nat.le_of_lt (blk_lt hg))
    exact ⟨v', w', hr, own_slR (e := 59) (l := a :: l) g1 (by simp; omega) hin, g2⟩
/-- one more argument, onto a row of the call's own -/
theorem append_one8 (w : World) (a : ArgD) (base : Nat) (hbase : base ≤ w.heap.size) (g : Nat) (hg : w.heap[g]? = some (.cells #[.int .i64 a.reg, .int .i64 a.num] 59 (0, 0))) (v : Value) (n : Nat) (l : List ArgD) (h : w.ownsRow base 59 2 v n (flatA l)) (hl : n ≤ 1000000) :
    ∃ v' w', (Builtin.append_ #[57, 57] 57 #[v, .slice (some ⟨g, 0, none⟩) 1 1]).run Try.prog w = .ok v' w' ∧ w'.ownsRow base 59 2 v' (n + 1) (flatA (l ++ [a])) ∧ w.grownBy w' v.ownBlock := by
  obtain ⟨i0, hi, hz0, hz1, hz2⟩ := info_parts Try.infoArg8
  obtain ⟨v', w', hr, g1, g2, _⟩ := run_append_own (P := Try.prog) w base 57 57 59 i0 _ 2 16 Try.underlying57 hi hz0 hz1 hz2 rfl (by decide) v n (flatA l) h ⟨g, 0, none⟩ 1 1 [.int .i64 a.reg, .int .i64 a.num] rfl
    (fun j u hj => by
      match j, hj with
      | 0, hj => simp only [List.getElem?_cons_zero, Option.some.injEq] at hj; subst hj; exact blk_cell hg rfl
      | 1, hj => simp only [List.getElem?_cons_succ, List.getElem?_cons_zero, Option.some.injEq] at hj; subst hj; exact blk_cell hg rfl
      | j + 2, hj => simp at hj)
    (fun u hu => by
      rcases List.mem_cons.1 hu with rfl | hu
      · rfl
      · rcases List.mem_cons.1 hu with rfl | hu
        · rfl
        · cases hu) (by unfold maxLen; omega) (by omega) hbase
  refine ⟨v', w', hr, ?_, g2⟩
  have : flatA (l ++ [a]) = flatA l ++ [.int .i64 a.reg, .int .i64 a.num] := by simp [flatA, List.flatMap_append]
  rw [this]; exact g1
/-- an instruction of the reference as a value -/
abbrev insV8 := insV
theorem reads8_any (w : World) (x : InsD) (va : Value) (hop : 1 ≤ x.op ∧ x.op ≤ 30) (ha : In64 x.a.reg ∧ In64 x.a.num) (hb : In64 x.b.reg ∧ In64 x.b.num) (hs : SlR w 2 ArgR va x.args) (hl : x.args.length ≤ 1000000) :
    Calls Try.prog 19 #[insV x va] w (Args w (readsD x)) := by
  have HS := Lib.hid hs
  obtain ⟨o1, o2⟩ := hop
  have hcase : x.op = 23 ∨ x.op = 24 ∨ x.op = 25 ∨ x.op = 28 ∨ x.op = 29 ∨ x.op = 1 ∨ x.op = 2 ∨ x.op = 22 ∨ x.op = 26 ∨ x.op = 30 ∨ ((3 ≤ x.op ∧ x.op ≤ 21) ∨ x.op = 27) := by omega
  rcases hcase with k | k | k | k | k | k | k | k | k | k | k
  · rw [show readsD x = [] by simp [readsD, k]]
    clear hs o1 o2
    go_enter Try.func19, Try.ntmps19
    go_wp2
    go_returns
    exact ⟨_, rfl, nil_lit _ _ _, below_alloc _ (Below.refl _ _)⟩
  · rw [show readsD x = [] by simp [readsD, k]]
    clear hs o1 o2
    go_enter Try.func19, Try.ntmps19
    go_wp2
    go_returns
    exact ⟨_, rfl, nil_lit _ _ _, below_alloc _ (Below.refl _ _)⟩
  · rw [show readsD x = [] by simp [readsD, k]]
    clear hs o1 o2
    go_enter Try.func19, Try.ntmps19
    go_wp2
    go_returns
    exact ⟨_, rfl, nil_lit _ _ _, below_alloc _ (Below.refl _ _)⟩
  · rw [show readsD x = x.args by simp [readsD, k]]
    clear hs o1 o2
    go_enter Try.func19, Try.ntmps19
    go_wp2
    go_returns
    exact ⟨_, rfl, HS.out.later (by decide) (below_alloc _ (Below.refl _ _)), below_alloc _ (Below.refl _ _)⟩
  · rw [show readsD x = x.a :: x.args by simp [readsD, k]]
    clear o1 o2
    obtain ⟨v', w', hr, g1, g2⟩ := append_args8 ((w.alloc (.cells #[.int .i64 x.op, .int .i64 x.dst, .int .i64 x.a.reg, .int .i64 x.a.num, .int .i64 x.b.reg, .int .i64 x.b.num, .int .i64 x.size, .bool x.signed, .bool x.secret, .int .i64 x.ref, .int .i64 x.off, va] 61)).alloc (.cells #[.int .i64 x.a.reg, .int .i64 x.a.num] 59))
      x.a ha (w.heap.size + 1) (by have := blk_new (w.alloc (.cells #[.int .i64 x.op, .int .i64 x.dst, .int .i64 x.a.reg, .int .i64 x.a.num, .int .i64 x.b.reg, .int .i64 x.b.num, .int .i64 x.size, .bool x.signed, .bool x.secret, .int .i64 x.ref, .int .i64 x.off, va] 61)) (.cells #[.int .i64 x.a.reg, .int .i64 x.a.num] 59); simpa using this)
      va x.args (hs.later (by decide) (below_alloc _ (below_alloc _ (Below.refl _ _)))) hl
    rw [k] at hr
    have HG := Lib.hid g1
    have HB := Lib.hid (show Below w.heap.size w w' from ⟨g2.os, g2.tape, g2.output, by have := g2.size; simp at this; omega, fun k hk => (g2.block k (by simp; omega) (by intro e; have := Option.some.inj e; omega)).trans ((below_alloc _ (below_alloc _ (Below.refl _ _))).block k hk)⟩)
    clear g1 g2 hs
    go_enter Try.func19, Try.ntmps19
    go_wp2_with (at_builtin; refine wpList_append_run' _ rfl _ _ _ rfl _ _ _ _ rfl rfl hr ?_)
    go_returns
    exact ⟨_, rfl, HG.out, HB.out⟩
  · rw [show readsD x = [x.a] by simp [readsD, k]]
    clear hs o1 o2
    go_enter Try.func19, Try.ntmps19
    go_wp2
    go_returns
    exact ⟨_, rfl, one_lit _ _ x.a _ (by simp) ha, below_alloc _ (below_alloc _ (Below.refl _ _))⟩
  · rw [show readsD x = [x.a] by simp [readsD, k]]
    clear hs o1 o2
    go_enter Try.func19, Try.ntmps19
    go_wp2
    go_returns
    exact ⟨_, rfl, one_lit _ _ x.a _ (by simp) ha, below_alloc _ (below_alloc _ (Below.refl _ _))⟩
  · rw [show readsD x = [x.a] by simp [readsD, k]]
    clear hs o1 o2
    go_enter Try.func19, Try.ntmps19
    go_wp2
    go_returns
    exact ⟨_, rfl, one_lit _ _ x.a _ (by simp) ha, below_alloc _ (below_alloc _ (Below.refl _ _))⟩
  · rw [show readsD x = [x.a] by simp [readsD, k]]
    clear hs o1 o2
    go_enter Try.func19, Try.ntmps19
    go_wp2
    go_returns
    exact ⟨_, rfl, one_lit _ _ x.a _ (by simp) ha, below_alloc _ (below_alloc _ (Below.refl _ _))⟩
  · rw [show readsD x = [x.a] by simp [readsD, k]]
    clear hs o1 o2
    go_enter Try.func19, Try.ntmps19
    go_wp2
    go_returns
    exact ⟨_, rfl, one_lit _ _ x.a _ (by simp) ha, below_alloc _ (below_alloc _ (Below.refl _ _))⟩
  · rw [show readsD x = [x.a, x.b] by unfold readsD; rw [if_neg (by omega), if_neg (by omega), if_pos k]]
    have b23 : (x.op == 23) = false := by rw [beq_eq_false_iff_ne]; omega
    have b24 : (x.op == 24) = false := by rw [beq_eq_false_iff_ne]; omega
    have b25 : (x.op == 25) = false := by rw [beq_eq_false_iff_ne]; omega
    have b28 : (x.op == 28) = false := by rw [beq_eq_false_iff_ne]; omega
    have b29 : (x.op == 29) = false := by rw [beq_eq_false_iff_ne]; omega
    have b1 : (x.op == 1) = false := by rw [beq_eq_false_iff_ne]; omega
    have b2 : (x.op == 2) = false := by rw [beq_eq_false_iff_ne]; omega
    have b22 : (x.op == 22) = false := by rw [beq_eq_false_iff_ne]; omega
    have b26 : (x.op == 26) = false := by rw [beq_eq_false_iff_ne]; omega
    have b30 : (x.op == 30) = false := by rw [beq_eq_false_iff_ne]; omega
    clear hs o1 o2 k
    go_enter Try.func19, Try.ntmps19
    go_wp2
    go_returns
    exact ⟨_, rfl, two_lit _ _ x.a x.b _ (by simp) ha hb, below_alloc _ (below_alloc _ (Below.refl _ _))⟩
theorem like_any (w : World) (l : List ArgD) (v1 v2 : Value) (h1 : SlR w 2 ArgR v1 l) (h2 : SlR w 2 ArgR v2 l) : Calls Try.prog 17 #[v1, v2] w fun e w' => e = .returned (.bool true) ∧ Below w.heap.size w w' := by
  obtain ⟨A1, c1, rfl, _, m1, i1⟩ := h1
  obtain ⟨A2, c2, rfl, _, m2, i2⟩ := h2
  have hlen : l.length ≤ 9223372036854775807 := by unfold maxLen at m1; omega
  have H1 := Lib.hid i1
  have H2 := Lib.hid i2
  clear i1 i2 m1 m2
  go_enter Try.func17, Try.ntmps17
  go_wp2
  go_loopw [13] (fun i wr => ∃ k : Nat, k ≤ l.length ∧ i = .int .i64 k ∧ Below w.heap.size w wr) (fun i _ => l.length - (intOf i).toNat)
  case atStart => exact ⟨0, by omega, rfl, Below.refl _ _⟩
  case round =>
    obtain ⟨k, hk, rfl, hb⟩ := hrel
    have HB := Lib.hid hb
    clear hb
    by_cases hlt : k < l.length
    · obtain ⟨x, hx⟩ : ∃ x, l[k]? = some x := ⟨_, List.getElem?_eq_getElem hlt⟩
      obtain ⟨b1, o1, cs, rfl, e1, e2, e3, _⟩ := H1.out k x hx
      subst e3
      obtain ⟨b2, o2, cs, rfl, f1, f2, f3, _⟩ := H2.out k x hx
      subst f3
      have r0 := later (e2 0 (by omega)) HB.out
      have r1 := later (e2 1 (by omega)) HB.out
      have s0 := later (f2 0 (by omega)) HB.out
      have s1 := later (f2 1 (by omega)) HB.out
      rw [Nat.add_zero] at r0 s0
      clear e1 e2 f1 f2 hx
      go_wp2_with fail
      go_quiet (fail)
      go_wp2_with fail
      go_roundw
      case rel => exact ⟨k + 1, by omega, by go_num, below_drewN HB.out _⟩
      case measure => simp [intOf]; omega
    · have e : k = l.length := by omega
      subst e
      go_wp2_with fail
      go_returns
      exact ⟨rfl, HB.out⟩
theorem same_any (w : World) (l : List ArgD) (v1 v2 : Value) (h1 : SlR w 2 ArgR v1 l) (h2 : SlR w 2 ArgR v2 l) : Calls Try.prog 26 #[v1, v2] w fun e w' => e = .returned (.bool true) ∧ Below w.heap.size w w' := by
  obtain ⟨A1, c1, rfl, _, m1, i1⟩ := h1
  obtain ⟨A2, c2, rfl, _, m2, i2⟩ := h2
  have hlen : l.length ≤ 9223372036854775807 := by unfold maxLen at m1; omega
  have H1 := Lib.hid i1
  have H2 := Lib.hid i2
  clear i1 i2 m1 m2
  go_enter Try.func26, Try.ntmps26
  go_wp2
  go_loopw [13] (fun i wr => ∃ k : Nat, k ≤ l.length ∧ i = .int .i64 k ∧ Below w.heap.size w wr) (fun i _ => l.length - (intOf i).toNat)
  case atStart => exact ⟨0, by omega, rfl, Below.refl _ _⟩
  case round =>
    obtain ⟨k, hk, rfl, hb⟩ := hrel
    have HB := Lib.hid hb
    clear hb
    by_cases hlt : k < l.length
    · obtain ⟨x, hx⟩ : ∃ x, l[k]? = some x := ⟨_, List.getElem?_eq_getElem hlt⟩
      obtain ⟨b1, o1, cs, rfl, e1, e2, e3, _⟩ := H1.out k x hx
      subst e3
      obtain ⟨b2, o2, cs, rfl, f1, f2, f3, _⟩ := H2.out k x hx
      subst f3
      have r0 := later (e2 0 (by omega)) HB.out
      have r1 := later (e2 1 (by omega)) HB.out
      have s0 := later (f2 0 (by omega)) HB.out
      have s1 := later (f2 1 (by omega)) HB.out
      rw [Nat.add_zero] at r0 s0
      clear e1 e2 f1 f2 hx
      go_wp2_with fail
      go_quiet (fail)
      go_wp2_with fail
      go_roundw
      case rel => exact ⟨k + 1, by omega, by go_num, below_drewN HB.out _⟩
      case measure => simp [intOf]; omega
    · have e : k = l.length := by omega
      subst e
      go_wp2_with fail
      go_returns
      exact ⟨rfl, HB.out⟩
end Go.Proofs.Yticgaknkonolnaa
