/- Walks: what is read, and in which memory it lies. No condition. -/
import Derived.Test.YtdaildpfkchbhaaDoorRv
namespace Go.Proofs.YtdaildpfkchbhaaDoor
open Go.RowKit
set_option linter.unusedVariables false
set_option maxHeartbeats 1000000
theorem lit_arg (w : World) (g : Nat) (cs : Array Value) (n : Nat) (hg : g = w.heap.size) (hs : cs.size = n * 2) (hm : n ≤ maxLen) :
    ∃ B m xs, (w.alloc (.cells cs 37)).ownsRow B 37 2 (.slice (some ⟨g, 0, none⟩) n n) m xs := by
  subst hg
  exact ⟨0, n, _, World.ownsRow_lit (size := 2) w cs n (Nat.zero_le _) hm hs⟩
/-- a slice of arguments comes back: va, or one in memory of its own -/
def ArgsN (w : World) (va : Value) (l : List ArgD) (e : Ending) (w' : World) : Prop := ∃ v, e = .returned v ∧ SlR w' 2 ArgR v l ∧ Below w.heap.size w w' ∧ (v = va ∨ ∃ B n xs, w'.ownsRow B 37 2 v n xs)
/-- append to a row of the call's own -/
theorem append_args_own (w : World) (a : ArgD) (ha : In64 a.reg ∧ In64 a.num) (g : Nat) (hg : w.heap[g]? = some (.cells #[.int .i64 a.reg, .int .i64 a.num] 37 (0, 0))) (v : Value) (l : List ArgD) (h : SlR w 2 ArgR v l) (hl : l.length ≤ 1000000) :
    ∃ v' w', (Builtin.append_ #[43, 43] 43 #[.slice (some ⟨g, 0, none⟩) 1 1, v]).run Tryd.prog w = .ok v' w' ∧ SlR w' 2 ArgR v' (a :: l) ∧ w.grownBy w' (some g) ∧ ∃ B n xs, w'.ownsRow B 37 2 v' n xs := by
  obtain ⟨i0, hi, hz0, hz1, hz2⟩ := info_parts Tryd.infoArg
  have hown : w.ownsRow g 37 2 (.slice (some ⟨g, 0, none⟩) 1 1) 1 (flatA [a]) :=
    ⟨rfl, .inr ⟨g, 1, _, rfl, Nat.le_refl _, hg, Nat.le_refl _, by decide, rfl, rfl⟩⟩
  have hin : ArgsIn (a :: l) := fun x hx => by
    rcases List.mem_cons.1 hx with rfl | hx
    · exact ha
    · exact h.argsIn x hx
  by_cases h0 : l.length = 0
  · have : l = [] := List.length_eq_zero_iff.1 h0
    subst this
    obtain ⟨A, cap, rfl, _⟩ := h
    refine ⟨.slice (some ⟨g, 0, none⟩) 1 1, w, ?_, own_slR hown rfl hin, ⟨rfl, rfl, rfl, Nat.le_refl _, fun _ _ _ => rfl⟩, g, 1, _, hown⟩
    cases A with
    | none => simp [Builtin.append_, run_underlying Tryd.underlying43, sizeOf, typeInfo, hi, Builtin.lenOf, Builtin.firstCells, storeCells]
    | some ad => simp [Builtin.append_, run_underlying Tryd.underlying43, sizeOf, typeInfo, hi, Builtin.lenOf, Builtin.firstCells, storeCells, loadCells, loadCellsFrom]
  · obtain ⟨A, cap, rfl, h1, h2, _⟩ := id h
    obtain ⟨b, o, rfl, hnews⟩ := h.news (by omega)
    obtain ⟨v', w', hr, g1, g2, _⟩ := run_append_own (P := Tryd.prog) w g 43 43 37 i0 _ 2 16 Tryd.underlying43 hi hz0 hz1 hz2 rfl (by decide) _ 1 (flatA [a]) hown ⟨b, o, none⟩ l.length cap (flatA l) (flatA_length l) hnews
      (fun u hu => by
        obtain ⟨x, _, hx⟩ := List.mem_flatMap.1 hu
        rcases List.mem_cons.1 hx with rfl | hx
        · rfl
        · rcases List.mem_cons.1 hx with rfl | hx
          · rfl
          · cases hx) (by unfold maxLen; omega) (by omega) (Nat.le_of_lt (blk_lt hg))
    exact ⟨v', w', hr, own_slR (e := 37) (l := a :: l) g1 (by simp; omega) hin, g2, g, _, _, g1⟩
theorem treads_new (w : World) (t : TermD) (ha : In64 t.a.reg ∧ In64 t.a.num) (hb : In64 t.b.reg ∧ In64 t.b.num) : Calls Tryd.prog 27 #[termV t] w (ArgsN w (.slice none 0 0) (readsT t)) := by
  unfold readsT
  by_cases k1 : t.kind = 2
  · rw [if_pos k1]
    go_enter Tryd.func27, Tryd.ntmps27
    go_wp2
    go_returns
    exact ⟨_, rfl, two_lit _ _ t.a t.b _ (by simp) ha hb, below_alloc _ (below_alloc _ (Below.refl _ _)), Or.inr (lit_arg _ _ _ 2 (by simp) rfl (by decide))⟩
  · rw [if_neg k1]
    have b1 : (t.kind == 2) = false := by simpa using k1
    by_cases k2 : t.kind = 3
    · rw [if_pos k2]
      clear b1 k1
      go_enter Tryd.func27, Tryd.ntmps27
      go_wp2
      go_returns
      exact ⟨_, rfl, one_lit _ _ t.a _ (by simp) ha, below_alloc _ (below_alloc _ (Below.refl _ _)), Or.inr (lit_arg _ _ _ 1 (by simp) rfl (by decide))⟩
    · rw [if_neg k2]
      have b2 : (t.kind == 3) = false := by simpa using k2
      clear k1 k2
      go_enter Tryd.func27, Tryd.ntmps27
      go_wp2
      go_returns
      exact ⟨_, rfl, nil_lit _ _ _, below_alloc _ (Below.refl _ _), Or.inr ⟨0, 0, [], World.ownsRow_nil _ _ _ _⟩⟩
theorem ireads_new (w : World) (x : InsD) (va : Value) (hop : In64 x.op) (ha : In64 x.a.reg ∧ In64 x.a.num) (hb : In64 x.b.reg ∧ In64 x.b.num) (hs : SlR w 2 ArgR va x.args) (hl : x.args.length ≤ 1000000) :
    Calls Tryd.prog 35 #[insV x va] w (ArgsN w va (readsD x)) := by
  unfold readsD
  have HS := Lib.hid hs
  obtain ⟨o1, o2⟩ := hop
  by_cases k1 : x.op = 28
  · rw [if_pos k1]
    clear hs o1 o2
    go_enter Tryd.func35, Tryd.ntmps35
    go_wp2
    go_returns
    exact ⟨_, rfl, HS.out.later (by decide) (below_alloc _ (Below.refl _ _)), below_alloc _ (Below.refl _ _), Or.inl rfl⟩
  rw [if_neg k1]
  have b1 : (x.op == 28) = false := by simpa using k1
  by_cases k2 : x.op = 29
  · rw [if_pos k2]
    clear b1 k1 o1 o2
    obtain ⟨v', w', hr, g1, g2, how⟩ := append_args_own ((w.alloc (.cells #[.int .i64 x.op, .int .i64 x.dst, .int .i64 x.a.reg, .int .i64 x.a.num, .int .i64 x.b.reg, .int .i64 x.b.num, .int .i64 x.size, .bool x.signed, .bool x.secret, .int .i64 x.ref, .int .i64 x.off, va] 45)).alloc (.cells #[.int .i64 x.a.reg, .int .i64 x.a.num] 37))
      x.a ha (w.heap.size + 1) (by have := blk_new (w.alloc (.cells #[.int .i64 x.op, .int .i64 x.dst, .int .i64 x.a.reg, .int .i64 x.a.num, .int .i64 x.b.reg, .int .i64 x.b.num, .int .i64 x.size, .bool x.signed, .bool x.secret, .int .i64 x.ref, .int .i64 x.off, va] 45)) (.cells #[.int .i64 x.a.reg, .int .i64 x.a.num] 37); simpa using this)
      va x.args (hs.later (by decide) (below_alloc _ (below_alloc _ (Below.refl _ _)))) hl
    rw [k2] at hr
    have HG := Lib.hid g1
    have HOW := Lib.hid how
    have HB := Lib.hid (show Below w.heap.size w w' from ⟨g2.os, g2.tape, g2.output, by have := g2.size; simp at this; omega, fun k hk => (g2.block k (by simp; omega) (by intro e; have := Option.some.inj e; omega)).trans ((below_alloc _ (below_alloc _ (Below.refl _ _))).block k hk)⟩)
    clear g1 g2 hs how
    go_enter Tryd.func35, Tryd.ntmps35
    go_wp2_with (at_builtin; refine wpList_append_run' _ rfl _ _ _ rfl _ _ _ _ rfl rfl hr ?_)
    go_returns
    exact ⟨_, rfl, HG.out, HB.out, Or.inr HOW.out⟩
  rw [if_neg k2]
  have b2 : (x.op == 29) = false := by simpa using k2
  have HT := Lib.hid (fun w => two_any w x.op ⟨o1, o2⟩)
  clear hs
  by_cases k3 : 3 ≤ x.op ∧ x.op ≤ 21
  · rw [if_pos (Or.inl k3)]
    rw [decide_eq_true k3] at HT
    clear k1 k2 k3 o1 o2
    go_enter Tryd.func35, Tryd.ntmps35
    go_wp2_with (go_at_call 44; refine (HT.out _).mono ?_; rintro e w' ⟨rfl, rfl⟩)
    go_returns
    exact ⟨_, rfl, two_lit _ _ x.a x.b _ (by simp) ha hb, below_alloc _ (below_alloc _ (Below.refl _ _)), Or.inr (lit_arg _ _ _ 2 (by simp) rfl (by decide))⟩
  rw [decide_eq_false k3] at HT
  by_cases k4 : x.op = 27
  · rw [if_pos (Or.inr k4)]
    rw [k4] at HT
    clear k1 k2 k3 o1 o2 b1 b2
    go_enter Tryd.func35, Tryd.ntmps35
    go_wp2_with (go_at_call 44; refine (HT.out _).mono ?_; rintro e w' ⟨rfl, rfl⟩)
    go_returns
    exact ⟨_, rfl, two_lit _ _ x.a x.b _ (by simp) ha hb, below_alloc _ (below_alloc _ (Below.refl _ _)), Or.inr (lit_arg _ _ _ 2 (by simp) rfl (by decide))⟩
  rw [if_neg (by intro h; rcases h with h | h; exact k3 h; exact k4 h)]
  have b4 : (x.op == 27) = false := by simpa using k4
  have hf : ∀ w', w' = (w.alloc (.cells #[.int .i64 x.op, .int .i64 x.dst, .int .i64 x.a.reg, .int .i64 x.a.num, .int .i64 x.b.reg, .int .i64 x.b.num, .int .i64 x.size, .bool x.signed, .bool x.secret, .int .i64 x.ref, .int .i64 x.off, va] 45)) → Below w.heap.size w w' := by
    rintro w' rfl; exact below_alloc _ (Below.refl _ _)
  clear hf
  by_cases k5 : x.op = 23
  · rw [if_pos (Or.inl k5)]
    rw [k5] at HT
    clear k1 k2 k3 k4 o1 o2 b1 b2 b4
    go_enter Tryd.func35, Tryd.ntmps35
    go_wp2_with (go_at_call 44; refine (HT.out _).mono ?_; rintro e w' ⟨rfl, rfl⟩)
    go_returns
    exact ⟨_, rfl, nil_lit _ _ _, below_alloc _ (Below.refl _ _), Or.inr ⟨0, 0, [], World.ownsRow_nil _ _ _ _⟩⟩
  have b5 : (x.op == 23) = false := by simpa using k5
  by_cases k6 : x.op = 24
  · rw [if_pos (Or.inr (Or.inl k6))]
    rw [k6] at HT
    clear k1 k2 k3 k4 k5 o1 o2 b1 b2 b4 b5
    go_enter Tryd.func35, Tryd.ntmps35
    go_wp2_with (go_at_call 44; refine (HT.out _).mono ?_; rintro e w' ⟨rfl, rfl⟩)
    go_returns
    exact ⟨_, rfl, nil_lit _ _ _, below_alloc _ (Below.refl _ _), Or.inr ⟨0, 0, [], World.ownsRow_nil _ _ _ _⟩⟩
  have b6 : (x.op == 24) = false := by simpa using k6
  by_cases k7 : x.op = 25
  · rw [if_pos (Or.inr (Or.inr k7))]
    rw [k7] at HT
    clear k1 k2 k3 k4 k5 k6 o1 o2 b1 b2 b4 b5 b6
    go_enter Tryd.func35, Tryd.ntmps35
    go_wp2_with (go_at_call 44; refine (HT.out _).mono ?_; rintro e w' ⟨rfl, rfl⟩)
    go_returns
    exact ⟨_, rfl, nil_lit _ _ _, below_alloc _ (Below.refl _ _), Or.inr ⟨0, 0, [], World.ownsRow_nil _ _ _ _⟩⟩
  rw [if_neg (by intro h; rcases h with h | h | h; exact k5 h; exact k6 h; exact k7 h)]
  have b7 : (x.op == 25) = false := by simpa using k7
  clear k1 k2 k3 k4 k5 k6 k7 o1 o2
  go_enter Tryd.func35, Tryd.ntmps35
  go_wp2_with (go_at_call 44; refine (HT.out _).mono ?_; rintro e w' ⟨rfl, rfl⟩)
  go_returns
  exact ⟨_, rfl, one_lit _ _ x.a _ (by simp) ha, below_alloc _ (below_alloc _ (Below.refl _ _)), Or.inr (lit_arg _ _ _ 1 (by simp) rfl (by decide))⟩
end Go.Proofs.YtdaildpfkchbhaaDoor
