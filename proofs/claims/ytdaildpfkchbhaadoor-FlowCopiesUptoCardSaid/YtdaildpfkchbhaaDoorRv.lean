/- Walks: Reads, Next. No condition. -/
import Derived.Test.YtdaildpfkchbhaaDoorRu
namespace Go.Proofs.YtdaildpfkchbhaaDoor
open Go.RowKit
set_option linter.unusedVariables false
set_option maxHeartbeats 1000000
theorem wpList_append_run' {P : Program} (w : World) {ops : Array Oper} {rest : List Oper} {o : Oper} {a : Act} {Q : Exit → Act → World → Prop} (hgd : o.guard = none) (s x : Operand) (t : TypeId)
    (ho : o.op = .call { callee := .builtin .append, args := #[s, x], argTypes := #[t, t] }) (v u v' : Value) (w' : World) (hs : a.eval s = v) (hx : a.eval x = u)
    (hr : (Builtin.append_ #[t, t] o.type #[v, u]).run P w = .ok v' w') (h : wpList P ops Q rest (a.put o.dst v') w') : wpList P ops Q (o :: rest) a w :=
  wpList_plain hgd fun _ hK => by
    unfold Oper.wp execOp
    simp only [ho, resolve, invoke, builtin, Sem.run_bind, Sem.run_pure, Result.andThen_ok, List.map_toArray, List.map_cons, List.map_nil, hs, hx, hr]
    exact hK _ _ h
theorem own_slI {w : World} {base n : Nat} {e : TypeId} {v : Value} {l : List Int} (h : w.ownsRow base e 1 v n (l.map (Value.int .i64))) (hn : n = l.length) (hin : ∀ x ∈ l, In64 x) : SlR w 1 IntR v l := by
  subst hn
  rcases h.2 with ⟨rfl, h0⟩ | ⟨g, cap, cur, rfl, _, h2, h3, h4, h5, h6⟩
  · exact ⟨none, 0, by rw [h0], by omega, by decide, fun i x hi => by
      have := (List.getElem?_eq_some_iff.1 hi).1
      omega⟩
  · refine ⟨some ⟨g, 0, none⟩, cap, rfl, h3, h4, fun i x hi => ?_⟩
    have hlt := (List.getElem?_eq_some_iff.1 hi).1
    refine ⟨g, 0, [.int .i64 x], rfl, rfl, fun j hj => ?_, rfl, hin x (List.mem_of_getElem? hi)⟩
    obtain rfl : j = 0 := by omega
    rw [Nat.add_zero, Nat.zero_add, Nat.mul_one, h.cellAt _ (by omega), List.getElem?_map, hi]; rfl
theorem lit_i (w : World) (g : Nat) (cs : Array Value) (l : List Int) (T : TypeId) (hg : g = w.heap.size) (hc : cs.toList = l.map (Value.int .i64)) (hl : l.length ≤ maxLen) (hin : ∀ x ∈ l, In64 x) :
    SlR (w.alloc (.cells cs T)) 1 IntR (.slice (some ⟨g, 0, none⟩) l.length l.length) l := by
  subst hg
  have hs : cs.size = l.length * 1 := by rw [← Array.length_toList, hc]; simp
  refine own_slI (base := w.heap.size) (n := l.length) (e := T) ?_ rfl hin
  rw [← hc]
  exact World.ownsRow_lit (size := 1) w cs l.length (Nat.le_refl _) hl hs
/-- a slice of ints comes back -/
def Ints (w : World) (l : List Int) (e : Ending) (w' : World) : Prop := ∃ v, e = .returned v ∧ SlR w' 1 IntR v l ∧ Below w.heap.size w w'
theorem next_any (w : World) (t : TermD) (h1 : In64 t.to_) (h2 : In64 t.els) : Calls Tryd.prog 23 #[termV t] w (Ints w (nextT t)) := by
  unfold nextT
  by_cases k1 : t.kind = 1
  · rw [if_pos k1]
    go_enter Tryd.func23, Tryd.ntmps23
    go_wp2
    go_returns
    exact ⟨_, rfl, lit_i _ _ _ [t.to_] _ (by simp) rfl (by simp [maxLen]) (fun x hx => by simp at hx; subst hx; exact h1), below_alloc _ (below_alloc _ (Below.refl _ _))⟩
  · rw [if_neg k1]
    have b1 : (t.kind == 1) = false := by simpa using k1
    by_cases k2 : t.kind = 2
    · rw [if_pos k2]
      clear b1 k1
      go_enter Tryd.func23, Tryd.ntmps23
      go_wp2
      go_returns
      exact ⟨_, rfl, lit_i _ _ _ [t.to_, t.els] _ (by simp) rfl (by simp [maxLen]) (fun x hx => by
        rcases List.mem_cons.1 hx with rfl | hx
        · exact h1
        · simp at hx; subst hx; exact h2), below_alloc _ (below_alloc _ (Below.refl _ _))⟩
    · rw [if_neg k2]
      have b2 : (t.kind == 2) = false := by simpa using k2
      clear k1 k2
      go_enter Tryd.func23, Tryd.ntmps23
      go_wp2
      go_returns
      exact ⟨_, rfl, nil_lit _ _ _, below_alloc _ (Below.refl _ _)⟩
theorem treads_any (w : World) (t : TermD) (ha : In64 t.a.reg ∧ In64 t.a.num) (hb : In64 t.b.reg ∧ In64 t.b.num) : Calls Tryd.prog 27 #[termV t] w (Args w (readsT t)) := by
  unfold readsT
  by_cases k1 : t.kind = 2
  · rw [if_pos k1]
    go_enter Tryd.func27, Tryd.ntmps27
    go_wp2
    go_returns
    exact ⟨_, rfl, two_lit _ _ t.a t.b _ (by simp) ha hb, below_alloc _ (below_alloc _ (Below.refl _ _))⟩
  · rw [if_neg k1]
    have b1 : (t.kind == 2) = false := by simpa using k1
    by_cases k2 : t.kind = 3
    · rw [if_pos k2]
      clear b1 k1
      go_enter Tryd.func27, Tryd.ntmps27
      go_wp2
      go_returns
      exact ⟨_, rfl, one_lit _ _ t.a _ (by simp) ha, below_alloc _ (below_alloc _ (Below.refl _ _))⟩
    · rw [if_neg k2]
      have b2 : (t.kind == 3) = false := by simpa using k2
      clear k1 k2
      go_enter Tryd.func27, Tryd.ntmps27
      go_wp2
      go_returns
      exact ⟨_, rfl, nil_lit _ _ _, below_alloc _ (Below.refl _ _)⟩
theorem ireads_any (w : World) (x : InsD) (va : Value) (hop : In64 x.op) (ha : In64 x.a.reg ∧ In64 x.a.num) (hb : In64 x.b.reg ∧ In64 x.b.num) (hs : SlR w 2 ArgR va x.args) (hl : x.args.length ≤ 1000000) :
    Calls Tryd.prog 35 #[insV x va] w (Args w (readsD x)) := by
  unfold readsD
  have HS := Lib.hid hs
  obtain ⟨o1, o2⟩ := hop
  by_cases k1 : x.op = 28
  · rw [if_pos k1]
    clear hs o1 o2
    go_enter Tryd.func35, Tryd.ntmps35
    go_wp2
    go_returns
    exact ⟨_, rfl, HS.out.later (by decide) (below_alloc _ (Below.refl _ _)), below_alloc _ (Below.refl _ _)⟩
  rw [if_neg k1]
  have b1 : (x.op == 28) = false := by simpa using k1
  by_cases k2 : x.op = 29
  · rw [if_pos k2]
    clear b1 k1 o1 o2
    obtain ⟨v', w', hr, g1, g2⟩ := append_args ((w.alloc (.cells #[.int .i64 x.op, .int .i64 x.dst, .int .i64 x.a.reg, .int .i64 x.a.num, .int .i64 x.b.reg, .int .i64 x.b.num, .int .i64 x.size, .bool x.signed, .bool x.secret, .int .i64 x.ref, .int .i64 x.off, va] 45)).alloc (.cells #[.int .i64 x.a.reg, .int .i64 x.a.num] 37))
      x.a ha (w.heap.size + 1) (by have := blk_new (w.alloc (.cells #[.int .i64 x.op, .int .i64 x.dst, .int .i64 x.a.reg, .int .i64 x.a.num, .int .i64 x.b.reg, .int .i64 x.b.num, .int .i64 x.size, .bool x.signed, .bool x.secret, .int .i64 x.ref, .int .i64 x.off, va] 45)) (.cells #[.int .i64 x.a.reg, .int .i64 x.a.num] 37); simpa using this)
      va x.args (hs.later (by decide) (below_alloc _ (below_alloc _ (Below.refl _ _)))) hl
    rw [k2] at hr
    have HG := Lib.hid g1
    have HB := Lib.hid (show Below w.heap.size w w' from ⟨g2.os, g2.tape, g2.output, by have := g2.size; simp at this; omega, fun k hk => (g2.block k (by simp; omega) (by intro e; have := Option.some.inj e; omega)).trans ((below_alloc _ (below_alloc _ (Below.refl _ _))).block k hk)⟩)
    clear g1 g2 hs
    go_enter Tryd.func35, Tryd.ntmps35
    go_wp2_with (at_builtin; refine wpList_append_run' _ rfl _ _ _ rfl _ _ _ _ rfl rfl hr ?_)
    go_returns
    exact ⟨_, rfl, HG.out, HB.out⟩
  rw [if_neg k2]
  have b2 : (x.op == 29) = false := by simpa using k2
  have HT := Lib.hid (fun w => two_any w x.op ⟨o1, o2⟩)
  clear hs
  by_cases k3 : 3 ≤ x.op ∧ x.op ≤ 21
  · rw [if_pos (Or.inl k3)]
    rw [decide_eq_true k3] at HT
    clear k1 k2 k3 o1 o2
    go_enter Tryd.func35, Tryd.ntmps35
    go_wp2_with (go_at_call 44; refine (HT.out _).mono ?_; rintro e w' ⟨rfl, rfl⟩)
    go_returns
    exact ⟨_, rfl, two_lit _ _ x.a x.b _ (by simp) ha hb, below_alloc _ (below_alloc _ (Below.refl _ _))⟩
  rw [decide_eq_false k3] at HT
  by_cases k4 : x.op = 27
  · rw [if_pos (Or.inr k4)]
    rw [k4] at HT
    clear k1 k2 k3 o1 o2 b1 b2
    go_enter Tryd.func35, Tryd.ntmps35
    go_wp2_with (go_at_call 44; refine (HT.out _).mono ?_; rintro e w' ⟨rfl, rfl⟩)
    go_returns
    exact ⟨_, rfl, two_lit _ _ x.a x.b _ (by simp) ha hb, below_alloc _ (below_alloc _ (Below.refl _ _))⟩
  rw [if_neg (by intro h; rcases h with h | h; exact k3 h; exact k4 h)]
  have b4 : (x.op == 27) = false := by simpa using k4
  have hf : ∀ w', w' = (w.alloc (.cells #[.int .i64 x.op, .int .i64 x.dst, .int .i64 x.a.reg, .int .i64 x.a.num, .int .i64 x.b.reg, .int .i64 x.b.num, .int .i64 x.size, .bool x.signed, .bool x.secret, .int .i64 x.ref, .int .i64 x.off, va] 45)) → Below w.heap.size w w' := by
    rintro w' rfl; exact below_alloc _ (Below.refl _ _)
  clear hf
  by_cases k5 : x.op = 23
  · rw [if_pos (Or.inl k5)]
    rw [k5] at HT
    clear k1 k2 k3 k4 o1 o2 b1 b2 b4
    go_enter Tryd.func35, Tryd.ntmps35
    go_wp2_with (go_at_call 44; refine (HT.out _).mono ?_; rintro e w' ⟨rfl, rfl⟩)
    go_returns
    exact ⟨_, rfl, nil_lit _ _ _, below_alloc _ (Below.refl _ _)⟩
  have b5 : (x.op == 23) = false := by simpa using k5
  by_cases k6 : x.op = 24
  · rw [if_pos (Or.inr (Or.inl k6))]
    rw [k6] at HT
    clear k1 k2 k3 k4 k5 o1 o2 b1 b2 b4 b5
    go_enter Tryd.func35, Tryd.ntmps35
    go_wp2_with (go_at_call 44; refine (HT.out _).mono ?_; rintro e w' ⟨rfl, rfl⟩)
    go_returns
    exact ⟨_, rfl, nil_lit _ _ _, below_alloc _ (Below.refl _ _)⟩
  have b6 : (x.op == 24) = false := by simpa using k6
  by_cases k7 : x.op = 25
  · rw [if_pos (Or.inr (Or.inr k7))]
    rw [k7] at HT
    clear k1 k2 k3 k4 k5 k6 o1 o2 b1 b2 b4 b5 b6
    go_enter Tryd.func35, Tryd.ntmps35
    go_wp2_with (go_at_call 44; refine (HT.out _).mono ?_; rintro e w' ⟨rfl, rfl⟩)
    go_returns
    exact ⟨_, rfl, nil_lit _ _ _, below_alloc _ (Below.refl _ _)⟩
  rw [if_neg (by intro h; rcases h with h | h | h; exact k5 h; exact k6 h; exact k7 h)]
  have b7 : (x.op == 25) = false := by simpa using k7
  clear k1 k2 k3 k4 k5 k6 k7 o1 o2
  go_enter Tryd.func35, Tryd.ntmps35
  go_wp2_with (go_at_call 44; refine (HT.out _).mono ?_; rintro e w' ⟨rfl, rfl⟩)
  go_returns
  exact ⟨_, rfl, one_lit _ _ x.a _ (by simp) ha, below_alloc _ (below_alloc _ (Below.refl _ _))⟩
end Go.Proofs.YtdaildpfkchbhaaDoor
