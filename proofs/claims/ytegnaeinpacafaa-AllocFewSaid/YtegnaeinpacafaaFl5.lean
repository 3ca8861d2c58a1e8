/- Walks: registers that are read become live; an instruction taken back. No condition. -/
import Derived.Test.YtegnaeinpacafaaFlA
import Derived.Test.YtegnaeinpacafaaFlQ
import Derived.Test.YtegnaeinpacafaaRk
namespace Go.Proofs.Ytegnaeinpacafaa
open Go.RowKit
set_option linter.unusedVariables false
set_option maxHeartbeats 1000000
theorem useL_take (l : List Nat) (al : List ArgD) (k : Nat) (a : ArgD) (h : al[k]? = some a) : useL l (al.take (k + 1)) = putL (useL l (al.take k)) a.reg := by
  unfold useL
  rw [List.take_add_one, h]
  simp
theorem SlR.grown {α : Type} {w w' : World} {C : Nat} {R : List Value → α → Prop} {v : Value} {xs : List α} {r : Option Nat} (h : SlR w C R v xs) (hg : w.grownBy w' r) (hd : xs = [] ∨ v.ownBlock ≠ r) : SlR w' C R v xs := by
  obtain ⟨A, cap, rfl, h2, h3, h4⟩ := h
  refine ⟨A, cap, rfl, h2, h3, fun i x hi => ?_⟩
  obtain ⟨b, o, cs, rfl, g2, g3, g4⟩ := h4 i x hi
  refine ⟨b, o, cs, rfl, g2, fun j hj => ?_, g4⟩
  have hj2 : j < cs.length := by omega
  have e := g3 j hj
  rw [List.getElem?_eq_getElem hj2] at e ⊢
  refine hg.cell e ?_
  rcases hd with rfl | hd
  · simp at hi
  · exact hd
theorem SlR.nil_of {α : Type} {w : World} {C : Nat} {R : List Value → α → Prop} {v : Value} {xs : List α} (h : SlR w C R v xs) (hn : v.ownBlock = none) : xs = [] := by
  obtain ⟨A, cap, rfl, h2, h3, h4⟩ := h
  cases xs with
  | nil => rfl
  | cons x xs =>
    obtain ⟨b, o, cs, rfl, _⟩ := h4 0 x rfl
    cases hn
theorem SlR.len_eq {α β : Type} {w w' : World} {C C' : Nat} {R : List Value → α → Prop} {R' : List Value → β → Prop} {v : Value} {xs : List α} {ys : List β} (h : SlR w C R v xs) (k : SlR w' C' R' v ys) : xs.length = ys.length := by
  obtain ⟨A, cap, rfl, _⟩ := h
  obtain ⟨A', cap', e, _⟩ := k
  simp only [Value.slice.injEq] at e
  exact e.2.1
set_option maxRecDepth 100000 in
theorem use_any (w : World) (base : Nat) (sv va : Value) (l : List Nat) (al : List ArgD) (hs : SetR w base sv l) (ha : SlR w 2 ArgR va al) (hd : al = [] ∨ va.ownBlock ≠ sv.ownBlock) :
    Calls Try.prog 29 #[sv, va] w (SetTo w base sv (useL l al)) := by
  obtain ⟨A, cap, rfl, hl1, hl2, hl3⟩ := ha
  unfold maxLen at hl2
  have HL := Lib.hid hl3
  have HS := Lib.hid hs
  have HD := Lib.hid hd
  have hlen : al.length ≤ 9223372036854775807 := by omega
  obtain ⟨n, hn⟩ : ∃ n, n = al.length := ⟨_, rfl⟩
  rw [← hn] at hlen HD ⊢
  have HN := Lib.hid hn
  clear hl1 hl2 hl3 hn hs hd
  go_enter Try.func29, Try.ntmps29
  go_wp2_with fail
  go_loopw [8] (fun i wr => ∃ k : Nat, k ≤ n ∧ i = .int .i64 k ∧ SetR wr base sv (useL l (al.take k)) ∧ w.grownBy wr sv.ownBlock) (fun i _ => n - (intOf i).toNat)
  case atStart => exact ⟨0, by omega, rfl, HS.out, grownBy_refl _ _⟩
  case round =>
    obtain ⟨k, hk, rfl, hsr, hg⟩ := hrel
    have HSr := Lib.hid hsr
    have HG := Lib.hid hg
    clear hsr hg
    by_cases hlt : k < n
    · have hlk : k < al.length := by rw [← HN.out]; exact hlt
      obtain ⟨a, ha⟩ : ∃ a, al[k]? = some a := ⟨_, List.getElem?_eq_getElem hlk⟩
      obtain ⟨lb, lo, cs, rfl, e1, e2, e3, e4, e5⟩ := HL.out k a ha
      subst e3
      have hne : some lb ≠ sv.ownBlock := by
        rcases HD.out with h | h
        · rw [h] at hlk; simp at hlk
        · exact h
      have q0 := HG.out.cell (e2 0 (by omega)) hne
      have q1 := HG.out.cell (e2 1 (by omega)) hne
      rw [Nat.add_zero] at q0
      have HT := Lib.hid (useL_take l al k a ha)
      obtain ⟨r1, r2⟩ := e4
      have hb0 := World.block_lt_of_cell? _ _ q0
      clear e1 e2 e5 hlk ha hne
      go_wp2_with fail
      have hal : Below wr.heap.size wr (wr.alloc (.cells #[.int .i64 a.reg, .int .i64 a.num] 24)) := below_alloc _ (Below.refl _ _)
      have HS2 := Lib.hid (own_kept (r := none) HSr.out (grown_of_below hal) (by cases sv.ownBlock <;> simp))
      have HG2 := Lib.hid (grown_trans HG.out (grown_of_below (r := sv.ownBlock) hal))
      clear hal
      refine (put_any _ base sv _ a.reg HS2.out r2).mono ?_
      rintro e w3 ⟨rfl, hs3, hg3⟩
      have HS3 := Lib.hid hs3
      have HG3 := Lib.hid (grown_trans HG2.out hg3)
      clear hs3 hg3 q0 q1
      go_wp2_with fail
      go_roundw
      case rel => exact ⟨k + 1, by omega, by go_num, by rw [HT.out]; exact HS3.out, HG3.out⟩
      case measure => simp [intOf]; omega
    · have e : k = n := by omega
      subst e
      go_wp2_with fail
      go_returns
      refine ⟨rfl, ?_, HG.out⟩
      have := HSr.out
      rw [HN.out, List.take_length] at this
      exact this
/-- va: the arguments, which lie in memory that is not of this set -/
theorem back_any (w : World) (base : Nat) (sv va : Value) (l : List Nat) (x : InsD) (hs : SetR w base sv l) (h0 : In64 x.op) (h1 : In64 x.dst) (h2 : In64 x.a.reg ∧ In64 x.a.num) (h3 : In64 x.b.reg ∧ In64 x.b.num) (ha : SlR w 2 ArgR va x.args)
    (hsl : x.args.length ≤ 1000000) (hd : x.args = [] ∨ va.ownBlock ≠ sv.ownBlock) :
    Calls Try.prog 20 #[sv, insV x va] w (SetTo w base sv (backL l x)) := by
  obtain ⟨A, cap, rfl, _⟩ := id ha
  have HA := Lib.hid ha
  have HD := Lib.hid hd
  have H0 := Lib.hid h0
  have H1 := Lib.hid h1
  have H2 := Lib.hid h2
  have H3 := Lib.hid h3
  have HSl := Lib.hid hsl
  have hal := below_alloc (.cells #[.int .i64 x.op, .int .i64 x.dst, .int .i64 x.a.reg, .int .i64 x.a.num, .int .i64 x.b.reg, .int .i64 x.b.num, .int .i64 x.size, .bool x.signed, .bool x.secret, .int .i64 x.ref, .int .i64 x.off, .slice A x.args.length cap] 28) (Below.refl w.heap.size w)
  have HAL := Lib.hid hal
  have HS1 := Lib.hid (own_kept (r := none) hs (grown_of_below hal) (by cases sv.ownBlock <;> simp))
  have HBK := Lib.hid (blk_new w (.cells #[.int .i64 x.op, .int .i64 x.dst, .int .i64 x.a.reg, .int .i64 x.a.num, .int .i64 x.b.reg, .int .i64 x.b.num, .int .i64 x.size, .bool x.signed, .bool x.secret, .int .i64 x.ref, .int .i64 x.off, .slice A x.args.length cap] 28))
  clear hs h0 h1 h2 h3 ha hsl hd hal
  go_enter Try.func20, Try.ntmps20
  go_wp2_with fail
  refine (out_any _ base sv l x.dst HS1.out H1.out.2).mono ?_
  rintro e w2 ⟨rfl, hs2, hg2⟩
  have HS2 := Lib.hid hs2
  have HG2 := Lib.hid (grown_trans (grown_of_below (r := sv.ownBlock) HAL.out) hg2)
  have HB2 := Lib.hid (blk_kept HBK.out hg2 (own_blk HS1.out.1 HBK.out (by decide)))
  obtain ⟨ob, hob⟩ : ∃ ob, ob = w.heap.size := ⟨_, rfl⟩
  rw [← hob] at HB2 ⊢
  have c0 : w2.cell? ⟨ob, 0, none⟩ = some (.int .i64 x.op) := blk_cell HB2.out rfl
  have c1 : w2.cell? ⟨ob, 1, none⟩ = some (.int .i64 x.dst) := blk_cell HB2.out rfl
  have c2 : w2.cell? ⟨ob, 2, none⟩ = some (.int .i64 x.a.reg) := blk_cell HB2.out rfl
  have c3 : w2.cell? ⟨ob, 3, none⟩ = some (.int .i64 x.a.num) := blk_cell HB2.out rfl
  have c4 : w2.cell? ⟨ob, 4, none⟩ = some (.int .i64 x.b.reg) := blk_cell HB2.out rfl
  have c5 : w2.cell? ⟨ob, 5, none⟩ = some (.int .i64 x.b.num) := blk_cell HB2.out rfl
  have c6 : w2.cell? ⟨ob, 6, none⟩ = some (.int .i64 x.size) := blk_cell HB2.out rfl
  have c7 : w2.cell? ⟨ob, 7, none⟩ = some (.bool x.signed) := blk_cell HB2.out rfl
  have c8 : w2.cell? ⟨ob, 8, none⟩ = some (.bool x.secret) := blk_cell HB2.out rfl
  have c9 : w2.cell? ⟨ob, 9, none⟩ = some (.int .i64 x.ref) := blk_cell HB2.out rfl
  have c10 : w2.cell? ⟨ob, 10, none⟩ = some (.int .i64 x.off) := blk_cell HB2.out rfl
  have c11 : w2.cell? ⟨ob, 11, none⟩ = some (.slice A x.args.length cap) := blk_cell HB2.out rfl
  have HA2 := Lib.hid ((HA.out.later (by decide) HAL.out).grown hg2 HD.out)
  clear hs2 hg2 hob
  go_wp2_with fail
  refine (ireads_new _ x _ H0.out H2.out H3.out HA2.out HSl.out).mono ?_
  rintro e w3 ⟨v, rfl, hv, hb3, how⟩
  have HS3 := Lib.hid (own_kept (r := none) HS2.out (grown_of_below hb3) (by cases sv.ownBlock <;> simp))
  have HG3 := Lib.hid (grown_trans HG2.out (grown_of_below (r := sv.ownBlock) hb3))
  have HV := Lib.hid hv
  have HDv := Lib.hid (show readsD x = [] ∨ v.ownBlock ≠ sv.ownBlock by
    rcases how with rfl | ⟨B, n, xs, ho⟩
    · rcases HD.out with h | h
      · left
        have := hv.len_eq HA2.out
        rw [h] at this
        exact List.length_eq_zero_iff.1 (by simpa using this)
      · exact Or.inr h
    · rcases own_ne ho HS3.out.1 (by decide) with h | h
      · exact Or.inl (hv.nil_of h)
      · exact Or.inr h)
  clear c0 c1 c2 c3 c4 c5 c6 c7 c8 c9 c10 c11 hv hb3 how
  go_wp2_with fail
  refine (use_any _ base sv v _ _ HS3.out HV.out HDv.out).mono ?_
  rintro e w4 ⟨rfl, hs4, hg4⟩
  have HS4 := Lib.hid hs4
  have HG4 := Lib.hid (grown_trans HG3.out hg4)
  clear hs4 hg4
  go_wp2_with fail
  go_returns
  exact ⟨rfl, HS4.out, HG4.out⟩
end Go.Proofs.Ytegnaeinpacafaa
