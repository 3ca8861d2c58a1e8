/- The walk of the reference's ins: may an instruction be? No condition. -/
import Derived.Test.YticgaknkonolnaaRw
import Derived.Test.YticgaknkonolnaaR8a
namespace Go.Proofs.Yticgaknkonolnaa
open Go.RowKit
set_option linter.unusedVariables false
set_option maxHeartbeats 2000000
/-- what is known of the program -/
structure PPr (w : World) (pb nf ng : Nat) (par : Int → Int) : Prop where
  pglobs : ∃ A c, w.cell? ⟨pb, 1, none⟩ = some (.slice A ng c) ∧ ng ≤ 9223372036854775807
  pfuncs : ∃ A c, w.cell? ⟨pb, 0, none⟩ = some (.slice A nf c) ∧ nf ≤ 9223372036854775807 ∧ ∀ i : Nat, i < nf → ∃ b o, A = some ⟨b, o, none⟩ ∧ w.cell? ⟨b, o + i * 6 + 1, none⟩ = some (.int .i64 (par i))
theorem PPr.later {w w' : World} {pb nf ng : Nat} {par : Int → Int} (h : PPr w pb nf ng par) (hb : Below w.heap.size w w') : PPr w' pb nf ng par := by
  obtain ⟨⟨A2, c2, h4, h5⟩, ⟨A3, c3, h6, h7, h8⟩⟩ := h
  refine ⟨⟨A2, c2, Go.Proofs.Yticgaknkonolnaa.later h4 hb, h5⟩, ⟨A3, c3, Go.Proofs.Yticgaknkonolnaa.later h6 hb, h7, fun i hi => ?_⟩⟩
  obtain ⟨b, o, e1, e2⟩ := h8 i hi
  exact ⟨b, o, e1, Go.Proofs.Yticgaknkonolnaa.later e2 hb⟩
abbrev insL (op dst : Int) (a b : ArgD) (size : Int) (signed secret : Bool) (ref off : Int) (va : Value) : Array Value := #[.int .i64 op, .int .i64 dst, .int .i64 a.reg, .int .i64 a.num, .int .i64 b.reg, .int .i64 b.num, .int .i64 size, .bool signed, .bool secret, .int .i64 ref, .int .i64 off, va]
theorem ne_of_beq_false {a b : Int} (h : (a == b) = false) : a ≠ b := by simpa using h
set_option maxRecDepth 100000 in
theorem refins_no (w : World) (g0 : Nat) (hg0 : g0 = w.heap.size) (pb nf ng : Nat) (par : Int → Int) (nm : ByteArray) (pa regs : Int) (A1 A2 A3 : Option Addr) (n1 ns n3 k1 k2 k3 : Nat) (op dst : Int) (a b : ArgD) (size : Int) (signed secret : Bool) (ref off : Int) (args : List ArgD) (va : Value)
    (hop : In64 op) (hdst : In64 dst) (hr : In64 regs) (hn : op < 1 ∨ 30 < op ∨ dst < -1 ∨ regs ≤ dst) :
    Calls Try.prog 39 #[.pointer (some ⟨pb, 0, none⟩), .agg #[.string nm, .int .i64 pa, .slice A1 n1 k1, .int .i64 regs, .slice A2 ns k2, .slice A3 n3 k3], .agg #[.int .i64 op, .int .i64 dst, .int .i64 a.reg, .int .i64 a.num, .int .i64 b.reg, .int .i64 b.num, .int .i64 size, .bool signed, .bool secret, .int .i64 ref, .int .i64 off, va]] w fun e w' => RIs (RI nf ng ns par regs op dst a b size signed secret ref off args) e ∧ Below g0 w w' := by
  have HNo := Lib.hid (show ¬ RI nf ng ns par regs op dst a b size signed secret ref off args by unfold RI; omega)
  have hd : decide (op < 1) = true ∨ (decide (op < 1) = false ∧ decide (30 < op) = true) ∨ (decide (op < 1) = false ∧ decide (30 < op) = false ∧ decide (dst < -1) = true) ∨ (decide (op < 1) = false ∧ decide (30 < op) = false ∧ decide (dst < -1) = false ∧ decide (regs ≤ dst) = true) := by
    by_cases h1 : op < 1
    · exact Or.inl (decide_eq_true h1)
    by_cases h2 : 30 < op
    · exact Or.inr (Or.inl ⟨decide_eq_false h1, decide_eq_true h2⟩)
    by_cases h3 : dst < -1
    · exact Or.inr (Or.inr (Or.inl ⟨decide_eq_false h1, decide_eq_false h2, decide_eq_true h3⟩))
    · exact Or.inr (Or.inr (Or.inr ⟨decide_eq_false h1, decide_eq_false h2, decide_eq_false h3, decide_eq_true (by omega)⟩))
  have HG := Lib.hid hg0
  clear hg0 hn
  rcases hd with d1 | ⟨d1, d2⟩ | ⟨d1, d2, d3⟩ | ⟨d1, d2, d3, d4⟩
  all_goals
    go_enter Try.func39, Try.ntmps39
    go_wp2_with fail
    go_quiet (fail)
    go_wp2_with fail
    go_returns
    exact ⟨ris_of (by simp [HNo.out]), by rw [HG.out]; exact below_drewN (below_alloc _ (below_alloc _ (Below.refl _ _))) _⟩
set_option maxRecDepth 100000 in
theorem refins_yes (w : World) (g0 : Nat) (hg0 : g0 = w.heap.size) (pb nf ng : Nat) (par : Int → Int) (nm : ByteArray) (pa regs : Int) (A1 A2 A3 : Option Addr) (n1 ns n3 k1 k2 k3 : Nat) (op dst : Int) (a b : ArgD) (size : Int) (signed secret : Bool) (ref off : Int) (args : List ArgD) (va : Value)
    (hpp : PPr w pb nf ng par) (hop : In64 op) (hdst : In64 dst) (ha : In64 a.reg ∧ In64 a.num) (hb : In64 b.reg ∧ In64 b.num) (hsz : In64 size) (href : In64 ref) (hs : SlR w 2 ArgR va args) (hl : args.length ≤ 1000000) (hr : In64 regs) (hns : ns ≤ 9223372036854775807) (g1 : 1 ≤ op) (g2 : op ≤ 30) (g3 : -1 ≤ dst) (g4 : dst < regs) :
    Calls Try.prog 39 #[.pointer (some ⟨pb, 0, none⟩), .agg #[.string nm, .int .i64 pa, .slice A1 n1 k1, .int .i64 regs, .slice A2 ns k2, .slice A3 n3 k3], .agg #[.int .i64 op, .int .i64 dst, .int .i64 a.reg, .int .i64 a.num, .int .i64 b.reg, .int .i64 b.num, .int .i64 size, .bool signed, .bool secret, .int .i64 ref, .int .i64 off, va]] w fun e w' => RIs (RI nf ng ns par regs op dst a b size signed secret ref off args) e ∧ Below g0 w w' := by
  have HI := Lib.hid (fun w' (h : Below w.heap.size w w') => reads8_any w' ⟨op, dst, a, b, size, signed, secret, ref, off, args⟩ va ⟨g1, g2⟩ ha hb (hs.later (by decide) h) hl)
  have HA := Lib.hid (fun w' v hv => regs8_any w' nm pa regs A1 A2 A3 n1 ns n3 k1 k2 k3 hr v (readsD ⟨op, dst, a, b, size, signed, secret, ref, off, args⟩) hv)
  have d1 : decide (op < 1) = false := decide_eq_false (by omega)
  have d2 : decide (30 < op) = false := decide_eq_false (by omega)
  have d3 : decide (dst < -1) = false := decide_eq_false (by omega)
  have d4 : decide (regs ≤ dst) = false := decide_eq_false (by omega)
  have HG := Lib.hid hg0
  have HS := Lib.hid hs
  obtain ⟨Aa, ca, rfl, _, _, _⟩ := id hs
  obtain ⟨ar, har⟩ : ∃ z, argsB regs (readsD ⟨op, dst, a, b, size, signed, secret, ref, off, args⟩) = z := ⟨_, rfl⟩
  rw [har] at HA
  have HAR := Lib.hid har
  obtain ⟨rr1, rr2⟩ := href
  clear hs hg0 har
  go_enter Try.func39, Try.ntmps39
  go_wp2_with fail
  obtain ⟨w1, hw1⟩ : ∃ z, z = (w.alloc (.cells #[.string nm, .int .i64 pa, .slice A1 n1 k1, .int .i64 regs, .slice A2 ns k2, .slice A3 n3 k3] 95)).alloc (.cells #[.int .i64 op, .int .i64 dst, .int .i64 a.reg, .int .i64 a.num, .int .i64 b.reg, .int .i64 b.num, .int .i64 size, .bool signed, .bool secret, .int .i64 ref, .int .i64 off, .slice Aa args.length ca] 61) := ⟨_, rfl⟩
  have hfb : w1.heap[w.heap.size]? = some (.cells #[.string nm, .int .i64 pa, .slice A1 n1 k1, .int .i64 regs, .slice A2 ns k2, .slice A3 n3 k3] 95 (0, 0)) := by rw [hw1]; exact blk_alloc (blk_new w _) _
  have hib : w1.heap[w.heap.size + 1]? = some (.cells #[.int .i64 op, .int .i64 dst, .int .i64 a.reg, .int .i64 a.num, .int .i64 b.reg, .int .i64 b.num, .int .i64 size, .bool signed, .bool secret, .int .i64 ref, .int .i64 off, .slice Aa args.length ca] 61 (0, 0)) := by rw [hw1]; exact blk_new' (by simp)
  have hbw : Bw w.heap.size w w1 := by rw [hw1]; exact ⟨below_alloc _ (below_alloc _ (Below.refl _ _)), by simp; omega⟩
  rw [← hw1]
  clear hw1
  have f0 := blk_cell (i := 0) hfb rfl
  have f1 := blk_cell (i := 1) hfb rfl
  have f2 := blk_cell (i := 2) hfb rfl
  have f3 := blk_cell (i := 3) hfb rfl
  have f4 := blk_cell (i := 4) hfb rfl
  have f5 := blk_cell (i := 5) hfb rfl
  have c0 := blk_cell (i := 0) hib rfl
  have c1 := blk_cell (i := 1) hib rfl
  have c2 := blk_cell (i := 2) hib rfl
  have c3 := blk_cell (i := 3) hib rfl
  have c4 := blk_cell (i := 4) hib rfl
  have c5 := blk_cell (i := 5) hib rfl
  have c6 := blk_cell (i := 6) hib rfl
  have c7 := blk_cell (i := 7) hib rfl
  have c8 := blk_cell (i := 8) hib rfl
  have c9 := blk_cell (i := 9) hib rfl
  have c10 := blk_cell (i := 10) hib rfl
  have c11 := blk_cell (i := 11) hib rfl
  have hpl := Lib.hid (show ∀ w', Bw w.heap.size w w' → PPr w' pb nf ng par from fun w' h => hpp.later h.1)
  have hfin : ∀ w', Bw w.heap.size w w' → Below g0 w w' := fun w' h => by rw [HG.out]; exact h.1
  clear HG hpp hfb hib
  generalize w.heap.size = g at *
  go_region_held3 (fun w' => ((w'.cell? ⟨g, 0, none⟩ = some (.string nm) ∧ w'.cell? ⟨g, 1, none⟩ = some (.int .i64 pa) ∧ w'.cell? ⟨g, 2, none⟩ = some (.slice A1 n1 k1) ∧ w'.cell? ⟨g, 3, none⟩ = some (.int .i64 regs) ∧ w'.cell? ⟨g, 4, none⟩ = some (.slice A2 ns k2) ∧ w'.cell? ⟨g, 5, none⟩ = some (.slice A3 n3 k3)) ∧
      (w'.cell? ⟨g + 1, 0, none⟩ = some (.int .i64 op) ∧ w'.cell? ⟨g + 1, 1, none⟩ = some (.int .i64 dst) ∧ w'.cell? ⟨g + 1, 2, none⟩ = some (.int .i64 a.reg) ∧ w'.cell? ⟨g + 1, 3, none⟩ = some (.int .i64 a.num) ∧ w'.cell? ⟨g + 1, 4, none⟩ = some (.int .i64 b.reg) ∧ w'.cell? ⟨g + 1, 5, none⟩ = some (.int .i64 b.num) ∧ w'.cell? ⟨g + 1, 6, none⟩ = some (.int .i64 size) ∧ w'.cell? ⟨g + 1, 7, none⟩ = some (.bool signed) ∧ w'.cell? ⟨g + 1, 8, none⟩ = some (.bool secret) ∧ w'.cell? ⟨g + 1, 9, none⟩ = some (.int .i64 ref) ∧ w'.cell? ⟨g + 1, 10, none⟩ = some (.int .i64 off) ∧ w'.cell? ⟨g + 1, 11, none⟩ = some (.slice Aa args.length ca))) ∧ Bw g w w')
    ((go_split_ands; refine ⟨⟨⟨?_, ?_, ?_, ?_, ?_, ?_⟩, ?_, ?_, ?_, ?_, ?_, ?_, ?_, ?_, ?_, ?_, ?_, ?_⟩, ?_⟩ <;> (first | assumption | exact later (by assumption) hb3 | exact later (by assumption) hb2 | exact cell_drew' (by assumption) | exact Bw.step (by assumption) hb3 | exact Bw.step (by assumption) hb2 | exact Bw.drew (by assumption))))
    (first | (go_at_call 19; go_split_ands; refine (HI.out _ ?_).mono ?_; exact (by assumption : Bw g w _).1; rintro e w2 ⟨v2, rfl, hs2, hb2⟩) | (go_at_call 40; go_split_ands; refine (HA.out _ _ hs2).mono ?_; rintro e w3 ⟨rfl, hb3⟩))
  go_split_ands
  have hb3w : Bw g w w3 := by assumption
  obtain ⟨⟨A4, c4', pg1, pg2⟩, ⟨A5, c5', pf1, pf2, pf3⟩⟩ := hpl.out _ hb3w
  have lpb := World.block_lt_of_cell? _ _ pg1
  have HPF := Lib.hid pf3
  clear pf3
  cases ar with
  | false =>
    have HNo := Lib.hid (show ¬ RI nf ng ns par regs op dst a b size signed secret ref off args by unfold RI; rw [HAR.out]; simp)
    go_wp2_with fail
    go_returns
    exact ⟨ris_of (by simp [HNo.out]), hfin _ (by first | assumption | exact Bw.drew (by assumption) | exact Bw.drewN (by assumption) _)⟩
  | true =>
    have HAB := HAR
    have HGG := Lib.hid (And.intro g1 (And.intro g2 (And.intro g3 g4)))
    clear HAR g1 g2 g3 g4 d1 d2 d3 d4
    have hc : op ≤ 21 ∨ op = 22 ∨ op = 23 ∨ op = 24 ∨ op = 25 ∨ op = 26 ∨ op = 27 ∨ op = 28 ∨ op = 29 ∨ op = 30 := by have := HGG.out; omega
    rcases hc with h | h | h | h | h | h | h | h | h | h
    · have HK := Lib.hid h
      have e22 : (op == 22) = false := by simp; omega
      have e23 : (op == 23) = false := by simp; omega
      have e24 : (op == 24) = false := by simp; omega
      have e25 : (op == 25) = false := by simp; omega
      have e26 : (op == 26) = false := by simp; omega
      have e27 : (op == 27) = false := by simp; omega
      have e28 : (op == 28) = false := by simp; omega
      have e29 : (op == 29) = false := by simp; omega
      have e30 : (op == 30) = false := by simp; omega
      clear h
      by_cases z0 : dst = -1
      · have d5 : (dst == -1) = true := by simp [z0]
        have HZ := Lib.hid z0
        clear z0
        go_wp2_with fail
        go_returns
        refine ⟨ris_of ?_, hfin _ (by first | assumption | exact Bw.drew (by assumption) | exact Bw.drewN (by assumption) _)⟩
        have := HGG.out
        have := HK.out
        have := HZ.out
        unfold RI sizedP
        rw [HAB.out]
        first | omega | (simp; done) | (simp; omega)
      · have d5 : (dst == -1) = false := by simpa using z0
        have HZ := Lib.hid z0
        clear z0
        go_wp2_with fail
        go_returns
        refine ⟨ris_of ?_, hfin _ (by first | assumption | exact Bw.drew (by assumption) | exact Bw.drewN (by assumption) _)⟩
        have := HGG.out
        have := HK.out
        have := HZ.out
        unfold RI sizedP
        rw [HAB.out]
        first | omega | (simp; done) | (simp; omega)
    · subst h
      by_cases z0 : dst = -1
      · have d5 : (dst == -1) = true := by simp [z0]
        have HZ := Lib.hid z0
        clear z0
        go_wp2_with fail
        go_returns
        refine ⟨ris_of ?_, hfin _ (by first | assumption | exact Bw.drew (by assumption) | exact Bw.drewN (by assumption) _)⟩
        have := HGG.out
        have := HZ.out
        unfold RI sizedP
        rw [HAB.out]
        first | omega | (simp; done) | (simp; omega)
      · have d5 : (dst == -1) = false := by simpa using z0
        have HZ := Lib.hid z0
        clear z0
        have hs4 : (size == 1) = true ∨ ((size == 1) = false ∧ (size == 2) = true) ∨ ((size == 1) = false ∧ (size == 2) = false ∧ (size == 4) = true) ∨ ((size == 1) = false ∧ (size == 2) = false ∧ (size == 4) = false ∧ (size == 8) = true) ∨ ((size == 1) = false ∧ (size == 2) = false ∧ (size == 4) = false ∧ (size == 8) = false) := by simp only [beq_iff_eq, beq_eq_false_iff_ne, ne_eq]; omega
        have HS4 := Lib.hid hs4
        rcases hs4 with z1 | ⟨z1, z2⟩ | ⟨z1, z2, z3⟩ | ⟨z1, z2, z3, z4⟩ | ⟨z1, z2, z3, z4⟩
        · have HZS := Lib.hid (eq_of_beq z1)
          go_wp2_with fail
          go_returns
          refine ⟨ris_of ?_, hfin _ (by first | assumption | exact Bw.drew (by assumption) | exact Bw.drewN (by assumption) _)⟩
          have := HGG.out
          have := HZ.out
          have := HZS.out
          unfold RI sizedP
          rw [HAB.out]
          first | omega | (simp; done) | (simp; omega)
        · have HZS := Lib.hid (eq_of_beq z2)
          go_wp2_with fail
          go_returns
          refine ⟨ris_of ?_, hfin _ (by first | assumption | exact Bw.drew (by assumption) | exact Bw.drewN (by assumption) _)⟩
          have := HGG.out
          have := HZ.out
          have := HZS.out
          unfold RI sizedP
          rw [HAB.out]
          first | omega | (simp; done) | (simp; omega)
        · have HZS := Lib.hid (eq_of_beq z3)
          go_wp2_with fail
          go_returns
          refine ⟨ris_of ?_, hfin _ (by first | assumption | exact Bw.drew (by assumption) | exact Bw.drewN (by assumption) _)⟩
          have := HGG.out
          have := HZ.out
          have := HZS.out
          unfold RI sizedP
          rw [HAB.out]
          first | omega | (simp; done) | (simp; omega)
        · have HZS := Lib.hid (eq_of_beq z4)
          go_wp2_with fail
          go_returns
          refine ⟨ris_of ?_, hfin _ (by first | assumption | exact Bw.drew (by assumption) | exact Bw.drewN (by assumption) _)⟩
          have := HGG.out
          have := HZ.out
          have := HZS.out
          unfold RI sizedP
          rw [HAB.out]
          first | omega | (simp; done) | (simp; omega)
        · have HZS := Lib.hid (And.intro (ne_of_beq_false z1) (And.intro (ne_of_beq_false z2) (And.intro (ne_of_beq_false z3) (ne_of_beq_false z4))))
          go_wp2_with fail
          go_returns
          refine ⟨ris_of ?_, hfin _ (by first | assumption | exact Bw.drew (by assumption) | exact Bw.drewN (by assumption) _)⟩
          have := HGG.out
          have := HZ.out
          have := HZS.out
          unfold RI sizedP
          rw [HAB.out]
          first | omega | (simp; done) | (simp; omega)
    · subst h
      by_cases z0 : dst = -1
      · have d5 : (dst == -1) = true := by simp [z0]
        have HZ := Lib.hid z0
        clear z0
        go_wp2_with fail
        go_returns
        refine ⟨ris_of ?_, hfin _ (by first | assumption | exact Bw.drew (by assumption) | exact Bw.drewN (by assumption) _)⟩
        have := HGG.out
        have := HZ.out
        unfold RI sizedP
        rw [HAB.out]
        first | omega | (simp; done) | (simp; omega)
      · have d5 : (dst == -1) = false := by simpa using z0
        have HZ := Lib.hid z0
        clear z0
        by_cases z1 : 0 ≤ ref
        · have d6 : decide (0 ≤ ref) = true := decide_eq_true z1
          by_cases z2 : ref < ng
          · have d7 : decide (ref < (ng : Int)) = true := decide_eq_true z2
            go_wp2_with fail
            go_quiet (fail)
            go_wp2_with fail
            go_returns
            refine ⟨ris_of ?_, hfin _ (by first | assumption | exact Bw.drew (by assumption) | exact Bw.drewN (by assumption) _)⟩
            have := HGG.out
            have := HZ.out
            unfold RI sizedP
            rw [HAB.out]
            first | omega | (simp; done) | (simp; omega)
          · have d7 : decide (ref < (ng : Int)) = false := decide_eq_false z2
            go_wp2_with fail
            go_quiet (fail)
            go_wp2_with fail
            go_returns
            refine ⟨ris_of ?_, hfin _ (by first | assumption | exact Bw.drew (by assumption) | exact Bw.drewN (by assumption) _)⟩
            have := HGG.out
            have := HZ.out
            unfold RI sizedP
            rw [HAB.out]
            first | omega | (simp; done) | (simp; omega)
        · have d6 : decide (0 ≤ ref) = false := decide_eq_false z1
          go_wp2_with fail
          go_quiet (fail)
          go_wp2_with fail
          go_returns
          refine ⟨ris_of ?_, hfin _ (by first | assumption | exact Bw.drew (by assumption) | exact Bw.drewN (by assumption) _)⟩
          have := HGG.out
          have := HZ.out
          unfold RI sizedP
          rw [HAB.out]
          first | omega | (simp; done) | (simp; omega)
    · subst h
      by_cases z0 : dst = -1
      · have d5 : (dst == -1) = true := by simp [z0]
        have HZ := Lib.hid z0
        clear z0
        go_wp2_with fail
        go_returns
        refine ⟨ris_of ?_, hfin _ (by first | assumption | exact Bw.drew (by assumption) | exact Bw.drewN (by assumption) _)⟩
        have := HGG.out
        have := HZ.out
        unfold RI sizedP
        rw [HAB.out]
        first | omega | (simp; done) | (simp; omega)
      · have d5 : (dst == -1) = false := by simpa using z0
        have HZ := Lib.hid z0
        clear z0
        by_cases z1 : 0 ≤ ref
        · have d6 : decide (0 ≤ ref) = true := decide_eq_true z1
          by_cases z2 : ref < ns
          · have d7 : decide (ref < (ns : Int)) = true := decide_eq_true z2
            go_wp2_with fail
            go_returns
            refine ⟨ris_of ?_, hfin _ (by first | assumption | exact Bw.drew (by assumption) | exact Bw.drewN (by assumption) _)⟩
            have := HGG.out
            have := HZ.out
            unfold RI sizedP
            rw [HAB.out]
            first | omega | (simp; done) | (simp; omega)
          · have d7 : decide (ref < (ns : Int)) = false := decide_eq_false z2
            go_wp2_with fail
            go_returns
            refine ⟨ris_of ?_, hfin _ (by first | assumption | exact Bw.drew (by assumption) | exact Bw.drewN (by assumption) _)⟩
            have := HGG.out
            have := HZ.out
            unfold RI sizedP
            rw [HAB.out]
            first | omega | (simp; done) | (simp; omega)
        · have d6 : decide (0 ≤ ref) = false := decide_eq_false z1
          go_wp2_with fail
          go_returns
          refine ⟨ris_of ?_, hfin _ (by first | assumption | exact Bw.drew (by assumption) | exact Bw.drewN (by assumption) _)⟩
          have := HGG.out
          have := HZ.out
          unfold RI sizedP
          rw [HAB.out]
          first | omega | (simp; done) | (simp; omega)
    · subst h
      by_cases z0 : dst = -1
      · have d5 : (dst == -1) = true := by simp [z0]
        have HZ := Lib.hid z0
        clear z0
        go_wp2_with fail
        go_returns
        refine ⟨ris_of ?_, hfin _ (by first | assumption | exact Bw.drew (by assumption) | exact Bw.drewN (by assumption) _)⟩
        have := HGG.out
        have := HZ.out
        unfold RI sizedP
        rw [HAB.out]
        first | omega | (simp; done) | (simp; omega)
      · have d5 : (dst == -1) = false := by simpa using z0
        have HZ := Lib.hid z0
        clear z0
        by_cases z1 : 0 ≤ ref
        · have d6 : decide (0 ≤ ref) = true := decide_eq_true z1
          by_cases z2 : ref < nf
          · have d7 : decide (ref < (nf : Int)) = true := decide_eq_true z2
            go_wp2_with fail
            go_quiet (fail)
            go_wp2_with fail
            go_returns
            refine ⟨ris_of ?_, hfin _ (by first | assumption | exact Bw.drew (by assumption) | exact Bw.drewN (by assumption) _)⟩
            have := HGG.out
            have := HZ.out
            unfold RI sizedP
            rw [HAB.out]
            first | omega | (simp; done) | (simp; omega)
          · have d7 : decide (ref < (nf : Int)) = false := decide_eq_false z2
            go_wp2_with fail
            go_quiet (fail)
            go_wp2_with fail
            go_returns
            refine ⟨ris_of ?_, hfin _ (by first | assumption | exact Bw.drew (by assumption) | exact Bw.drewN (by assumption) _)⟩
            have := HGG.out
            have := HZ.out
            unfold RI sizedP
            rw [HAB.out]
            first | omega | (simp; done) | (simp; omega)
        · have d6 : decide (0 ≤ ref) = false := decide_eq_false z1
          go_wp2_with fail
          go_quiet (fail)
          go_wp2_with fail
          go_returns
          refine ⟨ris_of ?_, hfin _ (by first | assumption | exact Bw.drew (by assumption) | exact Bw.drewN (by assumption) _)⟩
          have := HGG.out
          have := HZ.out
          unfold RI sizedP
          rw [HAB.out]
          first | omega | (simp; done) | (simp; omega)
    · subst h
      by_cases z0 : dst = -1
      · have d5 : (dst == -1) = true := by simp [z0]
        have HZ := Lib.hid z0
        clear z0
        go_wp2_with fail
        go_returns
        refine ⟨ris_of ?_, hfin _ (by first | assumption | exact Bw.drew (by assumption) | exact Bw.drewN (by assumption) _)⟩
        have := HGG.out
        have := HZ.out
        unfold RI sizedP
        rw [HAB.out]
        first | omega | (simp; done) | (simp; omega)
      · have d5 : (dst == -1) = false := by simpa using z0
        have HZ := Lib.hid z0
        clear z0
        have hs4 : (size == 1) = true ∨ ((size == 1) = false ∧ (size == 2) = true) ∨ ((size == 1) = false ∧ (size == 2) = false ∧ (size == 4) = true) ∨ ((size == 1) = false ∧ (size == 2) = false ∧ (size == 4) = false ∧ (size == 8) = true) ∨ ((size == 1) = false ∧ (size == 2) = false ∧ (size == 4) = false ∧ (size == 8) = false) := by simp only [beq_iff_eq, beq_eq_false_iff_ne, ne_eq]; omega
        have HS4 := Lib.hid hs4
        rcases hs4 with z1 | ⟨z1, z2⟩ | ⟨z1, z2, z3⟩ | ⟨z1, z2, z3, z4⟩ | ⟨z1, z2, z3, z4⟩
        · have HZS := Lib.hid (eq_of_beq z1)
          go_wp2_with fail
          go_returns
          refine ⟨ris_of ?_, hfin _ (by first | assumption | exact Bw.drew (by assumption) | exact Bw.drewN (by assumption) _)⟩
          have := HGG.out
          have := HZ.out
          have := HZS.out
          unfold RI sizedP
          rw [HAB.out]
          first | omega | (simp; done) | (simp; omega)
        · have HZS := Lib.hid (eq_of_beq z2)
          go_wp2_with fail
          go_returns
          refine ⟨ris_of ?_, hfin _ (by first | assumption | exact Bw.drew (by assumption) | exact Bw.drewN (by assumption) _)⟩
          have := HGG.out
          have := HZ.out
          have := HZS.out
          unfold RI sizedP
          rw [HAB.out]
          first | omega | (simp; done) | (simp; omega)
        · have HZS := Lib.hid (eq_of_beq z3)
          go_wp2_with fail
          go_returns
          refine ⟨ris_of ?_, hfin _ (by first | assumption | exact Bw.drew (by assumption) | exact Bw.drewN (by assumption) _)⟩
          have := HGG.out
          have := HZ.out
          have := HZS.out
          unfold RI sizedP
          rw [HAB.out]
          first | omega | (simp; done) | (simp; omega)
        · have HZS := Lib.hid (eq_of_beq z4)
          go_wp2_with fail
          go_returns
          refine ⟨ris_of ?_, hfin _ (by first | assumption | exact Bw.drew (by assumption) | exact Bw.drewN (by assumption) _)⟩
          have := HGG.out
          have := HZ.out
          have := HZS.out
          unfold RI sizedP
          rw [HAB.out]
          first | omega | (simp; done) | (simp; omega)
        · have HZS := Lib.hid (And.intro (ne_of_beq_false z1) (And.intro (ne_of_beq_false z2) (And.intro (ne_of_beq_false z3) (ne_of_beq_false z4))))
          go_wp2_with fail
          go_returns
          refine ⟨ris_of ?_, hfin _ (by first | assumption | exact Bw.drew (by assumption) | exact Bw.drewN (by assumption) _)⟩
          have := HGG.out
          have := HZ.out
          have := HZS.out
          unfold RI sizedP
          rw [HAB.out]
          first | omega | (simp; done) | (simp; omega)
    · subst h
      by_cases z0 : dst = -1
      · have d5 : (dst != -1) = false := by simp [z0]
        have HZ := Lib.hid z0
        clear z0
        have hs4 : (size == 1) = true ∨ ((size == 1) = false ∧ (size == 2) = true) ∨ ((size == 1) = false ∧ (size == 2) = false ∧ (size == 4) = true) ∨ ((size == 1) = false ∧ (size == 2) = false ∧ (size == 4) = false ∧ (size == 8) = true) ∨ ((size == 1) = false ∧ (size == 2) = false ∧ (size == 4) = false ∧ (size == 8) = false) := by simp only [beq_iff_eq, beq_eq_false_iff_ne, ne_eq]; omega
        have HS4 := Lib.hid hs4
        rcases hs4 with z1 | ⟨z1, z2⟩ | ⟨z1, z2, z3⟩ | ⟨z1, z2, z3, z4⟩ | ⟨z1, z2, z3, z4⟩
        · have HZS := Lib.hid (eq_of_beq z1)
          go_wp2_with fail
          go_returns
          refine ⟨ris_of ?_, hfin _ (by first | assumption | exact Bw.drew (by assumption) | exact Bw.drewN (by assumption) _)⟩
          have := HGG.out
          have := HZ.out
          have := HZS.out
          unfold RI sizedP
          rw [HAB.out]
          first | omega | (simp; done) | (simp; omega)
        · have HZS := Lib.hid (eq_of_beq z2)
          go_wp2_with fail
          go_returns
          refine ⟨ris_of ?_, hfin _ (by first | assumption | exact Bw.drew (by assumption) | exact Bw.drewN (by assumption) _)⟩
          have := HGG.out
          have := HZ.out
          have := HZS.out
          unfold RI sizedP
          rw [HAB.out]
          first | omega | (simp; done) | (simp; omega)
        · have HZS := Lib.hid (eq_of_beq z3)
          go_wp2_with fail
          go_returns
          refine ⟨ris_of ?_, hfin _ (by first | assumption | exact Bw.drew (by assumption) | exact Bw.drewN (by assumption) _)⟩
          have := HGG.out
          have := HZ.out
          have := HZS.out
          unfold RI sizedP
          rw [HAB.out]
          first | omega | (simp; done) | (simp; omega)
        · have HZS := Lib.hid (eq_of_beq z4)
          go_wp2_with fail
          go_returns
          refine ⟨ris_of ?_, hfin _ (by first | assumption | exact Bw.drew (by assumption) | exact Bw.drewN (by assumption) _)⟩
          have := HGG.out
          have := HZ.out
          have := HZS.out
          unfold RI sizedP
          rw [HAB.out]
          first | omega | (simp; done) | (simp; omega)
        · have HZS := Lib.hid (And.intro (ne_of_beq_false z1) (And.intro (ne_of_beq_false z2) (And.intro (ne_of_beq_false z3) (ne_of_beq_false z4))))
          go_wp2_with fail
          go_returns
          refine ⟨ris_of ?_, hfin _ (by first | assumption | exact Bw.drew (by assumption) | exact Bw.drewN (by assumption) _)⟩
          have := HGG.out
          have := HZ.out
          have := HZS.out
          unfold RI sizedP
          rw [HAB.out]
          first | omega | (simp; done) | (simp; omega)
      · have d5 : (dst != -1) = true := by simpa using z0
        have HZ := Lib.hid z0
        clear z0
        go_wp2_with fail
        go_returns
        refine ⟨ris_of ?_, hfin _ (by first | assumption | exact Bw.drew (by assumption) | exact Bw.drewN (by assumption) _)⟩
        have := HGG.out
        have := HZ.out
        unfold RI sizedP
        rw [HAB.out]
        first | omega | (simp; done) | (simp; omega)
    · subst h
      by_cases z1 : 0 ≤ ref
      · have d6 : decide (0 ≤ ref) = true := decide_eq_true z1
        by_cases z2 : ref < nf
        · have d7 : decide (ref < (nf : Int)) = true := decide_eq_true z2
          obtain ⟨b8, o8, rfl, hc8⟩ := HPF.out ref.toNat (by omega)
          rw [show ((ref.toNat : Nat) : Int) = ref by omega] at hc8
          go_wp2_with fail
          go_quiet (fail)
          go_wp2_with fail
          go_returns
          refine ⟨ris_of ?_, hfin _ (by first | assumption | exact Bw.drew (by assumption) | exact Bw.drewN (by assumption) _)⟩
          have := HGG.out
          unfold RI sizedP
          rw [HAB.out]
          first | omega | (simp; done) | (simp; omega)
        · have d7 : decide (ref < (nf : Int)) = false := decide_eq_false z2
          go_wp2_with fail
          go_quiet (fail)
          go_wp2_with fail
          go_returns
          refine ⟨ris_of ?_, hfin _ (by first | assumption | exact Bw.drew (by assumption) | exact Bw.drewN (by assumption) _)⟩
          have := HGG.out
          unfold RI sizedP
          rw [HAB.out]
          first | omega | (simp; done) | (simp; omega)
      · have d6 : decide (0 ≤ ref) = false := decide_eq_false z1
        go_wp2_with fail
        go_quiet (fail)
        go_wp2_with fail
        go_returns
        refine ⟨ris_of ?_, hfin _ (by first | assumption | exact Bw.drew (by assumption) | exact Bw.drewN (by assumption) _)⟩
        have := HGG.out
        unfold RI sizedP
        rw [HAB.out]
        first | omega | (simp; done) | (simp; omega)
    · subst h
      by_cases z1 : args.length ≤ 6
      · have d6 : decide ((args.length : Int) ≤ 6) = true := decide_eq_true (by omega)
        have HZ1 := Lib.hid z1
        clear z1
        go_wp2_with fail
        go_returns
        refine ⟨ris_of ?_, hfin _ (by first | assumption | exact Bw.drew (by assumption) | exact Bw.drewN (by assumption) _)⟩
        have := HGG.out
        have := HZ1.out
        unfold RI sizedP
        rw [HAB.out]
        first | omega | (simp; done) | (simp; omega)
      · have d6 : decide ((args.length : Int) ≤ 6) = false := decide_eq_false (by omega)
        have HZ1 := Lib.hid z1
        clear z1
        go_wp2_with fail
        go_returns
        refine ⟨ris_of ?_, hfin _ (by first | assumption | exact Bw.drew (by assumption) | exact Bw.drewN (by assumption) _)⟩
        have := HGG.out
        have := HZ1.out
        unfold RI sizedP
        rw [HAB.out]
        first | omega | (simp; done) | (simp; omega)
    · subst h
      by_cases z0 : dst = -1
      · have d5 : (dst != -1) = false := by simp [z0]
        have HZ := Lib.hid z0
        clear z0
        go_wp2_with fail
        go_returns
        refine ⟨ris_of ?_, hfin _ (by first | assumption | exact Bw.drew (by assumption) | exact Bw.drewN (by assumption) _)⟩
        have := HGG.out
        have := HZ.out
        unfold RI sizedP
        rw [HAB.out]
        first | omega | (simp; done) | (simp; omega)
      · have d5 : (dst != -1) = true := by simpa using z0
        have HZ := Lib.hid z0
        clear z0
        go_wp2_with fail
        go_returns
        refine ⟨ris_of ?_, hfin _ (by first | assumption | exact Bw.drew (by assumption) | exact Bw.drewN (by assumption) _)⟩
        have := HGG.out
        have := HZ.out
        unfold RI sizedP
        rw [HAB.out]
        first | omega | (simp; done) | (simp; omega)
end Go.Proofs.Yticgaknkonolnaa
