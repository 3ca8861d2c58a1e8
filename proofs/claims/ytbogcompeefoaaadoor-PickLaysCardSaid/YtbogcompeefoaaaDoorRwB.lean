/- Walks: may an instruction be (by classes)?. No condition. -/
import Derived.Test.YtbogcompeefoaaaDoorRw
namespace Go.Proofs.YtbogcompeefoaaaDoor
open Go.RowKit
set_option linter.unusedVariables false
set_option maxHeartbeats 2000000
set_option maxRecDepth 100000 in
theorem right_22 (w : World) (g0 : Nat) (hg0 : g0 = w.heap.size) (pb fb fo nf ng ns : Nat) (par : Int → Int) (op dst : Int) (a b : ArgD) (size : Int) (signed secret : Bool) (ref off : Int) (args : List ArgD) (va : Value) (regs : Int) (hpf : PF w pb fb fo nf ng ns par regs) (hop : In64 op) (hdst : In64 dst) (ha : In64 a.reg ∧ In64 a.num) (hb : In64 b.reg ∧ In64 b.num) (hsz : In64 size) (href : In64 ref) (hs : SlR w 2 ArgR va args) (hl : args.length ≤ 1000000) (g1 : 1 ≤ op) (g2 : op ≤ 30) (hh : argsB regs (readsD ⟨op, dst, a, b, size, signed, secret, ref, off, args⟩) = true) (g3 : -1 ≤ dst) (g4 : dst < regs) (hk : op = 22) : Calls Tryd.prog 18 #[.pointer (some ⟨pb, 0, none⟩), .pointer (some ⟨fb, fo, none⟩), .agg #[.int .i64 op, .int .i64 dst, .int .i64 a.reg, .int .i64 a.num, .int .i64 b.reg, .int .i64 b.num, .int .i64 size, .bool signed, .bool secret, .int .i64 ref, .int .i64 off, va]] w fun e w' => RIs (RI nf ng ns par regs op dst a b size signed secret ref off args) e ∧ Below g0 w w' := by
  have HAB := Lib.hid hh
  have HI := Lib.hid (fun w' (h : Below w.heap.size w w') => ireads_any w' ⟨op, dst, a, b, size, signed, secret, ref, off, args⟩ va hop ha hb (hs.later (by decide) h) hl)
  have HA := Lib.hid (fun w' v (h : w'.cell? ⟨fb, fo + 3, none⟩ = some (.int .i64 regs)) hv => args_any w' fb fo regs v (readsD ⟨op, dst, a, b, size, signed, secret, ref, off, args⟩) h hpf.rin hv)
  have d1 : decide (op < 1) = false := decide_eq_false (by omega)
  have d2 : decide (30 < op) = false := decide_eq_false (by omega)
  have hrin := hpf.rin
  have HG := Lib.hid hg0
  have hs0 := hs
  clear hs hg0
  have HSZ := Lib.hid (fun w => sized_any w size hsz)
  rw [hh] at HA
  clear hh
  have d3 : decide (dst < -1) = false := decide_eq_false (by omega)
  have d4 : decide (regs ≤ dst) = false := decide_eq_false (by omega)
  have e22 : (op == 22) = true := by simpa using hk
  have e23 : (op == 23) = false := by simp; omega
  have e24 : (op == 24) = false := by simp; omega
  have e25 : (op == 25) = false := by simp; omega
  have e26 : (op == 26) = false := by simp; omega
  have e27 : (op == 27) = false := by simp; omega
  have e28 : (op == 28) = false := by simp; omega
  have e29 : (op == 29) = false := by simp; omega
  have e30 : (op == 30) = false := by simp; omega
  have HK := Lib.hid hk
  clear hk
  have hres : decide (0 ≤ dst) = true ∨ decide (0 ≤ dst) = false := by cases decide (0 ≤ dst) <;> simp
  obtain ⟨r1, r2⟩ := href
  go_enter Tryd.func18, Tryd.ntmps18
  go_wp2_with fail
  have hblk := blk_new w (.cells #[.int .i64 op, .int .i64 dst, .int .i64 a.reg, .int .i64 a.num, .int .i64 b.reg, .int .i64 b.num, .int .i64 size, .bool signed, .bool secret, .int .i64 ref, .int .i64 off, va] 74)
  have hbox : ∀ (i : Nat) (v : Value), (#[.int .i64 op, .int .i64 dst, .int .i64 a.reg, .int .i64 a.num, .int .i64 b.reg, .int .i64 b.num, .int .i64 size, .bool signed, .bool secret, .int .i64 ref, .int .i64 off, va] : Array Value)[i]? = some v → (w.alloc (.cells #[.int .i64 op, .int .i64 dst, .int .i64 a.reg, .int .i64 a.num, .int .i64 b.reg, .int .i64 b.num, .int .i64 size, .bool signed, .bool secret, .int .i64 ref, .int .i64 off, va] 74)).cell? ⟨w.heap.size, i, none⟩ = some v := fun i v hi => blk_cell hblk hi
  have c0 := hbox 0 _ rfl
  have c1 := hbox 1 _ rfl
  have c2 := hbox 2 _ rfl
  have c3 := hbox 3 _ rfl
  have c4 := hbox 4 _ rfl
  have c5 := hbox 5 _ rfl
  have c6 := hbox 6 _ rfl
  have c7 := hbox 7 _ rfl
  have c8 := hbox 8 _ rfl
  have c9 := hbox 9 _ rfl
  have c10 := hbox 10 _ rfl
  have c11 := hbox 11 _ rfl
  have hbw : Bw w.heap.size w (w.alloc (.cells #[.int .i64 op, .int .i64 dst, .int .i64 a.reg, .int .i64 a.num, .int .i64 b.reg, .int .i64 b.num, .int .i64 size, .bool signed, .bool secret, .int .i64 ref, .int .i64 off, va] 74)) := ⟨below_alloc _ (Below.refl _ _), by simp⟩
  have hpf1 := hpf.later (below_alloc (.cells #[.int .i64 op, .int .i64 dst, .int .i64 a.reg, .int .i64 a.num, .int .i64 b.reg, .int .i64 b.num, .int .i64 size, .bool signed, .bool secret, .int .i64 ref, .int .i64 off, va] 74) (Below.refl w.heap.size w))
  have hpfl := Lib.hid (show ∀ w', Bw w.heap.size w w' → PF w' pb fb fo nf ng ns par regs from fun w' h => hpf.later h.1)
  have hfin : ∀ w', Bw w.heap.size w w' → Below g0 w w' := fun w' h => by rw [HG.out]; exact h.1
  clear HG
  clear hbox hblk hpf
  generalize w.alloc (.cells #[.int .i64 op, .int .i64 dst, .int .i64 a.reg, .int .i64 a.num, .int .i64 b.reg, .int .i64 b.num, .int .i64 size, .bool signed, .bool secret, .int .i64 ref, .int .i64 off, va] 74) = w1 at *
  generalize w.heap.size = g at *
  have hfr := hpf1.fregs
  clear hpf1
  go_region_held3 (fun w' => (w'.cell? ⟨g, 0, none⟩ = some (.int .i64 op) ∧ w'.cell? ⟨g, 1, none⟩ = some (.int .i64 dst) ∧ w'.cell? ⟨g, 2, none⟩ = some (.int .i64 a.reg) ∧ w'.cell? ⟨g, 3, none⟩ = some (.int .i64 a.num) ∧ w'.cell? ⟨g, 4, none⟩ = some (.int .i64 b.reg) ∧ w'.cell? ⟨g, 5, none⟩ = some (.int .i64 b.num) ∧ w'.cell? ⟨g, 6, none⟩ = some (.int .i64 size) ∧ w'.cell? ⟨g, 7, none⟩ = some (.bool signed) ∧ w'.cell? ⟨g, 8, none⟩ = some (.bool secret) ∧ w'.cell? ⟨g, 9, none⟩ = some (.int .i64 ref) ∧ w'.cell? ⟨g, 10, none⟩ = some (.int .i64 off) ∧ w'.cell? ⟨g, 11, none⟩ = some va) ∧ w'.cell? ⟨fb, fo + 3, none⟩ = some (.int .i64 regs) ∧ Bw g w w')
    ((go_split_ands; refine ⟨⟨?_, ?_, ?_, ?_, ?_, ?_, ?_, ?_, ?_, ?_, ?_, ?_⟩, ?_, ?_⟩ <;> (first | assumption | exact later (by assumption) hb3 | exact later (by assumption) hb2 | exact cell_drew' (by assumption) | exact Bw.step (by assumption) hb3 | exact Bw.step (by assumption) hb2 | exact Bw.drew (by assumption))))
    (first | (go_at_call 30; go_split_ands; refine (HI.out _ ?_).mono ?_; exact (by assumption : Bw g w _).1; rintro e w2 ⟨v2, rfl, hs2, hb2⟩) | (go_at_call 29; go_split_ands; refine (HA.out _ _ ?_ hs2).mono ?_; assumption; rintro e w3 ⟨rfl, hb3⟩))
  rcases hres with d5 | d5
  all_goals
    go_wp2_with (go_at_call 31; refine (HSZ.out _).mono ?_; rintro e w' ⟨rfl, rfl⟩)
    go_split_ands
    simp only [decide_eq_true_eq, decide_eq_false_iff_not] at d5
    go_returns
    refine ⟨ris_of ?_, hfin _ (by first | assumption | exact Bw.drew (by assumption) | exact Bw.drewN (by assumption) _)⟩
    have hk := HK.out
    unfold RI sizedP
    rw [HAB.out]
    first | omega | (simp; done) | (simp; omega)
set_option maxRecDepth 100000 in
theorem right_26 (w : World) (g0 : Nat) (hg0 : g0 = w.heap.size) (pb fb fo nf ng ns : Nat) (par : Int → Int) (op dst : Int) (a b : ArgD) (size : Int) (signed secret : Bool) (ref off : Int) (args : List ArgD) (va : Value) (regs : Int) (hpf : PF w pb fb fo nf ng ns par regs) (hop : In64 op) (hdst : In64 dst) (ha : In64 a.reg ∧ In64 a.num) (hb : In64 b.reg ∧ In64 b.num) (hsz : In64 size) (href : In64 ref) (hs : SlR w 2 ArgR va args) (hl : args.length ≤ 1000000) (g1 : 1 ≤ op) (g2 : op ≤ 30) (hh : argsB regs (readsD ⟨op, dst, a, b, size, signed, secret, ref, off, args⟩) = true) (g3 : -1 ≤ dst) (g4 : dst < regs) (hk : op = 26) : Calls Tryd.prog 18 #[.pointer (some ⟨pb, 0, none⟩), .pointer (some ⟨fb, fo, none⟩), .agg #[.int .i64 op, .int .i64 dst, .int .i64 a.reg, .int .i64 a.num, .int .i64 b.reg, .int .i64 b.num, .int .i64 size, .bool signed, .bool secret, .int .i64 ref, .int .i64 off, va]] w fun e w' => RIs (RI nf ng ns par regs op dst a b size signed secret ref off args) e ∧ Below g0 w w' := by
  have HAB := Lib.hid hh
  have HI := Lib.hid (fun w' (h : Below w.heap.size w w') => ireads_any w' ⟨op, dst, a, b, size, signed, secret, ref, off, args⟩ va hop ha hb (hs.later (by decide) h) hl)
  have HA := Lib.hid (fun w' v (h : w'.cell? ⟨fb, fo + 3, none⟩ = some (.int .i64 regs)) hv => args_any w' fb fo regs v (readsD ⟨op, dst, a, b, size, signed, secret, ref, off, args⟩) h hpf.rin hv)
  have d1 : decide (op < 1) = false := decide_eq_false (by omega)
  have d2 : decide (30 < op) = false := decide_eq_false (by omega)
  have hrin := hpf.rin
  have HG := Lib.hid hg0
  have hs0 := hs
  clear hs hg0
  have HSZ := Lib.hid (fun w => sized_any w size hsz)
  rw [hh] at HA
  clear hh
  have d3 : decide (dst < -1) = false := decide_eq_false (by omega)
  have d4 : decide (regs ≤ dst) = false := decide_eq_false (by omega)
  have e22 : (op == 22) = false := by simp; omega
  have e23 : (op == 23) = false := by simp; omega
  have e24 : (op == 24) = false := by simp; omega
  have e25 : (op == 25) = false := by simp; omega
  have e26 : (op == 26) = true := by simpa using hk
  have e27 : (op == 27) = false := by simp; omega
  have e28 : (op == 28) = false := by simp; omega
  have e29 : (op == 29) = false := by simp; omega
  have e30 : (op == 30) = false := by simp; omega
  have HK := Lib.hid hk
  clear hk
  have hres : decide (0 ≤ dst) = true ∨ decide (0 ≤ dst) = false := by cases decide (0 ≤ dst) <;> simp
  obtain ⟨r1, r2⟩ := href
  go_enter Tryd.func18, Tryd.ntmps18
  go_wp2_with fail
  have hblk := blk_new w (.cells #[.int .i64 op, .int .i64 dst, .int .i64 a.reg, .int .i64 a.num, .int .i64 b.reg, .int .i64 b.num, .int .i64 size, .bool signed, .bool secret, .int .i64 ref, .int .i64 off, va] 74)
  have hbox : ∀ (i : Nat) (v : Value), (#[.int .i64 op, .int .i64 dst, .int .i64 a.reg, .int .i64 a.num, .int .i64 b.reg, .int .i64 b.num, .int .i64 size, .bool signed, .bool secret, .int .i64 ref, .int .i64 off, va] : Array Value)[i]? = some v → (w.alloc (.cells #[.int .i64 op, .int .i64 dst, .int .i64 a.reg, .int .i64 a.num, .int .i64 b.reg, .int .i64 b.num, .int .i64 size, .bool signed, .bool secret, .int .i64 ref, .int .i64 off, va] 74)).cell? ⟨w.heap.size, i, none⟩ = some v := fun i v hi => blk_cell hblk hi
  have c0 := hbox 0 _ rfl
  have c1 := hbox 1 _ rfl
  have c2 := hbox 2 _ rfl
  have c3 := hbox 3 _ rfl
  have c4 := hbox 4 _ rfl
  have c5 := hbox 5 _ rfl
  have c6 := hbox 6 _ rfl
  have c7 := hbox 7 _ rfl
  have c8 := hbox 8 _ rfl
  have c9 := hbox 9 _ rfl
  have c10 := hbox 10 _ rfl
  have c11 := hbox 11 _ rfl
  have hbw : Bw w.heap.size w (w.alloc (.cells #[.int .i64 op, .int .i64 dst, .int .i64 a.reg, .int .i64 a.num, .int .i64 b.reg, .int .i64 b.num, .int .i64 size, .bool signed, .bool secret, .int .i64 ref, .int .i64 off, va] 74)) := ⟨below_alloc _ (Below.refl _ _), by simp⟩
  have hpf1 := hpf.later (below_alloc (.cells #[.int .i64 op, .int .i64 dst, .int .i64 a.reg, .int .i64 a.num, .int .i64 b.reg, .int .i64 b.num, .int .i64 size, .bool signed, .bool secret, .int .i64 ref, .int .i64 off, va] 74) (Below.refl w.heap.size w))
  have hpfl := Lib.hid (show ∀ w', Bw w.heap.size w w' → PF w' pb fb fo nf ng ns par regs from fun w' h => hpf.later h.1)
  have hfin : ∀ w', Bw w.heap.size w w' → Below g0 w w' := fun w' h => by rw [HG.out]; exact h.1
  clear HG
  clear hbox hblk hpf
  generalize w.alloc (.cells #[.int .i64 op, .int .i64 dst, .int .i64 a.reg, .int .i64 a.num, .int .i64 b.reg, .int .i64 b.num, .int .i64 size, .bool signed, .bool secret, .int .i64 ref, .int .i64 off, va] 74) = w1 at *
  generalize w.heap.size = g at *
  have hfr := hpf1.fregs
  clear hpf1
  go_region_held3 (fun w' => (w'.cell? ⟨g, 0, none⟩ = some (.int .i64 op) ∧ w'.cell? ⟨g, 1, none⟩ = some (.int .i64 dst) ∧ w'.cell? ⟨g, 2, none⟩ = some (.int .i64 a.reg) ∧ w'.cell? ⟨g, 3, none⟩ = some (.int .i64 a.num) ∧ w'.cell? ⟨g, 4, none⟩ = some (.int .i64 b.reg) ∧ w'.cell? ⟨g, 5, none⟩ = some (.int .i64 b.num) ∧ w'.cell? ⟨g, 6, none⟩ = some (.int .i64 size) ∧ w'.cell? ⟨g, 7, none⟩ = some (.bool signed) ∧ w'.cell? ⟨g, 8, none⟩ = some (.bool secret) ∧ w'.cell? ⟨g, 9, none⟩ = some (.int .i64 ref) ∧ w'.cell? ⟨g, 10, none⟩ = some (.int .i64 off) ∧ w'.cell? ⟨g, 11, none⟩ = some va) ∧ w'.cell? ⟨fb, fo + 3, none⟩ = some (.int .i64 regs) ∧ Bw g w w')
    ((go_split_ands; refine ⟨⟨?_, ?_, ?_, ?_, ?_, ?_, ?_, ?_, ?_, ?_, ?_, ?_⟩, ?_, ?_⟩ <;> (first | assumption | exact later (by assumption) hb3 | exact later (by assumption) hb2 | exact cell_drew' (by assumption) | exact Bw.step (by assumption) hb3 | exact Bw.step (by assumption) hb2 | exact Bw.drew (by assumption))))
    (first | (go_at_call 30; go_split_ands; refine (HI.out _ ?_).mono ?_; exact (by assumption : Bw g w _).1; rintro e w2 ⟨v2, rfl, hs2, hb2⟩) | (go_at_call 29; go_split_ands; refine (HA.out _ _ ?_ hs2).mono ?_; assumption; rintro e w3 ⟨rfl, hb3⟩))
  rcases hres with d5 | d5
  all_goals
    go_wp2_with (go_at_call 31; refine (HSZ.out _).mono ?_; rintro e w' ⟨rfl, rfl⟩)
    go_split_ands
    simp only [decide_eq_true_eq, decide_eq_false_iff_not] at d5
    go_returns
    refine ⟨ris_of ?_, hfin _ (by first | assumption | exact Bw.drew (by assumption) | exact Bw.drewN (by assumption) _)⟩
    have hk := HK.out
    unfold RI sizedP
    rw [HAB.out]
    first | omega | (simp; done) | (simp; omega)
set_option maxRecDepth 100000 in
theorem right_27 (w : World) (g0 : Nat) (hg0 : g0 = w.heap.size) (pb fb fo nf ng ns : Nat) (par : Int → Int) (op dst : Int) (a b : ArgD) (size : Int) (signed secret : Bool) (ref off : Int) (args : List ArgD) (va : Value) (regs : Int) (hpf : PF w pb fb fo nf ng ns par regs) (hop : In64 op) (hdst : In64 dst) (ha : In64 a.reg ∧ In64 a.num) (hb : In64 b.reg ∧ In64 b.num) (hsz : In64 size) (href : In64 ref) (hs : SlR w 2 ArgR va args) (hl : args.length ≤ 1000000) (g1 : 1 ≤ op) (g2 : op ≤ 30) (hh : argsB regs (readsD ⟨op, dst, a, b, size, signed, secret, ref, off, args⟩) = true) (g3 : -1 ≤ dst) (g4 : dst < regs) (hk : op = 27) : Calls Tryd.prog 18 #[.pointer (some ⟨pb, 0, none⟩), .pointer (some ⟨fb, fo, none⟩), .agg #[.int .i64 op, .int .i64 dst, .int .i64 a.reg, .int .i64 a.num, .int .i64 b.reg, .int .i64 b.num, .int .i64 size, .bool signed, .bool secret, .int .i64 ref, .int .i64 off, va]] w fun e w' => RIs (RI nf ng ns par regs op dst a b size signed secret ref off args) e ∧ Below g0 w w' := by
  have HAB := Lib.hid hh
  have HI := Lib.hid (fun w' (h : Below w.heap.size w w') => ireads_any w' ⟨op, dst, a, b, size, signed, secret, ref, off, args⟩ va hop ha hb (hs.later (by decide) h) hl)
  have HA := Lib.hid (fun w' v (h : w'.cell? ⟨fb, fo + 3, none⟩ = some (.int .i64 regs)) hv => args_any w' fb fo regs v (readsD ⟨op, dst, a, b, size, signed, secret, ref, off, args⟩) h hpf.rin hv)
  have d1 : decide (op < 1) = false := decide_eq_false (by omega)
  have d2 : decide (30 < op) = false := decide_eq_false (by omega)
  have hrin := hpf.rin
  have HG := Lib.hid hg0
  have hs0 := hs
  clear hs hg0
  have HSZ := Lib.hid (fun w => sized_any w size hsz)
  rw [hh] at HA
  clear hh
  have d3 : decide (dst < -1) = false := decide_eq_false (by omega)
  have d4 : decide (regs ≤ dst) = false := decide_eq_false (by omega)
  have e22 : (op == 22) = false := by simp; omega
  have e23 : (op == 23) = false := by simp; omega
  have e24 : (op == 24) = false := by simp; omega
  have e25 : (op == 25) = false := by simp; omega
  have e26 : (op == 26) = false := by simp; omega
  have e27 : (op == 27) = true := by simpa using hk
  have e28 : (op == 28) = false := by simp; omega
  have e29 : (op == 29) = false := by simp; omega
  have e30 : (op == 30) = false := by simp; omega
  have HK := Lib.hid hk
  clear hk
  have hres : (dst == -1) = true ∨ (dst == -1) = false := by cases (dst == -1) <;> simp
  obtain ⟨r1, r2⟩ := href
  go_enter Tryd.func18, Tryd.ntmps18
  go_wp2_with fail
  have hblk := blk_new w (.cells #[.int .i64 op, .int .i64 dst, .int .i64 a.reg, .int .i64 a.num, .int .i64 b.reg, .int .i64 b.num, .int .i64 size, .bool signed, .bool secret, .int .i64 ref, .int .i64 off, va] 74)
  have hbox : ∀ (i : Nat) (v : Value), (#[.int .i64 op, .int .i64 dst, .int .i64 a.reg, .int .i64 a.num, .int .i64 b.reg, .int .i64 b.num, .int .i64 size, .bool signed, .bool secret, .int .i64 ref, .int .i64 off, va] : Array Value)[i]? = some v → (w.alloc (.cells #[.int .i64 op, .int .i64 dst, .int .i64 a.reg, .int .i64 a.num, .int .i64 b.reg, .int .i64 b.num, .int .i64 size, .bool signed, .bool secret, .int .i64 ref, .int .i64 off, va] 74)).cell? ⟨w.heap.size, i, none⟩ = some v := fun i v hi => blk_cell hblk hi
  have c0 := hbox 0 _ rfl
  have c1 := hbox 1 _ rfl
  have c2 := hbox 2 _ rfl
  have c3 := hbox 3 _ rfl
  have c4 := hbox 4 _ rfl
  have c5 := hbox 5 _ rfl
  have c6 := hbox 6 _ rfl
  have c7 := hbox 7 _ rfl
  have c8 := hbox 8 _ rfl
  have c9 := hbox 9 _ rfl
  have c10 := hbox 10 _ rfl
  have c11 := hbox 11 _ rfl
  have hbw : Bw w.heap.size w (w.alloc (.cells #[.int .i64 op, .int .i64 dst, .int .i64 a.reg, .int .i64 a.num, .int .i64 b.reg, .int .i64 b.num, .int .i64 size, .bool signed, .bool secret, .int .i64 ref, .int .i64 off, va] 74)) := ⟨below_alloc _ (Below.refl _ _), by simp⟩
  have hpf1 := hpf.later (below_alloc (.cells #[.int .i64 op, .int .i64 dst, .int .i64 a.reg, .int .i64 a.num, .int .i64 b.reg, .int .i64 b.num, .int .i64 size, .bool signed, .bool secret, .int .i64 ref, .int .i64 off, va] 74) (Below.refl w.heap.size w))
  have hpfl := Lib.hid (show ∀ w', Bw w.heap.size w w' → PF w' pb fb fo nf ng ns par regs from fun w' h => hpf.later h.1)
  have hfin : ∀ w', Bw w.heap.size w w' → Below g0 w w' := fun w' h => by rw [HG.out]; exact h.1
  clear HG
  clear hbox hblk hpf
  generalize w.alloc (.cells #[.int .i64 op, .int .i64 dst, .int .i64 a.reg, .int .i64 a.num, .int .i64 b.reg, .int .i64 b.num, .int .i64 size, .bool signed, .bool secret, .int .i64 ref, .int .i64 off, va] 74) = w1 at *
  generalize w.heap.size = g at *
  have hfr := hpf1.fregs
  clear hpf1
  go_region_held3 (fun w' => (w'.cell? ⟨g, 0, none⟩ = some (.int .i64 op) ∧ w'.cell? ⟨g, 1, none⟩ = some (.int .i64 dst) ∧ w'.cell? ⟨g, 2, none⟩ = some (.int .i64 a.reg) ∧ w'.cell? ⟨g, 3, none⟩ = some (.int .i64 a.num) ∧ w'.cell? ⟨g, 4, none⟩ = some (.int .i64 b.reg) ∧ w'.cell? ⟨g, 5, none⟩ = some (.int .i64 b.num) ∧ w'.cell? ⟨g, 6, none⟩ = some (.int .i64 size) ∧ w'.cell? ⟨g, 7, none⟩ = some (.bool signed) ∧ w'.cell? ⟨g, 8, none⟩ = some (.bool secret) ∧ w'.cell? ⟨g, 9, none⟩ = some (.int .i64 ref) ∧ w'.cell? ⟨g, 10, none⟩ = some (.int .i64 off) ∧ w'.cell? ⟨g, 11, none⟩ = some va) ∧ w'.cell? ⟨fb, fo + 3, none⟩ = some (.int .i64 regs) ∧ Bw g w w')
    ((go_split_ands; refine ⟨⟨?_, ?_, ?_, ?_, ?_, ?_, ?_, ?_, ?_, ?_, ?_, ?_⟩, ?_, ?_⟩ <;> (first | assumption | exact later (by assumption) hb3 | exact later (by assumption) hb2 | exact cell_drew' (by assumption) | exact Bw.step (by assumption) hb3 | exact Bw.step (by assumption) hb2 | exact Bw.drew (by assumption))))
    (first | (go_at_call 30; go_split_ands; refine (HI.out _ ?_).mono ?_; exact (by assumption : Bw g w _).1; rintro e w2 ⟨v2, rfl, hs2, hb2⟩) | (go_at_call 29; go_split_ands; refine (HA.out _ _ ?_ hs2).mono ?_; assumption; rintro e w3 ⟨rfl, hb3⟩))
  rcases hres with d5 | d5
  all_goals
    go_wp2_with (go_at_call 31; refine (HSZ.out _).mono ?_; rintro e w' ⟨rfl, rfl⟩)
    go_split_ands
    simp only [beq_iff_eq, beq_eq_false_iff_ne, ne_eq] at d5
    go_returns
    refine ⟨ris_of ?_, hfin _ (by first | assumption | exact Bw.drew (by assumption) | exact Bw.drewN (by assumption) _)⟩
    have hk := HK.out
    unfold RI sizedP
    rw [HAB.out]
    first | omega | (simp; done) | (simp; omega)
end Go.Proofs.YtbogcompeefoaaaDoor
