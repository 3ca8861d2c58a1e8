/- Walks: may an instruction be?. No condition. -/
import Derived.Test.YtbogcompeefoaaaDoorQd
namespace Go.Proofs.YtbogcompeefoaaaDoor
open Go.RowKit
set_option linter.unusedVariables false
set_option maxHeartbeats 2000000
/-- below g all is as it was, and there is as much -/
def Bw (g : Nat) (w w' : World) : Prop := Below g w w' ∧ g ≤ w'.heap.size
theorem Bw.step {g : Nat} {w a b : World} (h : Bw g w a) (hb : Below a.heap.size a b) : Bw g w b := ⟨h.1.trans (hb.mono h.2), Nat.le_trans h.2 hb.size⟩
theorem Bw.drew {g : Nat} {w a : World} (h : Bw g w a) : Bw g w a.drew := ⟨below_drew' h.1, h.2⟩
where below_drew' {B : Nat} {w x : World} (h : Below B w x) : Below B w x.drew := ⟨h.os, h.tape, h.output, h.size, h.block⟩
theorem Bw.drewN {g : Nat} {w a : World} (h : Bw g w a) (n : Nat) : Bw g w (a.drewN n) := ⟨below_drewN h.1 n, h.2⟩
def RIs (R : Prop) (en : Ending) : Prop := ∃ b : Bool, en = .returned (.bool b) ∧ (b = true ↔ R)
theorem ris_of {R : Prop} {b : Bool} (h : b = true ↔ R) : RIs R (.returned (.bool b)) := ⟨b, rfl, h⟩
def sizedP (n : Int) : Prop := n = 1 ∨ n = 2 ∨ n = 4 ∨ n = 8
/-- may an instruction be, where there are so many functions, globals, slots, registers, and functions have so many parameters -/
def RI (nf ng ns : Nat) (par : Int → Int) (regs op dst : Int) (a b : ArgD) (size : Int) (signed secret : Bool) (ref off : Int) (args : List ArgD) : Prop :=
  1 ≤ op ∧ op ≤ 30 ∧ argsB regs (readsD ⟨op, dst, a, b, size, signed, secret, ref, off, args⟩) = true ∧ -1 ≤ dst ∧ dst < regs ∧ ((op = 27 ∨ op = 30) → dst = -1) ∧ (¬ (op = 27 ∨ op = 28 ∨ op = 29 ∨ op = 30) → 0 ≤ dst) ∧
  ((op = 22 ∨ op = 26 ∨ op = 27) → sizedP size) ∧ (op = 23 → 0 ≤ ref ∧ ref < ng) ∧ (op = 24 → 0 ≤ ref ∧ ref < ns) ∧ ((op = 25 ∨ op = 28) → 0 ≤ ref ∧ ref < nf) ∧ (op = 28 → (args.length : Int) = par ref) ∧ (op = 29 → args.length ≤ 6)
theorem cell_drew' {w : World} {a : Addr} {u : Value} (h : w.cell? a = some u) : w.drew.cell? a = some u := h
/-- what is known of the program and the function -/
structure PF (w : World) (pb fb fo nf ng ns : Nat) (par : Int → Int) (regs : Int) : Prop where
  fregs : w.cell? ⟨fb, fo + 3, none⟩ = some (.int .i64 regs)
  fslots : ∃ A c, w.cell? ⟨fb, fo + 4, none⟩ = some (.slice A ns c) ∧ ns ≤ 9223372036854775807
  pglobs : ∃ A c, w.cell? ⟨pb, 1, none⟩ = some (.slice A ng c) ∧ ng ≤ 9223372036854775807
  pfuncs : ∃ A c, w.cell? ⟨pb, 0, none⟩ = some (.slice A nf c) ∧ nf ≤ 9223372036854775807 ∧ ∀ i : Nat, i < nf → ∃ b o, A = some ⟨b, o, none⟩ ∧ w.cell? ⟨b, o + i * 6 + 1, none⟩ = some (.int .i64 (par i))
  rin : In64 regs
theorem PF.later {w w' : World} {pb fb fo nf ng ns : Nat} {par : Int → Int} {regs : Int} (h : PF w pb fb fo nf ng ns par regs) (hb : Below w.heap.size w w') : PF w' pb fb fo nf ng ns par regs := by
  obtain ⟨h1, ⟨A, c, h2, h3⟩, ⟨A2, c2, h4, h5⟩, ⟨A3, c3, h6, h7, h8⟩, h9⟩ := h
  refine ⟨Go.Proofs.YtbogcompeefoaaaDoor.later h1 hb, ⟨A, c, Go.Proofs.YtbogcompeefoaaaDoor.later h2 hb, h3⟩, ⟨A2, c2, Go.Proofs.YtbogcompeefoaaaDoor.later h4 hb, h5⟩, ⟨A3, c3, Go.Proofs.YtbogcompeefoaaaDoor.later h6 hb, h7, fun i hi => ?_⟩, h9⟩
  obtain ⟨b, o, e1, e2⟩ := h8 i hi
  exact ⟨b, o, e1, Go.Proofs.YtbogcompeefoaaaDoor.later e2 hb⟩
set_option maxRecDepth 100000 in
theorem right_op (w : World) (g0 : Nat) (hg0 : g0 = w.heap.size) (pb fb fo nf ng ns : Nat) (par : Int → Int) (op dst : Int) (a b : ArgD) (size : Int) (signed secret : Bool) (ref off : Int) (args : List ArgD) (va : Value) (regs : Int) (hpf : PF w pb fb fo nf ng ns par regs) (hop : In64 op) (hdst : In64 dst) (ha : In64 a.reg ∧ In64 a.num) (hb : In64 b.reg ∧ In64 b.num) (hsz : In64 size) (href : In64 ref) (hs : SlR w 2 ArgR va args) (hl : args.length ≤ 1000000) (hn : op < 1 ∨ 30 < op) : Calls Tryd.prog 18 #[.pointer (some ⟨pb, 0, none⟩), .pointer (some ⟨fb, fo, none⟩), .agg #[.int .i64 op, .int .i64 dst, .int .i64 a.reg, .int .i64 a.num, .int .i64 b.reg, .int .i64 b.num, .int .i64 size, .bool signed, .bool secret, .int .i64 ref, .int .i64 off, va]] w fun e w' => RIs (RI nf ng ns par regs op dst a b size signed secret ref off args) e ∧ Below g0 w w' := by
  have hno : ¬ RI nf ng ns par regs op dst a b size signed secret ref off args := by unfold RI; omega
  have HNo := Lib.hid hno
  have hrin := hpf.rin
  have hd : decide (op < 1) = true ∨ (decide (op < 1) = false ∧ decide (30 < op) = true) := by
    by_cases h : op < 1
    · exact Or.inl (decide_eq_true h)
    · exact Or.inr ⟨decide_eq_false h, decide_eq_true (by omega)⟩
  clear hno hn hs
  have HG := Lib.hid hg0
  clear hg0
  rcases hd with d1 | ⟨d1, d2⟩
  all_goals
    go_enter Tryd.func18, Tryd.ntmps18
    go_wp2_with fail
    go_quiet (fail)
    go_wp2_with fail
    go_returns
    exact ⟨ris_of (by simp [HNo.out]), by rw [HG.out]; exact below_drewN (below_alloc _ (Below.refl _ _)) _⟩
set_option maxRecDepth 100000 in
theorem right_args (w : World) (g0 : Nat) (hg0 : g0 = w.heap.size) (pb fb fo nf ng ns : Nat) (par : Int → Int) (op dst : Int) (a b : ArgD) (size : Int) (signed secret : Bool) (ref off : Int) (args : List ArgD) (va : Value) (regs : Int) (hpf : PF w pb fb fo nf ng ns par regs) (hop : In64 op) (hdst : In64 dst) (ha : In64 a.reg ∧ In64 a.num) (hb : In64 b.reg ∧ In64 b.num) (hsz : In64 size) (href : In64 ref) (hs : SlR w 2 ArgR va args) (hl : args.length ≤ 1000000) (g1 : 1 ≤ op) (g2 : op ≤ 30) (hn : argsB regs (readsD ⟨op, dst, a, b, size, signed, secret, ref, off, args⟩) = false) : Calls Tryd.prog 18 #[.pointer (some ⟨pb, 0, none⟩), .pointer (some ⟨fb, fo, none⟩), .agg #[.int .i64 op, .int .i64 dst, .int .i64 a.reg, .int .i64 a.num, .int .i64 b.reg, .int .i64 b.num, .int .i64 size, .bool signed, .bool secret, .int .i64 ref, .int .i64 off, va]] w fun e w' => RIs (RI nf ng ns par regs op dst a b size signed secret ref off args) e ∧ Below g0 w w' := by
  have hno : ¬ RI nf ng ns par regs op dst a b size signed secret ref off args := by
    unfold RI
    rw [hn]; simp
  have HNo := Lib.hid hno
  have HI := Lib.hid (fun w' (h : Below w.heap.size w w') => ireads_any w' ⟨op, dst, a, b, size, signed, secret, ref, off, args⟩ va hop ha hb (hs.later (by decide) h) hl)
  have HA := Lib.hid (fun w' v (h : w'.cell? ⟨fb, fo + 3, none⟩ = some (.int .i64 regs)) hv => args_any w' fb fo regs v (readsD ⟨op, dst, a, b, size, signed, secret, ref, off, args⟩) h hpf.rin hv)
  have d1 : decide (op < 1) = false := decide_eq_false (by omega)
  have d2 : decide (30 < op) = false := decide_eq_false (by omega)
  have hrin := hpf.rin
  have HG := Lib.hid hg0
  have hs0 := hs
  clear hs hg0
  clear hno
  rw [hn] at HA
  clear hn
  go_enter Tryd.func18, Tryd.ntmps18
  go_wp2_with fail
  have hblk := blk_new w (.cells #[.int .i64 op, .int .i64 dst, .int .i64 a.reg, .int .i64 a.num, .int .i64 b.reg, .int .i64 b.num, .int .i64 size, .bool signed, .bool secret, .int .i64 ref, .int .i64 off, va] 74)
  have hbox : ∀ (i : Nat) (v : Value), (#[.int .i64 op, .int .i64 dst, .int .i64 a.reg, .int .i64 a.num, .int .i64 b.reg, .int .i64 b.num, .int .i64 size, .bool signed, .bool secret, .int .i64 ref, .int .i64 off, va] : Array Value)[i]? = some v → (w.alloc (.cells #[.int .i64 op, .int .i64 dst, .int .i64 a.reg, .int .i64 a.num, .int .i64 b.reg, .int .i64 b.num, .int .i64 size, .bool signed, .bool secret, .int .i64 ref, .int .i64 off, va] 74)).cell? ⟨w.heap.size, i, none⟩ = some v := fun i v hi => blk_cell hblk hi
  have c0 := hbox 0 _ rfl
  have c1 := hbox 1 _ rfl
  have c2 := hbox 2 _ rfl
  have c3 := hbox 3 _ rfl
  have c4 := hbox 4 _ rfl
  have c5 := hbox 5 _ rfl
  have c6 := hbox 6 _ rfl
  have c7 := hbox 7 _ rfl
  have c8 := hbox 8 _ rfl
  have c9 := hbox 9 _ rfl
  have c10 := hbox 10 _ rfl
  have c11 := hbox 11 _ rfl
  have hbw : Bw w.heap.size w (w.alloc (.cells #[.int .i64 op, .int .i64 dst, .int .i64 a.reg, .int .i64 a.num, .int .i64 b.reg, .int .i64 b.num, .int .i64 size, .bool signed, .bool secret, .int .i64 ref, .int .i64 off, va] 74)) := ⟨below_alloc _ (Below.refl _ _), by simp⟩
  have hpf1 := hpf.later (below_alloc (.cells #[.int .i64 op, .int .i64 dst, .int .i64 a.reg, .int .i64 a.num, .int .i64 b.reg, .int .i64 b.num, .int .i64 size, .bool signed, .bool secret, .int .i64 ref, .int .i64 off, va] 74) (Below.refl w.heap.size w))
  have hpfl := Lib.hid (show ∀ w', Bw w.heap.size w w' → PF w' pb fb fo nf ng ns par regs from fun w' h => hpf.later h.1)
  have hfin : ∀ w', Bw w.heap.size w w' → Below g0 w w' := fun w' h => by rw [HG.out]; exact h.1
  clear HG
  clear hbox hblk hpf
  generalize w.alloc (.cells #[.int .i64 op, .int .i64 dst, .int .i64 a.reg, .int .i64 a.num, .int .i64 b.reg, .int .i64 b.num, .int .i64 size, .bool signed, .bool secret, .int .i64 ref, .int .i64 off, va] 74) = w1 at *
  generalize w.heap.size = g at *
  have hfr := hpf1.fregs
  clear hpf1
  first | (go_region_with (first | (go_at_call 30; refine (HI.out _ (hbw.drew).1).mono ?_; rintro e w2 ⟨v2, rfl, hs2, hb2⟩) | (go_at_call 29; refine (HA.out _ _ (later (cell_drew' hfr) hb2) hs2).mono ?_; rintro e w3 ⟨rfl, hb3⟩))) | fail
  all_goals
    go_wp2_with fail
    go_returns
    exact ⟨ris_of (by simp [HNo.out]), hfin _ ((hbw.drew.step hb2).step hb3)⟩
set_option maxRecDepth 100000 in
theorem right_dst (w : World) (g0 : Nat) (hg0 : g0 = w.heap.size) (pb fb fo nf ng ns : Nat) (par : Int → Int) (op dst : Int) (a b : ArgD) (size : Int) (signed secret : Bool) (ref off : Int) (args : List ArgD) (va : Value) (regs : Int) (hpf : PF w pb fb fo nf ng ns par regs) (hop : In64 op) (hdst : In64 dst) (ha : In64 a.reg ∧ In64 a.num) (hb : In64 b.reg ∧ In64 b.num) (hsz : In64 size) (href : In64 ref) (hs : SlR w 2 ArgR va args) (hl : args.length ≤ 1000000) (g1 : 1 ≤ op) (g2 : op ≤ 30) (hh : argsB regs (readsD ⟨op, dst, a, b, size, signed, secret, ref, off, args⟩) = true) (hn : dst < -1 ∨ regs ≤ dst) : Calls Tryd.prog 18 #[.pointer (some ⟨pb, 0, none⟩), .pointer (some ⟨fb, fo, none⟩), .agg #[.int .i64 op, .int .i64 dst, .int .i64 a.reg, .int .i64 a.num, .int .i64 b.reg, .int .i64 b.num, .int .i64 size, .bool signed, .bool secret, .int .i64 ref, .int .i64 off, va]] w fun e w' => RIs (RI nf ng ns par regs op dst a b size signed secret ref off args) e ∧ Below g0 w w' := by
  have hno : ¬ RI nf ng ns par regs op dst a b size signed secret ref off args := by unfold RI; omega
  have HNo := Lib.hid hno
  have HI := Lib.hid (fun w' (h : Below w.heap.size w w') => ireads_any w' ⟨op, dst, a, b, size, signed, secret, ref, off, args⟩ va hop ha hb (hs.later (by decide) h) hl)
  have HA := Lib.hid (fun w' v (h : w'.cell? ⟨fb, fo + 3, none⟩ = some (.int .i64 regs)) hv => args_any w' fb fo regs v (readsD ⟨op, dst, a, b, size, signed, secret, ref, off, args⟩) h hpf.rin hv)
  have d1 : decide (op < 1) = false := decide_eq_false (by omega)
  have d2 : decide (30 < op) = false := decide_eq_false (by omega)
  have hrin := hpf.rin
  have HG := Lib.hid hg0
  have hs0 := hs
  clear hs hg0
  have hd : decide (dst < -1) = true ∨ (decide (dst < -1) = false ∧ decide (regs ≤ dst) = true) := by
    by_cases h : dst < -1
    · exact Or.inl (decide_eq_true h)
    · exact Or.inr ⟨decide_eq_false h, decide_eq_true (by omega)⟩
  clear hno hn
  rw [hh] at HA
  clear hh
  go_enter Tryd.func18, Tryd.ntmps18
  go_wp2_with fail
  have hblk := blk_new w (.cells #[.int .i64 op, .int .i64 dst, .int .i64 a.reg, .int .i64 a.num, .int .i64 b.reg, .int .i64 b.num, .int .i64 size, .bool signed, .bool secret, .int .i64 ref, .int .i64 off, va] 74)
  have hbox : ∀ (i : Nat) (v : Value), (#[.int .i64 op, .int .i64 dst, .int .i64 a.reg, .int .i64 a.num, .int .i64 b.reg, .int .i64 b.num, .int .i64 size, .bool signed, .bool secret, .int .i64 ref, .int .i64 off, va] : Array Value)[i]? = some v → (w.alloc (.cells #[.int .i64 op, .int .i64 dst, .int .i64 a.reg, .int .i64 a.num, .int .i64 b.reg, .int .i64 b.num, .int .i64 size, .bool signed, .bool secret, .int .i64 ref, .int .i64 off, va] 74)).cell? ⟨w.heap.size, i, none⟩ = some v := fun i v hi => blk_cell hblk hi
  have c0 := hbox 0 _ rfl
  have c1 := hbox 1 _ rfl
  have c2 := hbox 2 _ rfl
  have c3 := hbox 3 _ rfl
  have c4 := hbox 4 _ rfl
  have c5 := hbox 5 _ rfl
  have c6 := hbox 6 _ rfl
  have c7 := hbox 7 _ rfl
  have c8 := hbox 8 _ rfl
  have c9 := hbox 9 _ rfl
  have c10 := hbox 10 _ rfl
  have c11 := hbox 11 _ rfl
  have hbw : Bw w.heap.size w (w.alloc (.cells #[.int .i64 op, .int .i64 dst, .int .i64 a.reg, .int .i64 a.num, .int .i64 b.reg, .int .i64 b.num, .int .i64 size, .bool signed, .bool secret, .int .i64 ref, .int .i64 off, va] 74)) := ⟨below_alloc _ (Below.refl _ _), by simp⟩
  have hpf1 := hpf.later (below_alloc (.cells #[.int .i64 op, .int .i64 dst, .int .i64 a.reg, .int .i64 a.num, .int .i64 b.reg, .int .i64 b.num, .int .i64 size, .bool signed, .bool secret, .int .i64 ref, .int .i64 off, va] 74) (Below.refl w.heap.size w))
  have hpfl := Lib.hid (show ∀ w', Bw w.heap.size w w' → PF w' pb fb fo nf ng ns par regs from fun w' h => hpf.later h.1)
  have hfin : ∀ w', Bw w.heap.size w w' → Below g0 w w' := fun w' h => by rw [HG.out]; exact h.1
  clear HG
  clear hbox hblk hpf
  generalize w.alloc (.cells #[.int .i64 op, .int .i64 dst, .int .i64 a.reg, .int .i64 a.num, .int .i64 b.reg, .int .i64 b.num, .int .i64 size, .bool signed, .bool secret, .int .i64 ref, .int .i64 off, va] 74) = w1 at *
  generalize w.heap.size = g at *
  have hfr := hpf1.fregs
  clear hpf1
  rcases hd with d3 | ⟨d3, d4⟩
  · first | (go_region_with (first | (go_at_call 30; refine (HI.out _ (hbw.drew).1).mono ?_; rintro e w2 ⟨v2, rfl, hs2, hb2⟩; have c1 := later (cell_drew' c1) hb2) | (go_at_call 29; refine (HA.out _ _ (later (cell_drew' hfr) hb2) hs2).mono ?_; rintro e w3 ⟨rfl, hb3⟩; have c1 := later c1 hb3))) | fail
    all_goals
      go_wp2_with fail
      go_returns
      exact ⟨ris_of (by simp [HNo.out]), hfin _ ((hbw.drew.step hb2).step hb3)⟩
  ·
    go_region_held3 (fun w' => (w'.cell? ⟨g, 0, none⟩ = some (.int .i64 op) ∧ w'.cell? ⟨g, 1, none⟩ = some (.int .i64 dst) ∧ w'.cell? ⟨g, 2, none⟩ = some (.int .i64 a.reg) ∧ w'.cell? ⟨g, 3, none⟩ = some (.int .i64 a.num) ∧ w'.cell? ⟨g, 4, none⟩ = some (.int .i64 b.reg) ∧ w'.cell? ⟨g, 5, none⟩ = some (.int .i64 b.num) ∧ w'.cell? ⟨g, 6, none⟩ = some (.int .i64 size) ∧ w'.cell? ⟨g, 7, none⟩ = some (.bool signed) ∧ w'.cell? ⟨g, 8, none⟩ = some (.bool secret) ∧ w'.cell? ⟨g, 9, none⟩ = some (.int .i64 ref) ∧ w'.cell? ⟨g, 10, none⟩ = some (.int .i64 off) ∧ w'.cell? ⟨g, 11, none⟩ = some va) ∧ w'.cell? ⟨fb, fo + 3, none⟩ = some (.int .i64 regs) ∧ Bw g w w')
      ((go_split_ands; refine ⟨⟨?_, ?_, ?_, ?_, ?_, ?_, ?_, ?_, ?_, ?_, ?_, ?_⟩, ?_, ?_⟩ <;> (first | assumption | exact later (by assumption) hb3 | exact later (by assumption) hb2 | exact cell_drew' (by assumption) | exact Bw.step (by assumption) hb3 | exact Bw.step (by assumption) hb2 | exact Bw.drew (by assumption))))
      (first | (go_at_call 30; go_split_ands; refine (HI.out _ ?_).mono ?_; exact (by assumption : Bw g w _).1; rintro e w2 ⟨v2, rfl, hs2, hb2⟩) | (go_at_call 29; go_split_ands; refine (HA.out _ _ ?_ hs2).mono ?_; assumption; rintro e w3 ⟨rfl, hb3⟩))
    go_wp2_with fail
    go_split_ands
    go_returns
    exact ⟨ris_of (by simp [HNo.out]), hfin _ (by assumption)⟩
end Go.Proofs.YtbogcompeefoaaaDoor
