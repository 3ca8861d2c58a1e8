/- Walks: may an instruction be (any); a program, what is known where it may be. An rtl program that came in: its names are no longer than the reach. No condition. -/
import Derived.Test.YtbogcompeefoaaaDoorRwA
import Derived.Test.YtbogcompeefoaaaDoorRwB
import Derived.Test.YtbogcompeefoaaaDoorRwC
import Derived.Test.YtbogcompeefoaaaDoorRwD
import Derived.Test.YtbogcompeefoaaaDoorRx
import Derived.Test.YtbogcompeefoaaaDoorQd
namespace Go.Proofs.YtbogcompeefoaaaDoor
open Go.RowKit
set_option linter.unusedVariables false
set_option maxHeartbeats 2000000
theorem right_any (w : World) (g0 : Nat) (hg0 : g0 = w.heap.size) (pb fb fo nf ng ns : Nat) (par : Int → Int) (op dst : Int) (a b : ArgD) (size : Int) (signed secret : Bool) (ref off : Int) (args : List ArgD) (va : Value) (regs : Int) (hpf : PF w pb fb fo nf ng ns par regs) (hop : In64 op) (hdst : In64 dst) (ha : In64 a.reg ∧ In64 a.num) (hb : In64 b.reg ∧ In64 b.num) (hsz : In64 size) (href : In64 ref) (hs : SlR w 2 ArgR va args) (hl : args.length ≤ 1000000) : Calls Tryd.prog 18 #[.pointer (some ⟨pb, 0, none⟩), .pointer (some ⟨fb, fo, none⟩), .agg #[.int .i64 op, .int .i64 dst, .int .i64 a.reg, .int .i64 a.num, .int .i64 b.reg, .int .i64 b.num, .int .i64 size, .bool signed, .bool secret, .int .i64 ref, .int .i64 off, va]] w fun e w' => RIs (RI nf ng ns par regs op dst a b size signed secret ref off args) e ∧ Below g0 w w' := by
  by_cases z1 : op < 1 ∨ 30 < op
  · exact right_op w g0 hg0 pb fb fo nf ng ns par op dst a b size signed secret ref off args va regs hpf hop hdst ha hb hsz href hs hl z1
  cases z2 : argsB regs (readsD ⟨op, dst, a, b, size, signed, secret, ref, off, args⟩) with
  | false => exact right_args w g0 hg0 pb fb fo nf ng ns par op dst a b size signed secret ref off args va regs hpf hop hdst ha hb hsz href hs hl (by omega) (by omega) z2
  | true =>
    by_cases z3 : dst < -1 ∨ regs ≤ dst
    · exact right_dst w g0 hg0 pb fb fo nf ng ns par op dst a b size signed secret ref off args va regs hpf hop hdst ha hb hsz href hs hl (by omega) (by omega) z2 z3
    have hc : op ≤ 21 ∨ op = 22 ∨ op = 23 ∨ op = 24 ∨ op = 25 ∨ op = 26 ∨ op = 27 ∨ op = 28 ∨ op = 29 ∨ op = 30 := by omega
    rcases hc with h | h | h | h | h | h | h | h | h | h
    · exact right_o w g0 hg0 pb fb fo nf ng ns par op dst a b size signed secret ref off args va regs hpf hop hdst ha hb hsz href hs hl (by omega) (by omega) z2 (by omega) (by omega) h
    · exact right_22 w g0 hg0 pb fb fo nf ng ns par op dst a b size signed secret ref off args va regs hpf hop hdst ha hb hsz href hs hl (by omega) (by omega) z2 (by omega) (by omega) h
    · exact right_23 w g0 hg0 pb fb fo nf ng ns par op dst a b size signed secret ref off args va regs hpf hop hdst ha hb hsz href hs hl (by omega) (by omega) z2 (by omega) (by omega) h
    · exact right_24 w g0 hg0 pb fb fo nf ng ns par op dst a b size signed secret ref off args va regs hpf hop hdst ha hb hsz href hs hl (by omega) (by omega) z2 (by omega) (by omega) h
    · exact right_25 w g0 hg0 pb fb fo nf ng ns par op dst a b size signed secret ref off args va regs hpf hop hdst ha hb hsz href hs hl (by omega) (by omega) z2 (by omega) (by omega) h
    · exact right_26 w g0 hg0 pb fb fo nf ng ns par op dst a b size signed secret ref off args va regs hpf hop hdst ha hb hsz href hs hl (by omega) (by omega) z2 (by omega) (by omega) h
    · exact right_27 w g0 hg0 pb fb fo nf ng ns par op dst a b size signed secret ref off args va regs hpf hop hdst ha hb hsz href hs hl (by omega) (by omega) z2 (by omega) (by omega) h
    · exact right_28 w g0 hg0 pb fb fo nf ng ns par op dst a b size signed secret ref off args va regs hpf hop hdst ha hb hsz href hs hl (by omega) (by omega) z2 (by omega) (by omega) h
    · exact right_29 w g0 hg0 pb fb fo nf ng ns par op dst a b size signed secret ref off args va regs hpf hop hdst ha hb hsz href hs hl (by omega) (by omega) z2 (by omega) (by omega) h
    · exact right_30 w g0 hg0 pb fb fo nf ng ns par op dst a b size signed secret ref off args va regs hpf hop hdst ha hb hsz href hs hl (by omega) (by omega) z2 (by omega) (by omega) h
/-- the parameters of a function, by its number -/
def parOf (p : ProgD) (i : Int) : Int := match p.funcs[i.toNat]? with | some f => f.params | none => 0
def InsOk (p : ProgD) (f : FuncD) (x : InsD) : Prop := RI p.funcs.length p.globals.length f.slots.length (parOf p) f.regs x.op x.dst x.a x.b x.size x.signed x.secret x.ref x.off x.args
def BlockOk (p : ProgD) (f : FuncD) (b : BlockD) : Prop := (∀ x ∈ b.ins, InsOk p f x) ∧ TI f.blocks.length f.regs b.term
def HeadOk (f : FuncD) : Prop := 0 ≤ f.params ∧ f.params ≤ f.regs ∧ f.params ≤ 6 ∧ (f.secret.length : Int) = f.params ∧ f.blocks.length ≠ 0
def FuncOk (p : ProgD) (f : FuncD) : Prop := HeadOk f ∧ ∀ b ∈ f.blocks, BlockOk p f b
/-- no instruction has very many arguments -/
def Slim (p : ProgD) : Prop := ∀ f ∈ p.funcs, ∀ b ∈ f.blocks, ∀ x ∈ b.ins, x.args.length ≤ 1000000
theorem take_all {α : Type} {Q : α → Prop} {l : List α} {k : Nat} {x : α} (h : l[k]? = some x) (ha : ∀ y ∈ l.take k, Q y) (hx : Q x) : ∀ y ∈ l.take (k + 1), Q y := by
  rw [List.take_add_one, h]
  intro y hy
  rcases List.mem_append.1 hy with hy | hy
  · exact ha y hy
  · simp at hy; subst hy; exact hx
/-- the program's box: four cells, at a later world -/
def BoxP (W0 w : World) (pb : Nat) (p : ProgD) (vf vg : Value) : Prop :=
  w.cell? ⟨pb, 0, none⟩ = some vf ∧ w.cell? ⟨pb, 1, none⟩ = some vg ∧ w.cell? ⟨pb, 2, none⟩ = some (.int .i64 p.data) ∧ w.cell? ⟨pb, 3, none⟩ = some (.int .i64 p.main)
theorem BoxP.later {W0 w w' : World} {pb : Nat} {p : ProgD} {vf vg : Value} (h : BoxP W0 w pb p vf vg) (hb : Below w.heap.size w w') : BoxP W0 w' pb p vf vg :=
  ⟨Go.Proofs.YtbogcompeefoaaaDoor.later h.1 hb, Go.Proofs.YtbogcompeefoaaaDoor.later h.2.1 hb, Go.Proofs.YtbogcompeefoaaaDoor.later h.2.2.1 hb, Go.Proofs.YtbogcompeefoaaaDoor.later h.2.2.2 hb⟩
/-- what came in, as it stood -/
structure In (W0 : World) (p : ProgD) (vf vg : Value) : Prop where
  funcs : SlR W0 6 (FuncR W0) vf p.funcs
  flen : p.funcs.length ≤ 140737488351232
  globs : SlR W0 4 (GlobR W0) vg p.globals
  glen : p.globals.length ≤ 140737488351232
  data : In64 p.data
  main : In64 p.main
theorem pf_of {W0 w : World} {p : ProgD} {vf vg : Value} (hin : In W0 p vf vg) (h0 : Below W0.heap.size W0 w) {pb fb fo : Nat} (hb : BoxP W0 w pb p vf vg) {f : FuncD} {cs : List Value} (hlen : cs.length = 6) (hc : ∀ j, j < 6 → W0.cell? ⟨fb, fo + j, none⟩ = cs[j]?) (hf : FuncR W0 cs f) :
    PF w pb fb fo p.funcs.length p.globals.length f.slots.length (parOf p) f.regs := by
  obtain ⟨vs, vl, vb, rfl, _, hpar, _, _, hreg, hsl, hsll, _⟩ := hf
  obtain ⟨A, c, rfl, _, m1, _⟩ := hsl
  obtain ⟨A1, d1, e1, _, m2, _⟩ := hin.globs
  obtain ⟨A2, d2, e2, _, m3, hi⟩ := hin.funcs
  subst e1 e2
  unfold maxLen at m1 m2 m3
  refine ⟨later (hc 3 (by omega)) h0, ⟨A, c, later (hc 4 (by omega)) h0, by omega⟩, ⟨A1, d1, hb.2.1, by have := hin.glen; omega⟩, ⟨A2, d2, hb.1, by have := hin.flen; omega, fun i hlt => ?_⟩, hreg⟩
  obtain ⟨b, o, cs', g1, g2, g3, g4⟩ := hi i _ (List.getElem?_eq_getElem hlt)
  obtain ⟨_, _, _, rfl, _⟩ := g4
  refine ⟨b, o, g1, ?_⟩
  have := later (g3 1 (by omega)) h0
  rw [this]
  simp [parOf, List.getElem?_eq_getElem hlt]
end Go.Proofs.YtbogcompeefoaaaDoor
namespace Go.Proofs.YtbogcompeefoaaaDoor
open Go.RowKit
set_option linter.unusedVariables false
set_option maxRecDepth 20000
theorem Rw.str {H : Type} {enc : TypeId × Value → H} {P : Program} {w : World} {T : TypeId} {cs : List Value} (ht : P.underlying T = some .string) (h : Rw enc P w T cs) : ∃ s : ByteArray, cs = [.string s] ∧ s.size ≤ 140737488355328 := by
  obtain ⟨fuel, x, hf, hw⟩ := h
  obtain ⟨s, h1, h2, h3⟩ := DataW.trod_string ht hf
  refine ⟨s, h1, ?_⟩
  subst h2
  have := hw s.data.toList.length (by simp [DataW.weights])
  unfold reachBytes at this
  have h2 : s.size ≤ 140737488351232 := by simpa using this
  omega
theorem row_name {H : Type} {enc : TypeId × Value → H} {w : World} {T E : TypeId} {C : Nat} {fs : Array Field} {v : Value} (ht : Tryd.prog.underlying T = some (.slice E)) (hE : Tryd.prog.underlying E = some (.struct fs)) (hC : Tryd.prog.cellsOf E = C) (h0 : 0 < C) (hf0 : ∃ f, fs[0]? = some f ∧ f.offset = 0 ∧ Tryd.prog.underlying f.type = some .string ∧ Tryd.prog.cellsOf f.type = 1)
    (h : Rw enc Tryd.prog w T [v]) {α : Type} {R : List Value → α → Prop} {nm : α → ByteArray} {xs : List α} (hs : SlR w C R v xs) (hR : ∀ cs x, R cs x → cs[0]? = some (.string (nm x))) : ∀ x ∈ xs, (nm x).size ≤ 140737488355328 := by
  intro x hx
  obtain ⟨i, hi⟩ := List.mem_iff_getElem?.1 hx
  obtain ⟨A, len, cap, e, _, _, hat, _⟩ := h.slice ht
  obtain ⟨A2, cap2, e2, _, _, h3⟩ := hs
  simp only [List.cons.injEq, and_true] at e
  rw [e2] at e
  simp only [Value.slice.injEq] at e
  obtain ⟨rfl, rfl, rfl⟩ := e
  obtain ⟨ad, cs, g1, g2, g3, g4⟩ := hat i (List.getElem?_eq_some_iff.1 hi).1
  obtain ⟨b, o, cs2, k1, k2, k3, k4⟩ := h3 i x hi
  rw [g1] at k1
  obtain rfl := Option.some.inj k1
  rw [hC] at g2 g3
  have c1 := g3 0 h0
  have c2 := k3 0 h0
  rw [Addr.add_lit] at c1
  have e3 : o + (i * C + 0) = o + i * C + 0 := by omega
  rw [e3, c2, hR _ _ k4] at c1
  obtain ⟨_, hf⟩ := g4.struct hE
  obtain ⟨f, f1, f2, f3, f4⟩ := hf0
  have hq := hf 0 f f1
  rw [f2, f4, List.drop_zero] at hq
  obtain ⟨s, hs1, hs2⟩ := hq.str f3
  match cs, g2, c1, hs1 with
  | [], g2, c1, hs1 => simp at c1
  | c :: cs, g2, c1, hs1 =>
    simp at c1 hs1
    rw [hs1] at c1
    cases c1
    exact hs2
theorem open_progN {H : Type} {enc : TypeId × Value → H} {w : World} {r : Reach} {b0 : Nat} {v : Value} {d : DataW H} {p : List MemPlace} (hv : Value.okWide Tryd.prog w r b0 25 v) (h : DataW.Trod enc Tryd.prog w 0 (fun _ => true) true 25 v d p) (hw : ∀ b ∈ d.weights Tryd.prog 25, b ≤ reachBytes) :
    ∃ (x : ProgD) (vf vg : Value), v = .agg #[vf, vg, .int .i64 x.data, .int .i64 x.main] ∧ In w x vf vg ∧ (∀ g ∈ x.globals, g.name.size ≤ 140737488355328) ∧ ∀ f ∈ x.funcs, f.name.size ≤ 140737488355328 := by
  obtain ⟨cs, rfl, hr⟩ := open_structW Tryd.underlying25 hv h hw
  obtain ⟨x, vf, vg, e, h1, h2, h3, h4, h5, h6⟩ := open_ProgR hr
  obtain ⟨hl, hf⟩ := hr.struct Tryd.underlying25
  have q0 := hf 0 _ rfl
  have q1 := hf 1 _ rfl
  rw [e] at q0 q1
  have q0 : Rw enc Tryd.prog w 22 (([vf, vg, .int .i64 x.data, .int .i64 x.main].drop 0).take (Tryd.prog.cellsOf 22)) := q0
  have q1 : Rw enc Tryd.prog w 23 (([vf, vg, .int .i64 x.data, .int .i64 x.main].drop 1).take (Tryd.prog.cellsOf 23)) := q1
  rw [show Tryd.prog.cellsOf 22 = 1 by kernel_rfl] at q0
  rw [show Tryd.prog.cellsOf 23 = 1 by kernel_rfl] at q1
  refine ⟨x, vf, vg, ?_, ⟨h1, h2, h3, h4, h5, h6⟩, ?_, ?_⟩
  · congr 1
    exact Array.ext' (by simpa using e)
  · exact row_name Tryd.underlying23 Tryd.underlying68 (C := 4) (by kernel_rfl) (by decide) ⟨_, rfl, by kernel_rfl, by kernel_rfl, by kernel_rfl⟩ q1 (nm := fun g => g.name) h3 (fun cs g hg => by obtain ⟨vp, rfl, _⟩ := hg; rfl)
  · exact row_name Tryd.underlying22 Tryd.underlying40 (C := 6) (by kernel_rfl) (by decide) ⟨_, rfl, by kernel_rfl, by kernel_rfl, by kernel_rfl⟩ q0 (nm := fun f => f.name) h1 (fun cs f hg => by obtain ⟨v1, v2, v3, rfl, _⟩ := hg; rfl)
end Go.Proofs.YtbogcompeefoaaaDoor
