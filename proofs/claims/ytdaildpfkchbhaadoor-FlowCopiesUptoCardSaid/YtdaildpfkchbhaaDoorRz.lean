/- Walks: may an instruction be (any); a program, what is known where it may be. No condition. -/
import Derived.Test.YtdaildpfkchbhaaDoorRwA
import Derived.Test.YtdaildpfkchbhaaDoorRwB
import Derived.Test.YtdaildpfkchbhaaDoorRwC
import Derived.Test.YtdaildpfkchbhaaDoorRwD
import Derived.Test.YtdaildpfkchbhaaDoorRx
import Derived.Test.YtdaildpfkchbhaaDoorRy
namespace Go.Proofs.YtdaildpfkchbhaaDoor
open Go.RowKit
set_option linter.unusedVariables false
set_option maxHeartbeats 2000000
theorem right_any (w : World) (g0 : Nat) (hg0 : g0 = w.heap.size) (pb fb fo nf ng ns : Nat) (par : Int → Int) (op dst : Int) (a b : ArgD) (size : Int) (signed secret : Bool) (ref off : Int) (args : List ArgD) (va : Value) (regs : Int) (hpf : PF w pb fb fo nf ng ns par regs) (hop : In64 op) (hdst : In64 dst) (ha : In64 a.reg ∧ In64 a.num) (hb : In64 b.reg ∧ In64 b.num) (hsz : In64 size) (href : In64 ref) (hs : SlR w 2 ArgR va args) (hl : args.length ≤ 1000000) : Calls Tryd.prog 32 #[.pointer (some ⟨pb, 0, none⟩), .pointer (some ⟨fb, fo, none⟩), .agg #[.int .i64 op, .int .i64 dst, .int .i64 a.reg, .int .i64 a.num, .int .i64 b.reg, .int .i64 b.num, .int .i64 size, .bool signed, .bool secret, .int .i64 ref, .int .i64 off, va]] w fun e w' => RIs (RI nf ng ns par regs op dst a b size signed secret ref off args) e ∧ Below g0 w w' := by
  by_cases z1 : op < 1 ∨ 30 < op
  · exact right_op w g0 hg0 pb fb fo nf ng ns par op dst a b size signed secret ref off args va regs hpf hop hdst ha hb hsz href hs hl z1
  cases z2 : argsB regs (readsD ⟨op, dst, a, b, size, signed, secret, ref, off, args⟩) with
  | false => exact right_args w g0 hg0 pb fb fo nf ng ns par op dst a b size signed secret ref off args va regs hpf hop hdst ha hb hsz href hs hl (by omega) (by omega) z2
  | true =>
    by_cases z3 : dst < -1 ∨ regs ≤ dst
    · exact right_dst w g0 hg0 pb fb fo nf ng ns par op dst a b size signed secret ref off args va regs hpf hop hdst ha hb hsz href hs hl (by omega) (by omega) z2 z3
    have hc : op ≤ 21 ∨ op = 22 ∨ op = 23 ∨ op = 24 ∨ op = 25 ∨ op = 26 ∨ op = 27 ∨ op = 28 ∨ op = 29 ∨ op = 30 := by omega
    rcases hc with h | h | h | h | h | h | h | h | h | h
    · exact right_o w g0 hg0 pb fb fo nf ng ns par op dst a b size signed secret ref off args va regs hpf hop hdst ha hb hsz href hs hl (by omega) (by omega) z2 (by omega) (by omega) h
    · exact right_22 w g0 hg0 pb fb fo nf ng ns par op dst a b size signed secret ref off args va regs hpf hop hdst ha hb hsz href hs hl (by omega) (by omega) z2 (by omega) (by omega) h
    · exact right_23 w g0 hg0 pb fb fo nf ng ns par op dst a b size signed secret ref off args va regs hpf hop hdst ha hb hsz href hs hl (by omega) (by omega) z2 (by omega) (by omega) h
    · exact right_24 w g0 hg0 pb fb fo nf ng ns par op dst a b size signed secret ref off args va regs hpf hop hdst ha hb hsz href hs hl (by omega) (by omega) z2 (by omega) (by omega) h
    · exact right_25 w g0 hg0 pb fb fo nf ng ns par op dst a b size signed secret ref off args va regs hpf hop hdst ha hb hsz href hs hl (by omega) (by omega) z2 (by omega) (by omega) h
    · exact right_26 w g0 hg0 pb fb fo nf ng ns par op dst a b size signed secret ref off args va regs hpf hop hdst ha hb hsz href hs hl (by omega) (by omega) z2 (by omega) (by omega) h
    · exact right_27 w g0 hg0 pb fb fo nf ng ns par op dst a b size signed secret ref off args va regs hpf hop hdst ha hb hsz href hs hl (by omega) (by omega) z2 (by omega) (by omega) h
    · exact right_28 w g0 hg0 pb fb fo nf ng ns par op dst a b size signed secret ref off args va regs hpf hop hdst ha hb hsz href hs hl (by omega) (by omega) z2 (by omega) (by omega) h
    · exact right_29 w g0 hg0 pb fb fo nf ng ns par op dst a b size signed secret ref off args va regs hpf hop hdst ha hb hsz href hs hl (by omega) (by omega) z2 (by omega) (by omega) h
    · exact right_30 w g0 hg0 pb fb fo nf ng ns par op dst a b size signed secret ref off args va regs hpf hop hdst ha hb hsz href hs hl (by omega) (by omega) z2 (by omega) (by omega) h
/-- the parameters of a function, by its number -/
def parOf (p : ProgD) (i : Int) : Int := match p.funcs[i.toNat]? with | some f => f.params | none => 0
def InsOk (p : ProgD) (f : FuncD) (x : InsD) : Prop := RI p.funcs.length p.globals.length f.slots.length (parOf p) f.regs x.op x.dst x.a x.b x.size x.signed x.secret x.ref x.off x.args
def BlockOk (p : ProgD) (f : FuncD) (b : BlockD) : Prop := (∀ x ∈ b.ins, InsOk p f x) ∧ TI f.blocks.length f.regs b.term
def HeadOk (f : FuncD) : Prop := 0 ≤ f.params ∧ f.params ≤ f.regs ∧ f.params ≤ 6 ∧ (f.secret.length : Int) = f.params ∧ f.blocks.length ≠ 0
def FuncOk (p : ProgD) (f : FuncD) : Prop := HeadOk f ∧ ∀ b ∈ f.blocks, BlockOk p f b
/-- no instruction has very many arguments -/
def Slim (p : ProgD) : Prop := ∀ f ∈ p.funcs, ∀ b ∈ f.blocks, ∀ x ∈ b.ins, x.args.length ≤ 1000000
theorem take_all {α : Type} {Q : α → Prop} {l : List α} {k : Nat} {x : α} (h : l[k]? = some x) (ha : ∀ y ∈ l.take k, Q y) (hx : Q x) : ∀ y ∈ l.take (k + 1), Q y := by
  rw [List.take_add_one, h]
  intro y hy
  rcases List.mem_append.1 hy with hy | hy
  · exact ha y hy
  · simp at hy; subst hy; exact hx
/-- the program's box: four cells, at a later world -/
def BoxP (W0 w : World) (pb : Nat) (p : ProgD) (vf vg : Value) : Prop :=
  w.cell? ⟨pb, 0, none⟩ = some vf ∧ w.cell? ⟨pb, 1, none⟩ = some vg ∧ w.cell? ⟨pb, 2, none⟩ = some (.int .i64 p.data) ∧ w.cell? ⟨pb, 3, none⟩ = some (.int .i64 p.main)
theorem BoxP.later {W0 w w' : World} {pb : Nat} {p : ProgD} {vf vg : Value} (h : BoxP W0 w pb p vf vg) (hb : Below w.heap.size w w') : BoxP W0 w' pb p vf vg :=
  ⟨Go.Proofs.YtdaildpfkchbhaaDoor.later h.1 hb, Go.Proofs.YtdaildpfkchbhaaDoor.later h.2.1 hb, Go.Proofs.YtdaildpfkchbhaaDoor.later h.2.2.1 hb, Go.Proofs.YtdaildpfkchbhaaDoor.later h.2.2.2 hb⟩
/-- what came in, as it stood -/
structure In (W0 : World) (p : ProgD) (vf vg : Value) : Prop where
  funcs : SlR W0 6 (FuncR W0) vf p.funcs
  flen : p.funcs.length ≤ 140737488351232
  globs : SlR W0 4 (GlobR W0) vg p.globals
  glen : p.globals.length ≤ 140737488351232
  data : In64 p.data
  main : In64 p.main
theorem pf_of {W0 w : World} {p : ProgD} {vf vg : Value} (hin : In W0 p vf vg) (h0 : Below W0.heap.size W0 w) {pb fb fo : Nat} (hb : BoxP W0 w pb p vf vg) {f : FuncD} {cs : List Value} (hlen : cs.length = 6) (hc : ∀ j, j < 6 → W0.cell? ⟨fb, fo + j, none⟩ = cs[j]?) (hf : FuncR W0 cs f) :
    PF w pb fb fo p.funcs.length p.globals.length f.slots.length (parOf p) f.regs := by
  obtain ⟨vs, vl, vb, rfl, _, hpar, _, _, hreg, hsl, hsll, _⟩ := hf
  obtain ⟨A, c, rfl, _, m1, _⟩ := hsl
  obtain ⟨A1, d1, e1, _, m2, _⟩ := hin.globs
  obtain ⟨A2, d2, e2, _, m3, hi⟩ := hin.funcs
  subst e1 e2
  unfold maxLen at m1 m2 m3
  refine ⟨later (hc 3 (by omega)) h0, ⟨A, c, later (hc 4 (by omega)) h0, by omega⟩, ⟨A1, d1, hb.2.1, by have := hin.glen; omega⟩, ⟨A2, d2, hb.1, by have := hin.flen; omega, fun i hlt => ?_⟩, hreg⟩
  obtain ⟨b, o, cs', g1, g2, g3, g4⟩ := hi i _ (List.getElem?_eq_getElem hlt)
  obtain ⟨_, _, _, rfl, _⟩ := g4
  refine ⟨b, o, g1, ?_⟩
  have := later (g3 1 (by omega)) h0
  rw [this]
  simp [parOf, List.getElem?_eq_getElem hlt]
end Go.Proofs.YtdaildpfkchbhaaDoor
