/- An rtl program that came in: its names are no longer than the reach. No condition. -/
import Derived.Test.YthpcnmjpjglmbaaDoorRz
namespace Go.Proofs.YthpcnmjpjglmbaaDoor
open Go.RowKit
set_option linter.unusedVariables false
set_option maxRecDepth 20000
theorem Rw.str {H : Type} {enc : TypeId × Value → H} {P : Program} {w : World} {T : TypeId} {cs : List Value} (ht : P.underlying T = some .string) (h : Rw enc P w T cs) : ∃ s : ByteArray, cs = [.string s] ∧ s.size ≤ 140737488355328 := by
  obtain ⟨fuel, x, hf, hw⟩ := h
  obtain ⟨s, h1, h2, h3⟩ := DataW.trod_string ht hf
  refine ⟨s, h1, ?_⟩
  subst h2
  have := hw s.data.toList.length (by simp [DataW.weights])
  unfold reachBytes at this
  have h2 : s.size ≤ 140737488351232 := by simpa using this
  omega
theorem row_name {H : Type} {enc : TypeId × Value → H} {w : World} {T E : TypeId} {C : Nat} {fs : Array Field} {v : Value} (ht : Tryd.prog.underlying T = some (.slice E)) (hE : Tryd.prog.underlying E = some (.struct fs)) (hC : Tryd.prog.cellsOf E = C) (h0 : 0 < C) (hf0 : ∃ f, fs[0]? = some f ∧ f.offset = 0 ∧ Tryd.prog.underlying f.type = some .string ∧ Tryd.prog.cellsOf f.type = 1)
    (h : Rw enc Tryd.prog w T [v]) {α : Type} {R : List Value → α → Prop} {nm : α → ByteArray} {xs : List α} (hs : SlR w C R v xs) (hR : ∀ cs x, R cs x → cs[0]? = some (.string (nm x))) : ∀ x ∈ xs, (nm x).size ≤ 140737488355328 := by
  intro x hx
  obtain ⟨i, hi⟩ := List.mem_iff_getElem?.1 hx
  obtain ⟨A, len, cap, e, _, _, hat, _⟩ := h.slice ht
  obtain ⟨A2, cap2, e2, _, _, h3⟩ := hs
  simp only [List.cons.injEq, and_true] at e
  rw [e2] at e
  simp only [Value.slice.injEq] at e
  obtain ⟨rfl, rfl, rfl⟩ := e
  obtain ⟨ad, cs, g1, g2, g3, g4⟩ := hat i (List.getElem?_eq_some_iff.1 hi).1
  obtain ⟨b, o, cs2, k1, k2, k3, k4⟩ := h3 i x hi
  rw [g1] at k1
  obtain rfl := Option.some.inj k1
  rw [hC] at g2 g3
  have c1 := g3 0 h0
  have c2 := k3 0 h0
  rw [Addr.add_lit] at c1
  have e3 : o + (i * C + 0) = o + i * C + 0 := by omega
  rw [e3, c2, hR _ _ k4] at c1
  obtain ⟨_, hf⟩ := g4.struct hE
  obtain ⟨f, f1, f2, f3, f4⟩ := hf0
  have hq := hf 0 f f1
  rw [f2, f4, List.drop_zero] at hq
  obtain ⟨s, hs1, hs2⟩ := hq.str f3
  match cs, g2, c1, hs1 with
  | [], g2, c1, hs1 => simp at c1
  | c :: cs, g2, c1, hs1 =>
    simp at c1 hs1
    rw [hs1] at c1
    cases c1
    exact hs2
theorem open_progN {H : Type} {enc : TypeId × Value → H} {w : World} {r : Reach} {b0 : Nat} {v : Value} {d : DataW H} {p : List MemPlace} (hv : Value.okWide Tryd.prog w r b0 25 v) (h : DataW.Trod enc Tryd.prog w 0 (fun _ => true) true 25 v d p) (hw : ∀ b ∈ d.weights Tryd.prog 25, b ≤ reachBytes) :
    ∃ (x : ProgD) (vf vg : Value), v = .agg #[vf, vg, .int .i64 x.data, .int .i64 x.main] ∧ In w x vf vg ∧ (∀ g ∈ x.globals, g.name.size ≤ 140737488355328) ∧ ∀ f ∈ x.funcs, f.name.size ≤ 140737488355328 := by
  obtain ⟨cs, rfl, hr⟩ := open_structW Tryd.underlying25 hv h hw
  obtain ⟨x, vf, vg, e, h1, h2, h3, h4, h5, h6⟩ := open_ProgR hr
  obtain ⟨hl, hf⟩ := hr.struct Tryd.underlying25
  have q0 := hf 0 _ rfl
  have q1 := hf 1 _ rfl
  rw [e] at q0 q1
  have q0 : Rw enc Tryd.prog w 22 (([vf, vg, .int .i64 x.data, .int .i64 x.main].drop 0).take (Tryd.prog.cellsOf 22)) := q0
  have q1 : Rw enc Tryd.prog w 23 (([vf, vg, .int .i64 x.data, .int .i64 x.main].drop 1).take (Tryd.prog.cellsOf 23)) := q1
  rw [show Tryd.prog.cellsOf 22 = 1 by kernel_rfl] at q0
  rw [show Tryd.prog.cellsOf 23 = 1 by kernel_rfl] at q1
  refine ⟨x, vf, vg, ?_, ⟨h1, h2, h3, h4, h5, h6⟩, ?_, ?_⟩
  · congr 1
    exact Array.ext' (by simpa using e)
  · exact row_name Tryd.underlying23 Tryd.underlying30 (C := 4) (by kernel_rfl) (by decide) ⟨_, rfl, by kernel_rfl, by kernel_rfl, by kernel_rfl⟩ q1 (nm := fun g => g.name) h3 (fun cs g hg => by obtain ⟨vp, rfl, _⟩ := hg; rfl)
  · exact row_name Tryd.underlying22 Tryd.underlying52 (C := 6) (by kernel_rfl) (by decide) ⟨_, rfl, by kernel_rfl, by kernel_rfl, by kernel_rfl⟩ q0 (nm := fun f => f.name) h1 (fun cs f hg => by obtain ⟨v1, v2, v3, rfl, _⟩ := hg; rfl)
end Go.Proofs.YthpcnmjpjglmbaaDoor
