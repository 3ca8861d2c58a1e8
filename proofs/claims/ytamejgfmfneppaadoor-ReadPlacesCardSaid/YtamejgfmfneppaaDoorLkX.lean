/- ReadPlaces: what Link answers for the law's program. No condition. -/
import Derived.Test.YtamejgfmfneppaaDoorLkK
import Derived.Test.YtamejgfmfneppaaDoorLkR
namespace Go.Proofs.YtamejgfmfneppaaDoor
open Go.RowKit
set_option linter.unusedVariables false
theorem zsum_dataB (n : Nat) : zsum (dataB n) = n + 3 := by
  simp [zsum, dataB]
theorem len_codeY (back : Bool) (b n : Nat) : (codeY back b n).length = b + 5 := by
  cases back <;> simp [codeY, rowY] <;> omega
theorem link_ok {w0 w' : World} {e : Ending} {n b : Nat} {back : Bool} (hn : n < 50) (h : LinkOut w0 ⟨dataB n, codeB back b⟩ rt e w') :
    ∃ gi gd N vc vs ss, e = .returned (.tuple #[.pointer (some ⟨gi, 0, none⟩), .int .i64 0]) ∧ ImgY w' gi gd N (n + 3) vc vs 0 ∧ RowX w' w0.heap.size vc (codeY back b n) ∧ RowS w' w0.heap.size vs ss ∧ ss.length = b + 5 ∧
      (∀ i, i < b + 5 → ss[i]? = some (lastCall ((codeY back b n).take i))) ∧ Below w0.heap.size w0 w' := by
  have hd := data_fold n hn
  obtain ⟨at0, hc⟩ := code_fold back b n
  obtain ⟨ss0, hl⟩ := ln_fold back b n
  rcases h with ⟨gi, gd, N, ps1, at_, ps, cs, st, xs, ss, vc, vs, rfl, h1, h2, h3, h4, h5, h6, h7, h8, h9⟩ | ⟨v, er, rfl, h0, hb, h1⟩
  · simp only at h1 h2 h4
    rw [hd] at h1
    simp only [Except.ok.injEq, Prod.mk.injEq] at h1
    obtain ⟨_, rfl⟩ := h1
    rw [hc] at h2
    simp only [Except.ok.injEq, Prod.mk.injEq] at h2
    obtain ⟨_, rfl, rfl⟩ := h2
    rw [hl] at h4
    simp only [Except.ok.injEq, Prod.mk.injEq] at h4
    obtain ⟨rfl, rfl⟩ := h4
    have hst : st = 0 := by
      have e : lookI (csC back b) startL = some 0 := rfl
      rw [e] at h3
      simpa using h3.symm
    subst hst
    obtain ⟨s1, s2⟩ := ln_sites rt (psC back b n) (csC back b) _ _ _ hl rfl (fun i hi => by simp at hi)
    simp only [len_codeY] at s1 s2
    rw [show zsum (XProgD.mk (dataB n) (codeB back b)).data = n + 3 from zsum_dataB n] at h5
    exact ⟨gi, gd, N, vc, vs, ss0, rfl, h5, h6, h7, s1, s2, h9⟩
  · exfalso
    simp only at h1
    rw [hd] at h1
    rcases h1 with h1 | ⟨m, ps1, h1, h2⟩
    · cases h1
    · simp only [Except.ok.injEq, Prod.mk.injEq] at h1
      obtain ⟨_, rfl⟩ := h1
      rw [hc] at h2
      rcases h2 with h2 | ⟨at_, ps, cs, h2, h3⟩
      · cases h2
      · simp only [Except.ok.injEq, Prod.mk.injEq] at h2
        obtain ⟨_, rfl, rfl⟩ := h2
        rcases h3 with h3 | h3
        · cases h3
        · rw [hl] at h3; cases h3
theorem codeY_at (b n i : Nat) (hi : i < 4) : (codeY false b n)[b + 1 + i]? = some ((rowY false b n)[i]'(by simp [rowY]; omega)) := by
  simp only [codeY, Bool.false_eq_true, if_false, List.nil_append]
  rw [List.getElem?_append_right (by simp; omega), List.length_replicate, show b + 1 + i - b = i + 1 by omega, List.singleton_append, List.getElem?_cons_succ]
  exact List.getElem?_eq_getElem _
/-- an instruction's number, in memory -/
theorem RowX.imm {w : World} {B cap n i : Nat} {A : Option Addr} {xs : List XInsD} {x : XInsD} (h : RowX w B (.slice A n cap) xs) (hn : xs.length = n) (hx : xs[i]? = some x) : ∃ g, A = some ⟨g, 0, none⟩ ∧ w.cell? ⟨g, i * 8 + 3, none⟩ = some (.int .i64 x.imm) := by
  subst hn
  have hlt := (List.getElem?_eq_some_iff.1 hx).1
  obtain ⟨g, c, e, h1, h2, h3, h4⟩ := own_form h (by omega)
  simp only [Value.slice.injEq] at e
  obtain ⟨rfl, _, rfl⟩ := e
  refine ⟨g, rfl, ?_⟩
  rw [World.ownsRow.cellAt h (i * 8 + 3) (by omega)]
  have key : ∀ (ys : List XInsD) (i : Nat) (x : XInsD), ys[i]? = some x → (ys.map insV).flatten[i * 8 + 3]? = some (.int .i64 x.imm) := by
    intro ys
    induction ys with
    | nil => intro i x h; simp at h
    | cons y ys ih =>
      intro i x h
      match i, h with
      | 0, h =>
        simp only [List.getElem?_cons_zero, Option.some.injEq] at h
        subst h
        simp [insV]
      | i + 1, h =>
        simp only [List.getElem?_cons_succ] at h
        have h2 := ih i x h
        rw [List.map_cons, List.flatten_cons, List.getElem?_append_right (by simp [insV]; omega)]
        rw [show (i + 1) * 8 + 3 - (insV y).length = i * 8 + 3 by simp [insV]; omega]
        exact h2
  exact key xs i x hx
theorem RowS.at_ {w : World} {B cap n i : Nat} {A : Option Addr} {xs : List Bool} {x : Bool} (h : RowS w B (.slice A n cap) xs) (hn : xs.length = n) (hx : xs[i]? = some x) : ∃ g, A = some ⟨g, 0, none⟩ ∧ w.cell? ⟨g, i, none⟩ = some (.bool x) := by
  subst hn
  have hlt := (List.getElem?_eq_some_iff.1 hx).1
  obtain ⟨g, c, e, h1, h2, h3, h4⟩ := own_form h (by omega)
  simp only [Value.slice.injEq] at e
  obtain ⟨rfl, _, rfl⟩ := e
  refine ⟨g, rfl, ?_⟩
  have := World.ownsRow.cellAt h i (by omega)
  rw [this, List.getElem?_map, hx]
  rfl
end Go.Proofs.YtamejgfmfneppaaDoor
