/- Walks: alloc.All. No condition. -/
import Derived.Test.YtegnaeinpacafaaAm2
import Derived.Test.YtegnaeinpacafaaOc
import Derived.Test.YtegnaeinpacafaaLt
namespace Go.Proofs.Ytegnaeinpacafaa
open Go.RowKit
set_option linter.unusedVariables false
set_option maxHeartbeats 4000000
theorem Try.infoAlloc2 : (Try.prog.info? 45).map (fun i => (i.zero, i.size, i.bytes)) = some (some (.agg #[.slice none 0 0, .int .i64 0]), 2, 32) := by kernel_rfl
/-- what a row of allocs holds for function i -/
def AllI (w : World) (B : Nat) (f : FuncD) (a b : Value) : Prop :=
  ∃ (gp R P : Nat) (pl : List Int) (cells : Nat), FnOk f R P ∧ a = .slice (some ⟨gp, 0, none⟩) R R ∧ b = .int .i64 (cells : Nat) ∧ OwnI w B a pl ∧ AllocOk f R P pl (cells : Nat)
structure AllR (w : World) (B : Nat) (v : Value) (fs : List FuncD) (k : Nat) (xs : List Value) : Prop where
  row : w.ownsRow B 45 2 v k xs
  len : xs.length = k * 2
  at_ : ∀ i f, i < k → fs[i]? = some f → ∃ a b, xs[i * 2]? = some a ∧ xs[i * 2 + 1]? = some b ∧ AllI w B f a b
theorem AllI.more {w w' : World} {B : Nat} {f : FuncD} {a b : Value} (h : AllI w B f a b) (hb : Below w.heap.size w w') : AllI w' B f a b := by
  obtain ⟨gp, R, P, pl, cells, h1, h2, h3, h4, h5⟩ := h
  exact ⟨gp, R, P, pl, cells, h1, h2, h3, own_below h4 hb, h5⟩
theorem AllR.more {w w' : World} {B k : Nat} {v : Value} {fs : List FuncD} {xs : List Value} (h : AllR w B v fs k xs) (hb : Below w.heap.size w w') : AllR w' B v fs k xs :=
  ⟨own_below h.row hb, h.len, fun i f hi hf => by
    obtain ⟨a, b, h1, h2, h3⟩ := h.at_ i f hi hf
    exact ⟨a, b, h1, h2, h3.more hb⟩⟩
theorem AllI.kept {w w' : World} {B : Nat} {f : FuncD} {a b v : Value} {k : Nat} {xs : List Value} (h : AllI w B f a b) (ho : w.ownsRow B 45 2 v k xs) (hg : w.grownBy w' v.ownBlock) : AllI w' B f a b := by
  obtain ⟨gp, R, P, pl, cells, h1, rfl, h3, h4, h5⟩ := h
  exact ⟨gp, R, P, pl, cells, h1, rfl, h3, World.ownsRow.kept h4 hg (own_ne h4 ho (by decide)), h5⟩
theorem AllR.step {w w' : World} {B k : Nat} {v v' : Value} {fs : List FuncD} {xs : List Value} {f : FuncD} {a b : Value} (h : AllR w B v fs k xs) (hf : fs[k]? = some f) (hi : AllI w B f a b) (ho : w'.ownsRow B 45 2 v' (k + 1) (xs ++ [a, b])) (hg : w.grownBy w' v.ownBlock) : AllR w' B v' fs (k + 1) (xs ++ [a, b]) := by
  refine ⟨ho, by simp [h.len]; omega, fun i g hik hgi => ?_⟩
  by_cases e : i = k
  · subst e
    rw [hf] at hgi
    cases hgi
    refine ⟨a, b, ?_, ?_, hi.kept h.row hg⟩
    · rw [List.getElem?_append_right (by rw [h.len]; omega), h.len]; simp
    · rw [List.getElem?_append_right (by rw [h.len]; omega), h.len, show i * 2 + 1 - i * 2 = 1 from by omega]; rfl
  · obtain ⟨a', b', h1, h2, h3⟩ := h.at_ i g (by omega) hgi
    refine ⟨a', b', ?_, ?_, h3.kept h.row hg⟩
    · rw [List.getElem?_append_left (by rw [h.len]; omega)]; exact h1
    · rw [List.getElem?_append_left (by rw [h.len]; omega)]; exact h2
set_option maxRecDepth 100000 in
theorem all_any (W0 w : World) (h0 : Below W0.heap.size W0 w) (p : ProgD) (A : Option Addr) (cap : Nat) (pb : Nat) (c0 : w.cell? ⟨pb, 0, none⟩ = some (.slice A p.funcs.length cap))
    (hs : SlR W0 6 (FuncR W0) (.slice A p.funcs.length cap) p.funcs) (hF : ∀ f ∈ p.funcs, ∃ R P, FnOk f R P) (hl : p.funcs.length ≤ 20) :
    Calls Try.prog 12 #[.pointer (some ⟨pb, 0, none⟩)] w fun e w' => ∃ v xs, e = .returned v ∧ AllR w' w.heap.size v p.funcs p.funcs.length xs ∧ Below w.heap.size w w' := by
  obtain ⟨_, _, hv, _, _, hi⟩ := hs
  cases hv
  have HI := Lib.hid hi
  have HF := Lib.hid hF
  have H0 := Lib.hid h0
  have HC := Lib.hid c0
  have HN := Lib.hid (show AllR w w.heap.size (.slice none 0 0) p.funcs 0 [] from ⟨World.ownsRow_nil _ _ _ _, rfl, fun i f hi => by omega⟩)
  clear hi hF h0
  go_enter Try.func12, Try.ntmps12
  go_wp2_with fail
  clear c0
  go_loopw [3, 10] (fun sv s wr => ∃ (k : Nat) (xs : List Value), k ≤ p.funcs.length ∧ s = .int .i64 k ∧ AllR wr w.heap.size sv p.funcs k xs ∧ Below w.heap.size w wr) (fun _ s _ => p.funcs.length - (intOf s).toNat)
  case atStart => exact ⟨0, [], by omega, rfl, HN.out, Below.refl _ _⟩
  case round =>
    obtain ⟨k, xs, hk, rfl, hA, hb⟩ := hrel
    have HA := Lib.hid hA
    have HB := Lib.hid hb
    obtain ⟨Ap, cp, hpv, _⟩ := own_slice hA.row
    subst hpv
    clear hA hb
    by_cases hlt : k < p.funcs.length
    · obtain ⟨f, hfk⟩ : ∃ f, p.funcs[k]? = some f := ⟨_, List.getElem?_eq_getElem hlt⟩
      obtain ⟨fb, fo, cs, hAe, e1, e2, hfr⟩ := HI.out k f hfk
      subst hAe
      obtain ⟨R, P, hFN⟩ := HF.out f (List.mem_of_getElem? hfk)
      have HFN := Lib.hid hFN
      obtain ⟨vs, vl, vb, rfl, z1, z2, z3, z4, z5, z6, z7, z8, z9⟩ := hfr
      have HW := Lib.hid (H0.out.bt HB.out)
      have r5 := later (e2 5 (by omega)) HW.out
      have r1 : wr.cell? ⟨fb, fo + k * 6 + 1, none⟩ = some (.int .i64 (P : Nat)) := by rw [← hFN.par]; exact later (e2 1 (by omega)) HW.out
      have r3 : wr.cell? ⟨fb, fo + k * 6 + 3, none⟩ = some (.int .i64 (R : Nat)) := by rw [← hFN.regs]; exact later (e2 3 (by omega)) HW.out
      have HO := Lib.hid (alloc_of W0 wr HW.out fb (fo + k * 6) f R P hFN _ r5 r3 r1 z8)
      have c0 := later HC.out HB.out
      have lp := World.block_lt_of_cell? _ _ c0
      have lf := World.block_lt_of_cell? _ _ r5
      have HK := Lib.hid hfk
      clear e1 e2 z1 z2 z3 z4 z5 z6 z7 z8 z9 hFN hfk r1 r3
      go_wp2_with fail
      refine HO.out.mono ?_
      rintro e w2 ⟨gp, pl, cells, rfl, hpl, hok, hb2⟩
      have HA2 := Lib.hid (HA.out.more hb2)
      have HI2 := Lib.hid (show AllI w2 w.heap.size f (.slice (some ⟨gp, 0, none⟩) R R) (.int .i64 (cells : Nat)) from ⟨gp, R, P, pl, cells, HFN.out, rfl, rfl, own_base hpl HB.out.size, hok⟩)
      have HB2 := Lib.hid (HB.out.trans (hb2.mono HB.out.size))
      clear hpl hok hb2 HB HA c0 lp r5 lf
      obtain ⟨i0, hi, hz0, hz1, hz2⟩ := info_parts Try.infoAlloc2
      obtain ⟨v', w', hr1, ho', hg', _⟩ := append_oneC (P := Try.prog) (w := w2) w.heap.size 53 45 i0 _ 2 32 Try.underlying53 hi hz0 hz1 hz2 rfl (by decide) _ k xs HA2.out.row #[.slice (some ⟨gp, 0, none⟩) R R, .int .i64 (cells : Nat)] rfl _ rfl (by simp [Value.oneCell']) (by unfold maxLen; omega) (by omega) HB2.out.size
      have HA3 := Lib.hid (HA2.out.step HK.out HI2.out ho' hg')
      have HB3 := Lib.hid (below_of_grown HB2.out (Nat.le_refl _) hg' (fun k hk => (World.ownsRow.lt HA2.out.row k hk).1))
      clear hi hz0 hz1 hz2 ho' hg'
      go_wp2_with (at_builtin; refine wpList_append_run' _ rfl _ _ _ rfl _ _ _ _ rfl rfl hr1 ?_)
      go_roundw
      case rel => exact ⟨k + 1, _, by omega, by go_num, HA3.out, HB3.out⟩
      case measure => first | omega | (simp [intOf]; done) | (simp [intOf]; omega)
    · have e : k = p.funcs.length := by omega
      subst e
      go_wp2_with fail
      go_returns
      exact ⟨_, xs, rfl, HA.out, HB.out⟩
end Go.Proofs.Ytegnaeinpacafaa
