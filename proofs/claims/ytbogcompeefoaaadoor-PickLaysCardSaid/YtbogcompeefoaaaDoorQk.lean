/- pick.All: the codes of all functions. pick's law: its example, walked. No condition. -/
import Derived.Test.YtbogcompeefoaaaDoorPlF
import Derived.Test.YtbogcompeefoaaaDoorQj
import Derived.Test.YtbogcompeefoaaaDoorQd
namespace Go.Proofs.YtbogcompeefoaaaDoor
open Go.RowKit
set_option linter.unusedVariables false
set_option maxHeartbeats 4000000
theorem Tryd.infoCode : (Tryd.prog.info? 35).map (fun i => (i.zero.map (·.cells.size), i.size, i.bytes)) = some (some 3, 3, 48) := by kernel_rfl
/-- what a row of codes holds for function i -/
def CodeI (w : World) (B i : Nat) (f : FuncD) (a b c : Value) : Prop :=
  ∃ (A : Option Addr) (cp : Nat) (ls : List LineD) (hot : Bool), a = .string f.name ∧ b = .slice A ls.length cp ∧ c = .bool hot ∧ w.ownsRow B 46 11 (.slice A ls.length cp) ls.length (flatL ls) ∧ Laid f.name.data.toList i f.blocks.length f.blocks.length ls ∧ ls.length ≤ 100000000 ∧ EndOk f f.blocks.length f.blocks.length ls
structure CodesR (w : World) (B : Nat) (v : Value) (fs : List FuncD) (k : Nat) (xs : List Value) : Prop where
  row : w.ownsRow B 35 3 v k xs
  len : xs.length = k * 3
  at_ : ∀ i f, i < k → fs[i]? = some f → ∃ a b c, xs[i * 3]? = some a ∧ xs[i * 3 + 1]? = some b ∧ xs[i * 3 + 2]? = some c ∧ CodeI w B i f a b c
theorem CodeI.more {w w' : World} {B i : Nat} {f : FuncD} {a b c : Value} (h : CodeI w B i f a b c) (hb : Below w.heap.size w w') : CodeI w' B i f a b c := by
  obtain ⟨A, cp, ls, hot, h1, h2, h3, h4, h5⟩ := h
  exact ⟨A, cp, ls, hot, h1, h2, h3, own_below h4 hb, h5⟩
theorem CodesR.more {w w' : World} {B k : Nat} {v : Value} {fs : List FuncD} {xs : List Value} (h : CodesR w B v fs k xs) (hb : Below w.heap.size w w') : CodesR w' B v fs k xs :=
  ⟨own_below h.row hb, h.len, fun i f hi hf => by
    obtain ⟨a, b, c, h1, h2, h3, h4⟩ := h.at_ i f hi hf
    exact ⟨a, b, c, h1, h2, h3, h4.more hb⟩⟩
theorem CodeI.kept {w w' : World} {B i : Nat} {f : FuncD} {a b c v : Value} {k : Nat} {xs : List Value} (h : CodeI w B i f a b c) (ho : w.ownsRow B 35 3 v k xs) (hg : w.grownBy w' v.ownBlock) : CodeI w' B i f a b c := by
  obtain ⟨A, cp, ls, hot, h1, h2, h3, h4, h5⟩ := h
  exact ⟨A, cp, ls, hot, h1, h2, h3, World.ownsRow.kept h4 hg (own_ne h4 ho (by decide)), h5⟩
theorem CodesR.step {w w' : World} {B k : Nat} {v v' : Value} {fs : List FuncD} {xs : List Value} {f : FuncD} {a b c : Value} (h : CodesR w B v fs k xs) (hf : fs[k]? = some f) (hi : CodeI w B k f a b c) (ho : w'.ownsRow B 35 3 v' (k + 1) (xs ++ [a, b, c])) (hg : w.grownBy w' v.ownBlock) : CodesR w' B v' fs (k + 1) (xs ++ [a, b, c]) := by
  refine ⟨ho, by simp [h.len]; omega, fun i g hik hgi => ?_⟩
  by_cases e : i = k
  · subst e
    rw [hf] at hgi
    cases hgi
    refine ⟨a, b, c, ?_, ?_, ?_, hi.kept h.row hg⟩
    · rw [List.getElem?_append_right (by rw [h.len]; omega), h.len]; simp
    · rw [List.getElem?_append_right (by rw [h.len]; omega), h.len, show i * 3 + 1 - i * 3 = 1 from by omega]; rfl
    · rw [List.getElem?_append_right (by rw [h.len]; omega), h.len, show i * 3 + 2 - i * 3 = 2 from by omega]; rfl
  · obtain ⟨a', b', c', h1, h2, h3, h4⟩ := h.at_ i g (by omega) hgi
    refine ⟨a', b', c', ?_, ?_, ?_, h4.kept h.row hg⟩
    · rw [List.getElem?_append_left (by rw [h.len]; omega)]; exact h1
    · rw [List.getElem?_append_left (by rw [h.len]; omega)]; exact h2
    · rw [List.getElem?_append_left (by rw [h.len]; omega)]; exact h3
set_option maxRecDepth 100000 in
theorem pickall_any (w : World) (p : ProgD) (pb : Nat) (hI : PIn w p pb) (hO : POk p) (B : Nat) (va : Value) (vs : List Value) (hA : AllR w B va p.funcs p.funcs.length vs) (hB : B ≤ w.heap.size) :
    Calls Tryd.prog 6 #[.pointer (some ⟨pb, 0, none⟩), va] w fun e w' => ∃ v xs, e = .returned v ∧ CodesR w' w.heap.size v p.funcs p.funcs.length xs ∧ Below w.heap.size w w' := by
  have HI := Lib.hid hI
  have HO := Lib.hid hO
  have HAl := Lib.hid hA
  obtain ⟨v, c0, hs⟩ := hI.fn
  obtain ⟨A, cap, rfl, _, _, _⟩ := hs
  have hlf := hO.lf
  have HC := Lib.hid c0
  obtain ⟨Av, cv, rfl, _⟩ := own_slice hA.row
  have HN := Lib.hid (show CodesR w w.heap.size (.slice none 0 0) p.funcs 0 [] from ⟨World.ownsRow_nil _ _ _ _, rfl, fun i f hi => by omega⟩)
  have cl := World.block_lt_of_cell? _ _ c0
  clear hI hO hA
  go_enter Tryd.func6, Tryd.ntmps6
  go_wp2_with fail
  clear c0 cl
  go_loopw [5, 12] (fun sv s wr => ∃ (k : Nat) (xs : List Value), k ≤ p.funcs.length ∧ s = .int .i64 k ∧ CodesR wr w.heap.size sv p.funcs k xs ∧ Below w.heap.size w wr) (fun _ s _ => p.funcs.length - (intOf s).toNat)
  case atStart => exact ⟨0, [], by omega, rfl, HN.out, Below.refl _ _⟩
  case round =>
    obtain ⟨k, xs, hk, rfl, hC, hb⟩ := hrel
    have HCo := Lib.hid hC
    have HB := Lib.hid hb
    obtain ⟨Ap, cp, hpv, _⟩ := own_slice hC.row
    subst hpv
    clear hC hb
    by_cases hlt : k < p.funcs.length
    · obtain ⟨f, hfk⟩ : ∃ f, p.funcs[k]? = some f := ⟨_, List.getElem?_eq_getElem hlt⟩
      have HAr := Lib.hid (HAl.out.more HB.out)
      obtain ⟨a, b, hxa, hxb, gp, R, P, pl, cells, hFN, rfl, rfl, hpl, hok⟩ := HAr.out.at_ k f hlt hfk
      obtain ⟨gl, cl, hvl, _⟩ := own_form HAr.out.row (by omega)
      simp only [Value.slice.injEq] at hvl
      obtain ⟨rfl, _, rfl⟩ := hvl
      have y0 := (World.ownsRow.cellAt HAr.out.row (k * 2) (by omega)).trans hxa
      have y1 := (World.ownsRow.cellAt HAr.out.row (k * 2 + 1) (by omega)).trans hxb
      have yl := World.block_lt_of_cell? _ _ y0
      have hF := func_any wr p pb (HI.out.later HB.out) HO.out k f hfk R P hFN gp pl cells (own_base (by have := hpl; unfold OwnI at this; rw [hok.len] at this; exact this) (Nat.zero_le _)) hok
      have HFa := Lib.hid hF
      have HK := Lib.hid hfk
      clear hF hfk hxa hxb hFN hpl hok
      go_wp2_with fail
      refine HFa.out.mono ?_
      rintro e w2 ⟨A2, c2, ls, hot, rfl, o1, o2, o3, o4, hb2⟩
      have HC2 := Lib.hid (HCo.out.more hb2)
      have HI2 := Lib.hid (show CodeI w2 w.heap.size k f (.string f.name) (.slice A2 ls.length c2) (.bool hot) from ⟨A2, c2, ls, hot, rfl, rfl, rfl, own_base o1 HB.out.size, o2, o3, o4⟩)
      have HB2 := Lib.hid (HB.out.trans (hb2.mono HB.out.size))
      clear o1 o2 o3 o4 hb2 HB HCo y0 y1 yl
      obtain ⟨i0, z0, hi, hz0, hz1, hz2, hz3⟩ := info_partsC Tryd.infoCode
      obtain ⟨v', w', hr1, ho', hg', _⟩ := append_oneC (P := Tryd.prog) (w := w2) w.heap.size 28 35 i0 z0 3 48 Tryd.underlying28 hi hz0 hz2 hz3 hz1 (by decide) _ k xs HC2.out.row #[.string f.name, .slice A2 ls.length c2, .bool hot] rfl _ rfl (by simp [Value.oneCell']) (by unfold maxLen; omega) (by omega) HB2.out.size
      have HC3 := Lib.hid (HC2.out.step HK.out HI2.out ho' hg')
      have HB3 := Lib.hid (below_of_grown HB2.out (Nat.le_refl _) hg' (fun k hk => (World.ownsRow.lt HC2.out.row k hk).1))
      clear hi hz0 hz1 hz2 hz3 ho' hg'
      go_wp2_with (at_builtin; refine wpList_append_run' _ rfl _ _ _ rfl _ _ _ _ rfl rfl hr1 ?_)
      go_roundw
      case rel => exact ⟨k + 1, _, by omega, by go_num, HC3.out, HB3.out⟩
      case measure => first | omega | (simp [intOf]; done) | (simp [intOf]; omega)
    · have e : k = p.funcs.length := by omega
      subst e
      go_wp2_with fail
      go_returns
      exact ⟨_, xs, rfl, HCo.out, HB.out⟩
end Go.Proofs.YtbogcompeefoaaaDoor
namespace Go.Proofs.YtbogcompeefoaaaDoor
open Go.RowKit
set_option linter.unusedVariables false
set_option maxHeartbeats 4000000
theorem n_any (w : World) (n : Int) (h : In64 n) : Calls Tryd.prog 12 #[.int .i64 n] w fun e w' => e = .returned (.agg #[.int .i64 (-1), .int .i64 n]) ∧ Below w.heap.size w w' := by
  go_enter Tryd.func12, Tryd.ntmps12
  go_wp2_with fail
  go_returns
  exact ⟨rfl, below_alloc _ (Below.refl _ _)⟩
theorem slr0 {α : Type} (w : World) (C : Nat) (R : List Value → α → Prop) : SlR w C R (.slice none 0 0) [] := ⟨none, 0, rfl, Nat.le_refl _, by decide, fun i x hi => by simp at hi⟩
theorem slr1 {α : Type} {w : World} {C g : Nat} {R : List Value → α → Prop} {cs : List Value} {T : TypeId} {x : α} (h : w.heap[g]? = some (.cells cs.toArray T (0, 0))) (hl : cs.length = C) (hR : R cs x) : SlR w C R (.slice (some ⟨g, 0, none⟩) 1 1) [x] := by
  refine ⟨_, 1, rfl, Nat.le_refl _, by decide, fun i y hi => ?_⟩
  obtain rfl : i = 0 := by have := (List.getElem?_eq_some_iff.1 hi).1; simpa using this
  obtain rfl : x = y := by simpa using hi
  refine ⟨g, 0, cs, rfl, hl, fun j hj => ?_, hR⟩
  rw [Nat.zero_mul, Nat.zero_add]
  obtain ⟨v, hv⟩ : ∃ v, cs[j]? = some v := ⟨_, List.getElem?_eq_getElem (by omega)⟩
  rw [hv]
  exact blk_cell h (by simpa using hv)
/-- three lines at least, where a block stands and the last one does something -/
theorem Laid.three {nm : List UInt8} {num nb : Nat} {ls : List LineD} (h : Laid nm num nb nb ls) (h0 : 0 < nb) {l : LineD} (hl : ls.getLast? = some l) (ho : l.op ≠ 0) : 3 ≤ ls.length := by
  obtain ⟨a, ha, ha2⟩ := h.first
  obtain ⟨b, hb, hb2⟩ := h.has 0 h0
  obtain ⟨k, hk⟩ := List.mem_iff_getElem?.1 hb
  rw [List.getLast?_eq_getElem?] at hl
  have hk2 := (List.getElem?_eq_some_iff.1 hk).1
  have hl2 := (List.getElem?_eq_some_iff.1 hl).1
  have e1 : k ≠ 0 := fun e => by
    subst e
    rw [ha] at hk
    cases hk
    rw [ha2] at hb2
    simp [fnB, labB] at hb2
  have e2 : k ≠ ls.length - 1 := fun e => by
    subst e
    rw [hl] at hk
    cases hk
    exact ho (h.lab _ _ hl (by rw [hb2]; exact labB_ne _ _)).1
  omega
def fitB : BlockD := ⟨[], ⟨3, 0, ⟨-1, 7⟩, ⟨0, 0⟩, 0, 0⟩⟩
def fitF : FuncD := ⟨⟨#[109, 97, 105, 110]⟩, 0, [], 0, [], [fitB]⟩
def fitP : ProgD := ⟨[fitF], [], 0, 0⟩
set_option maxRecDepth 100000 in
theorem fit_any (w : World) (hT : TabP w) (hpw : PowOk w) : Calls Tryd.prog 4 #[] w fun e w' => e = .returned (.bool true) ∧ Below w.heap.size w w' := by
  have HT := Lib.hid hT
  have HPw := Lib.hid hpw
  clear hT hpw
  go_enter Tryd.func4, Tryd.ntmps4
  go_wp2_with fail
  refine (n_any _ 7 ⟨by decide, by decide⟩).mono ?_
  rintro e w1 ⟨rfl, hb1⟩
  have HB1 := Lib.hid hb1
  clear hb1
  go_upto_region 2 with (fail)
  obtain ⟨g0, hg0⟩ : ∃ z, z = w1.heap.size := ⟨_, rfl⟩
  obtain ⟨g1, hg1⟩ : ∃ z, z = w1.heap.size + 1 := ⟨_, rfl⟩
  obtain ⟨g2, hg2⟩ : ∃ z, z = w1.heap.size + 1 + 1 := ⟨_, rfl⟩
  rw [← hg2, ← hg1, ← hg0]
  have x0 := blk_new w1 (.cells #[.slice none 0 0, .int .i64 3, .int .i64 0, .int .i64 (-1), .int .i64 7, .int .i64 0, .int .i64 0, .int .i64 0, .int .i64 0] 58)
  have b0 := below_alloc (.cells #[.slice none 0 0, .int .i64 3, .int .i64 0, .int .i64 (-1), .int .i64 7, .int .i64 0, .int .i64 0, .int .i64 0, .int .i64 0] 58) (Below.refl w1.heap.size w1)
  rw [← hg0] at x0
  obtain ⟨wa, hwa⟩ : ∃ z, z = w1.alloc (.cells #[.slice none 0 0, .int .i64 3, .int .i64 0, .int .i64 (-1), .int .i64 7, .int .i64 0, .int .i64 0, .int .i64 0, .int .i64 0] 58) := ⟨_, rfl⟩
  have ea : wa.heap.size = g1 := by rw [hwa, hg1]; exact World.size_alloc _ _
  rw [← hwa] at x0 b0 ⊢
  have x1 := blk_new wa (.cells #[.string ⟨#[109, 97, 105, 110]⟩, .int .i64 0, .slice none 0 0, .int .i64 0, .slice none 0 0, .slice (some ⟨g0, 0, none⟩) 1 1] 40)
  have b1 := below_alloc (.cells #[.string ⟨#[109, 97, 105, 110]⟩, .int .i64 0, .slice none 0 0, .int .i64 0, .slice none 0 0, .slice (some ⟨g0, 0, none⟩) 1 1] 40) (Below.refl wa.heap.size wa)
  obtain ⟨wb, hwb⟩ : ∃ z, z = wa.alloc (.cells #[.string ⟨#[109, 97, 105, 110]⟩, .int .i64 0, .slice none 0 0, .int .i64 0, .slice none 0 0, .slice (some ⟨g0, 0, none⟩) 1 1] 40) := ⟨_, rfl⟩
  have eb : wb.heap.size = g2 := by rw [hwb, World.size_alloc, ea, hg1, hg2]
  rw [ea] at x1
  rw [← hwb] at x1 b1 ⊢
  have x2 := blk_new wb (.cells #[.slice (some ⟨g1, 0, none⟩) 1 1, .slice none 0 0, .int .i64 0, .int .i64 0] 25)
  have b2 := below_alloc (.cells #[.slice (some ⟨g1, 0, none⟩) 1 1, .slice none 0 0, .int .i64 0, .int .i64 0] 25) (Below.refl wb.heap.size wb)
  obtain ⟨wc, hwc⟩ : ∃ z, z = wb.alloc (.cells #[.slice (some ⟨g1, 0, none⟩) 1 1, .slice none 0 0, .int .i64 0, .int .i64 0] 25) := ⟨_, rfl⟩
  rw [eb] at x2
  rw [← hwc] at x2 b2 ⊢
  have x0 := blk_below (blk_below x0 b1) b2
  have x1 := blk_below x1 b2
  have HB2 := Lib.hid (HB1.out.bt (below_over (below_over b0 b1) b2))
  have i64 : ∀ n : Int, -1 ≤ n → n ≤ 7 → In64 n := fun n h1 h2 => ⟨by omega, by omega⟩
  have hB : BlockR wc [.slice none 0 0, .int .i64 3, .int .i64 0, .int .i64 (-1), .int .i64 7, .int .i64 0, .int .i64 0, .int .i64 0, .int .i64 0] fitB := ⟨_, rfl, slr0 _ _ _, by decide, i64 _ (by decide) (by decide), i64 _ (by decide) (by decide), i64 _ (by decide) (by decide), i64 _ (by decide) (by decide), i64 _ (by decide) (by decide), i64 _ (by decide) (by decide), i64 _ (by decide) (by decide), i64 _ (by decide) (by decide)⟩
  have hF : FuncR wc [.string ⟨#[109, 97, 105, 110]⟩, .int .i64 0, .slice none 0 0, .int .i64 0, .slice none 0 0, .slice (some ⟨g0, 0, none⟩) 1 1] fitF := ⟨_, _, _, rfl, by decide, i64 _ (by decide) (by decide), slr0 _ _ _, by decide, i64 _ (by decide) (by decide), slr0 _ _ _, by decide, slr1 x0 rfl hB, by decide⟩
  have hS : SlR wc 6 (FuncR wc) (.slice (some ⟨g1, 0, none⟩) 1 1) fitP.funcs := slr1 x1 rfl hF
  have c0 : wc.cell? ⟨g2, 0, none⟩ = some (.slice (some ⟨g1, 0, none⟩) 1 1) := blk_cell x2 rfl
  have c1 : wc.cell? ⟨g2, 1, none⟩ = some (.slice none 0 0) := blk_cell x2 rfl
  have HI := Lib.hid (show PIn wc fitP g2 from ⟨⟨_, c0, hS⟩, ⟨_, c1, slr0 _ _ _⟩, HT.out.later HB2.out, HPw.out.below HB2.out⟩)
  have hok : FuncOk fitP fitF := ⟨⟨by decide, by decide, by decide, by decide, by decide⟩, fun b hb => by
    obtain rfl : b = fitB := by simpa [fitF] using hb
    refine ⟨fun x hx => by simp [fitB] at hx, by decide, by decide, by decide, fun h => by simp [fitB] at h, fun n hn => by simp [nextT, fitB] at hn⟩⟩
  have hfl : FuncL fitF := ⟨by decide, by decide, by decide, ⟨by decide, fun h => by simp [fitF] at h, fun z hz => by simp [fitF] at hz⟩, fun b hb => by
    obtain rfl : b = fitB := by simpa [fitF] using hb
    exact ⟨by decide, fun x hx => by simp [fitB] at hx⟩⟩
  have HO := Lib.hid (show POk fitP from ⟨by decide, by decide, fun f hf => by
    obtain rfl : f = fitF := by simpa [fitP] using hf
    exact hok, fun f hf => by
    obtain rfl : f = fitF := by simpa [fitP] using hf
    exact hfl, fun f hf => by
    obtain rfl : f = fitF := by simpa [fitP] using hf
    decide, fun f hf => by simp [fitP] at hf⟩)
  have HAA := Lib.hid (all_any wc wc (Below.refl _ _) fitP _ 1 g2 c0 hS (fun f hf => by
    obtain rfl : f = fitF := by simpa [fitP] using hf
    exact FnOk.of hok hfl) (by decide))
  clear hok hfl hB hF hS i64 b0 b1 b2 x0 x1 x2 c0 c1 eb ea hwa hwb hwc hg0 hg1 hg2
  go_wp2_with fail
  refine HAA.out.mono ?_
  rintro e w4 ⟨va, vs, rfl, hA, hb4⟩
  have HAl := Lib.hid hA
  have HB4 := Lib.hid hb4
  obtain ⟨Av, cv, rfl, _⟩ := own_slice hA.row
  clear hA hb4 HAA
  go_wp2_with fail
  refine (pickall_any w4 fitP g2 (HI.out.later HB4.out) HO.out wc.heap.size _ vs HAl.out HB4.out.size).mono ?_
  rintro e w5 ⟨vc, xs, rfl, hC, hb5⟩
  have HB5 := Lib.hid (HB2.out.bt (below_over HB4.out hb5))
  obtain ⟨a, b, c, y0, y1, y2, A5, cp, ls, hot, rfl, rfl, rfl, hrow, hLd, hlen, hE1, hE2⟩ := hC.at_ 0 fitF (by decide) rfl
  obtain ⟨gr, cr, hvl, _⟩ := own_form hC.row (by decide)
  subst hvl
  obtain ⟨l, hl, hlo⟩ := hE2 (by decide) (fun b hb => by
    obtain rfl : b = fitB := by simpa [fitF] using hb
    rfl)
  have h3 := hLd.three (by decide) hl (by omega)
  obtain ⟨gl, cl, hvl2, _⟩ := own_form hrow (by omega)
  simp only [Value.slice.injEq] at hvl2
  obtain ⟨rfl, _, rfl⟩ := hvl2
  obtain ⟨l0, hl0, hl0n⟩ := hLd.first
  have hLR := linR_of hrow
  obtain ⟨t, ht⟩ : ∃ t, ls.length = t + 1 := ⟨ls.length - 1, by omega⟩
  rw [List.getLast?_eq_getElem?, ht, Nat.add_sub_cancel] at hl
  have z0 : w5.cell? ⟨gr, 0, none⟩ = some (.string ⟨#[109, 97, 105, 110]⟩) := (World.ownsRow.cellAt hC.row 0 (by decide)).trans y0
  have z1 : w5.cell? ⟨gr, 1, none⟩ = some (.slice (some ⟨gl, 0, none⟩) (t + 1) cp) := by rw [← ht]; exact (World.ownsRow.cellAt hC.row 1 (by decide)).trans y1
  have z2 : w5.cell? ⟨gl, 0, none⟩ = some (.string ⟨#[95, 109, 97, 105, 110]⟩) := by
    have := hLR 0 l0 0 _ hl0 rfl
    rw [hl0n] at this
    exact this
  have z3 : w5.cell? ⟨gl, t * 11 + 1, none⟩ = some (.int .i64 38) := by
    have := hLR t l 1 _ hl rfl
    rw [hlo] at this
    exact this
  have zl := World.block_lt_of_cell? _ _ z0
  have zl2 := World.block_lt_of_cell? _ _ z2
  have ht2 : 2 ≤ t := by omega
  have ht3 : t ≤ 100000000 := by omega
  have d1 : decide ((t : Int) + 1 ≥ 3) = true := decide_eq_true (by omega)
  have d2 : decide (3 ≤ (t : Int) + 1) = true := decide_eq_true (by omega)
  clear hC hb5 y0 y1 y2 hrow hLd hlen hE1 hE2 hl hlo h3 hl0 hl0n hLR ht
  go_upto_region 3 with (fail)
  rw [show fitP.funcs.length = 1 from rfl]
  go_quiet (fail)
  go_wp2_with fail
  go_returns
  exact ⟨rfl, below_drewN HB5.out _⟩
end Go.Proofs.YtbogcompeefoaaaDoor
