/- Plain facts: places by colours, with cells of memory for those without one. Walks: alloc.Of. Walks: alloc.All. No condition. -/
import Derived.Test.YtbogcompeefoaaaDoorGc3
import Derived.Test.YtbogcompeefoaaaDoorQi
import Derived.Test.YtbogcompeefoaaaDoorQb
import Derived.Test.YtbogcompeefoaaaDoorLt
namespace Go.Proofs.YtbogcompeefoaaaDoor
open Go.RowKit
set_option linter.unusedVariables false
noncomputable def gEF (f : FuncD) (R P : Nat) : Nat → Nat → Bool := parE (iB f 0) (blE R (blkF f) (oB f) f.blocks.length) P 0
noncomputable def gMF (f : FuncD) : Nat → Bool := blM (blkF f) (oB f) f.blocks.length
/-- live behind instruction j of block m -/
noncomputable def bhF (f : FuncD) (m j : Nat) : Nat → Bool := bsS (endS (blkF f) (oB f) m) ((blkF f m).ins.drop (j + 1))
theorem insEk_up {R : Nat} {S : Nat → Bool} {x : InsD} {E : Nat → Nat → Bool} {a b : Nat} (h : E a b = true) : insEk R S x E a b = true := by unfold insEk; rw [h]; rfl
theorem bsE_up {R : Nat} {S : Nat → Bool} {E : Nat → Nat → Bool} {a b : Nat} (h : E a b = true) : ∀ xs, bsE R S E xs a b = true
  | [] => h
  | x :: xs => insEk_up (bsE_up h xs)
theorem bsE_drop {R : Nat} {S : Nat → Bool} {E : Nat → Nat → Bool} {a b : Nat} : ∀ (l : List InsD) (j : Nat), bsE R S E (l.drop j) a b = true → bsE R S E l a b = true
  | [], j, h => by simpa using h
  | x :: xs, 0, h => h
  | x :: xs, j + 1, h => insEk_up (bsE_drop xs j h)
theorem insM_up {S : Nat → Bool} {x : InsD} {M : Nat → Bool} {r : Nat} (h : M r = true) : insM S x M r = true := by unfold insM; rw [h]; rfl
theorem bsM_up {S : Nat → Bool} {M : Nat → Bool} {r : Nat} (h : M r = true) : ∀ xs, bsM S M xs r = true
  | [] => h
  | x :: xs => insM_up (bsM_up h xs)
theorem bsM_drop {S : Nat → Bool} {M : Nat → Bool} {r : Nat} : ∀ (l : List InsD) (j : Nat), bsM S M (l.drop j) r = true → bsM S M l r = true
  | [], j, h => by simpa using h
  | x :: xs, 0, h => h
  | x :: xs, j + 1, h => insM_up (bsM_drop xs j h)
theorem blE_up {R : Nat} {blk : Nat → BlockD} {O : Nat → Nat → Bool} {a b i : Nat} (h : blE R blk O i a b = true) : ∀ n, i ≤ n → blE R blk O n a b = true
  | 0, hn => by obtain rfl : i = 0 := by omega
                exact h
  | n + 1, hn => by
    by_cases e : i = n + 1
    · subst e; exact h
    · exact bsE_up (blE_up h n (by omega)) _
theorem blM_up {blk : Nat → BlockD} {O : Nat → Nat → Bool} {r i : Nat} (h : blM blk O i r = true) : ∀ n, i ≤ n → blM blk O n r = true
  | 0, hn => by obtain rfl : i = 0 := by omega
                exact h
  | n + 1, hn => by
    by_cases e : i = n + 1
    · subst e; exact h
    · exact bsM_up (blM_up h n (by omega)) _
theorem ev_edge {f : FuncD} {R P m j d r : Nat} {x : InsD} (hm : m < f.blocks.length) (hx : (blkF f m).ins[j]? = some x) (hr : r < R) (hd : x.dst = (d : Int)) (hs : bhF f m j r = true) (hne : d ≠ r) (hc : ¬ (x.op = 2 ∧ x.a.reg = (r : Int))) : gEF f R P d r = true := by
  have h1 : insEk R (bhF f m j) x (bsE R (endS (blkF f) (oB f) m) (blE R (blkF f) (oB f) m) ((blkF f m).ins.drop (j + 1))) d r = true := by
    unfold insEk evB
    rw [hs, hd, decide_eq_true rfl, decide_eq_true hr, decide_eq_false (show ¬ ((d : Int) = (r : Int)) by omega)]
    have : (decide (x.op = 2) && decide (x.a.reg = (r : Int))) = false := by
      cases h : (decide (x.op = 2) && decide (x.a.reg = (r : Int)))
      · rfl
      · simp only [Bool.and_eq_true, decide_eq_true_eq] at h
        exact absurd h hc
    rw [this]; simp
  have h2 : bsE R (endS (blkF f) (oB f) m) (blE R (blkF f) (oB f) m) ((blkF f m).ins.drop j) d r = true := by rw [drop_cons hx]; exact h1
  have h3 : blE R (blkF f) (oB f) (m + 1) d r = true := bsE_drop _ _ h2
  unfold gEF parE
  rw [blE_up h3 f.blocks.length (by omega)]
  rfl
theorem ev_mem {f : FuncD} {m j r : Nat} {x : InsD} (hm : m < f.blocks.length) (hx : (blkF f m).ins[j]? = some x) (hs : bhF f m j r = true) (hne : x.dst ≠ (r : Int)) (hc : callB x = true) : gMF f r = true := by
  have h1 : insM (bhF f m j) x (bsM (endS (blkF f) (oB f) m) (blM (blkF f) (oB f) m) ((blkF f m).ins.drop (j + 1))) r = true := by
    unfold insM
    rw [hs, hc, decide_eq_false hne]; simp
  have h2 : bsM (endS (blkF f) (oB f) m) (blM (blkF f) (oB f) m) ((blkF f m).ins.drop j) r = true := by rw [drop_cons hx]; exact h1
  have h3 : blM (blkF f) (oB f) (m + 1) r = true := bsM_drop _ _ h2
  exact blM_up h3 f.blocks.length (by omega)
theorem ev_par {f : FuncD} {R P a b : Nat} (ha : a < P) (hb : b < P) (hne : a ≠ b) (h : iB f 0 a = true ∨ iB f 0 b = true) : gEF f R P a b = true := by
  unfold gEF parE
  rw [decide_eq_true ha, decide_eq_true hb, decide_eq_false hne]
  rcases h with h | h <;> rw [h] <;> simp
structure AllocOk (f : FuncD) (R P : Nat) (pl : List Int) (cells : Int) : Prop where
  len : pl.length = R
  rng : ∀ (i : Nat) (x : Int), pl[i]? = some x → 0 ≤ x ∧ (5 ≤ x → x - 5 < cells)
  c0 : 0 ≤ cells ∧ cells ≤ R
  edge : ∀ (a b : Nat) (x : Int), a ≠ b → pl[a]? = some x → pl[b]? = some x → gEF f R P a b = false
  mem : ∀ (r : Nat) (x : Int), pl[r]? = some x → gMF f r = true → 5 ≤ x
/-- the first j are given cells -/
structure Rep (pl0 pl : List Int) (R j c : Nat) : Prop where
  len : pl.length = R
  cj : c ≤ j
  at_ : ∀ (i : Nat) (x : Int), pl[i]? = some x → (j ≤ i ∧ pl0[i]? = some x) ∨ (i < j ∧ 0 ≤ x ∧ pl0[i]? = some x) ∨ (i < j ∧ 5 ≤ x ∧ x - 5 < (c : Int) ∧ pl0[i]? = some (-1))
  big : ∀ (a b : Nat) (x : Int), a < j → b < j → a ≠ b → pl[a]? = some x → pl[b]? = some x → 5 ≤ x → pl0[a]? = some (-1) → pl0[b]? = some (-1) → False
theorem Rep.zero {pl : List Int} {R : Nat} (h : pl.length = R) : Rep pl pl R 0 0 := ⟨h, Nat.le_refl _, fun i x hx => Or.inl ⟨by omega, hx⟩, fun a b x ha => by omega⟩
theorem Rep.keep {pl0 pl : List Int} {R j c : Nat} {x : Int} (h : Rep pl0 pl R j c) (hx : pl[j]? = some x) (h0 : 0 ≤ x) : Rep pl0 pl R (j + 1) c := by
  have hp : pl0[j]? = some x := by
    rcases h.at_ j x hx with h1 | h1 | h1
    · exact h1.2
    · omega
    · omega
  refine ⟨h.len, by have := h.cj; omega, fun i y hy => ?_, fun a b y ha hb hab hya hyb hy pa pb => ?_⟩
  · by_cases e : i = j
    · subst e
      rw [hx] at hy
      cases hy
      exact Or.inr (Or.inl ⟨by omega, h0, hp⟩)
    · rcases h.at_ i y hy with h1 | h1 | h1
      · exact Or.inl ⟨by omega, h1.2⟩
      · exact Or.inr (Or.inl ⟨by omega, h1.2⟩)
      · exact Or.inr (Or.inr ⟨by omega, h1.2⟩)
  · have na : a ≠ j := fun e => by
      subst e
      rw [hp] at pa
      simp only [Option.some.injEq] at pa
      omega
    have nb : b ≠ j := fun e => by
      subst e
      rw [hp] at pb
      simp only [Option.some.injEq] at pb
      omega
    exact h.big a b y (by omega) (by omega) hab hya hyb hy pa pb
theorem Rep.cell {pl0 pl : List Int} {R j c : Nat} (h : Rep pl0 pl R j c) (hx : pl[j]? = some (-1)) : Rep pl0 (pl.set j (5 + (c : Int))) R (j + 1) (c + 1) := by
  have hj := (List.getElem?_eq_some_iff.1 hx).1
  have hp : pl0[j]? = some (-1) := by
    rcases h.at_ j _ hx with h1 | h1 | h1
    · exact h1.2
    · omega
    · omega
  have at2 : ∀ (i : Nat) (y : Int), (pl.set j (5 + (c : Int)))[i]? = some y → (i = j ∧ y = 5 + (c : Int)) ∨ (i ≠ j ∧ pl[i]? = some y) := fun i y hy => by
    by_cases e : i = j
    · subst e
      rw [List.getElem?_set_self hj] at hy
      simp only [Option.some.injEq] at hy
      exact Or.inl ⟨rfl, hy.symm⟩
    · rw [List.getElem?_set_ne (Ne.symm e)] at hy
      exact Or.inr ⟨e, hy⟩
  have small : ∀ (i : Nat) (y : Int), i < j → pl[i]? = some y → pl0[i]? = some (-1) → y - 5 < (c : Int) := fun i y hi hy h0 => by
    rcases h.at_ i y hy with h1 | h1 | h1
    · omega
    · rw [h1.2.2] at h0
      simp only [Option.some.injEq] at h0
      omega
    · exact h1.2.2.1
  refine ⟨by simp [h.len], by have := h.cj; omega, fun i y hy => ?_, fun a b y ha hb hab hya hyb hy pa pb => ?_⟩
  · rcases at2 i y hy with ⟨rfl, rfl⟩ | ⟨e, hy⟩
    · exact Or.inr (Or.inr ⟨by omega, by omega, by omega, hp⟩)
    · rcases h.at_ i y hy with h1 | h1 | h1
      · exact Or.inl ⟨by omega, h1.2⟩
      · exact Or.inr (Or.inl ⟨by omega, h1.2⟩)
      · exact Or.inr (Or.inr ⟨by omega, h1.2.1, by omega, h1.2.2.2⟩)
  · rcases at2 a y hya with ⟨ea, hya'⟩ | ⟨ea, hya'⟩
    · rcases at2 b y hyb with ⟨eb, hyb'⟩ | ⟨eb, hyb'⟩
      · exact hab (ea.trans eb.symm)
      · have := small b y (by omega) hyb' pb
        omega
    · rcases at2 b y hyb with ⟨eb, hyb'⟩ | ⟨eb, hyb'⟩
      · have := small a y (by omega) hya' pa
        omega
      · exact h.big a b y (by omega) (by omega) hab hya' hyb' hy pa pb
theorem Rep.done {f : FuncD} {R P c : Nat} {us : List Int} {pl0 pl : List Int} (h : Rep pl0 pl R R c) (hf : Fits (gEF f R P) (candB (gMF f) us) R 5 pl0) : AllocOk f R P pl c := by
  have key : ∀ (i : Nat) (x : Int), pl[i]? = some x → (0 ≤ x ∧ x < 5 ∧ pl0[i]? = some x ∧ gMF f i = false) ∨ (5 ≤ x ∧ x - 5 < (c : Int) ∧ pl0[i]? = some (-1)) := fun i x hx => by
    have hi := (List.getElem?_eq_some_iff.1 hx).1
    have hl := h.len
    rcases h.at_ i x hx with h1 | h1 | h1
    · omega
    · rcases hf.rng i x h1.2.2 with h2 | h2
      · omega
      · have h3 := h2.2.2
        unfold candB at h3
        rw [Bool.and_eq_true] at h3
        exact Or.inl ⟨h1.2.1, by omega, h1.2.2, by simpa using h3.1⟩
    · exact Or.inr ⟨h1.2.1, h1.2.2.1, h1.2.2.2⟩
  refine ⟨h.len, fun i x hx => ?_, ⟨by omega, by have := h.cj; omega⟩, fun a b x hab ha hb => ?_, fun r x hx hm => ?_⟩
  · rcases key i x hx with h1 | h1
    · exact ⟨h1.1, fun h5 => by omega⟩
    · exact ⟨by omega, fun _ => h1.2.1⟩
  · have la := (List.getElem?_eq_some_iff.1 ha).1
    have lb := (List.getElem?_eq_some_iff.1 hb).1
    have hl := h.len
    rcases key a x ha with h1 | h1
    · rcases key b x hb with h2 | h2
      · exact hf.unl a b x hab h1.2.2.1 h2.2.2.1 h1.1
      · omega
    · rcases key b x hb with h2 | h2
      · omega
      · exact (h.big a b x (by omega) (by omega) hab ha hb h1.1 h1.2.2 h2.2.2).elim
  · rcases key r x hx with h1 | h1
    · rw [h1.2.2.2] at hm; cases hm
    · exact h1.1
end Go.Proofs.YtbogcompeefoaaaDoor
namespace Go.Proofs.YtbogcompeefoaaaDoor
open Go.RowKit
set_option linter.unusedVariables false
set_option maxHeartbeats 4000000
theorem of_fn2 (W0 w : World) (h0 : Below W0.heap.size W0 w) (fb fo : Nat) (f : FuncD) (R P : Nat) (hF : FnOk f R P) (vb : Value) (c5 : w.cell? ⟨fb, fo + 5, none⟩ = some vb) (c3 : w.cell? ⟨fb, fo + 3, none⟩ = some (.int .i64 (R : Nat))) (c1 : w.cell? ⟨fb, fo + 1, none⟩ = some (.int .i64 (P : Nat))) (hb : SlR W0 9 (BlockR W0) vb f.blocks) :
    Calls Tryd.prog 27 #[.pointer (some ⟨fb, fo, none⟩)] w (OfR w f R P) :=
  of_any W0 w h0 fb fo f vb c5 R P c3 c1 hF.hPR hb hF.h0n (by have := hF.hn; omega) (by have := hF.hR; omega) hF.hnx (fun b hb x hx => by have := hF.hslim b hb x hx; omega) (fun b hb => by have := hF.hil b hb; omega) hF.hdst hF.htr
/-- what alloc.Of answers -/
def AllocR (w : World) (f : FuncD) (R P : Nat) (e : Ending) (w' : World) : Prop :=
  ∃ (gp : Nat) (pl : List Int) (cells : Nat), e = .returned (.agg #[.slice (some ⟨gp, 0, none⟩) R R, .int .i64 (cells : Nat)]) ∧ OwnI w' w.heap.size (.slice (some ⟨gp, 0, none⟩) R R) pl ∧ AllocOk f R P pl (cells : Nat) ∧ Below w.heap.size w w'
set_option maxRecDepth 100000 in
theorem alloc_of (W0 w : World) (h0 : Below W0.heap.size W0 w) (fb fo : Nat) (f : FuncD) (R P : Nat) (hF : FnOk f R P) (vb : Value) (c5 : w.cell? ⟨fb, fo + 5, none⟩ = some vb) (c3 : w.cell? ⟨fb, fo + 3, none⟩ = some (.int .i64 (R : Nat))) (c1 : w.cell? ⟨fb, fo + 1, none⟩ = some (.int .i64 (P : Nat))) (hb : SlR W0 9 (BlockR W0) vb f.blocks) :
    Calls Tryd.prog 16 #[.pointer (some ⟨fb, fo, none⟩)] w (AllocR w f R P) := by
  have HB0 := Lib.hid (below_alloc (.cells #[.slice none 0 0, .int .i64 0] 63) (Below.refl w.heap.size w))
  have HR0 := Lib.hid (blk_new w (.cells #[.slice none 0 0, .int .i64 0] 63))
  have HOf := Lib.hid (fun w1 (h1 : Below w.heap.size w w1) => of_fn2 W0 w1 (h0.trans (h1.mono h0.size)) fb fo f R P hF vb (later c5 h1) (later c3 h1) (later c1 h1) hb)
  have HF := Lib.hid hF
  have hR3 := hF.hR
  clear h0 c5 c3 c1 hb hF
  go_enter Tryd.func16, Tryd.ntmps16
  go_wp2_with fail
  obtain ⟨wa, hwa⟩ : ∃ z, z = w.alloc (.cells #[.slice none 0 0, .int .i64 0] 63) := ⟨_, rfl⟩
  rw [← hwa] at HB0 HR0 ⊢
  obtain ⟨gr, hgr⟩ : ∃ z, z = w.heap.size := ⟨_, rfl⟩
  rw [← hgr] at HR0 ⊢
  have HGR := Lib.hid hgr
  clear hwa hgr
  refine (HOf.out wa HB0.out).mono ?_
  rintro e wo ⟨L0, L1, gb, av, cv, mv, uv, vs, rfl, hG, hbo⟩
  have HG := Lib.hid (show GrR wo wa.heap.size L0 L1 gb R av cv mv uv vs (gEF f R P) (gMF f) (blU R (blkF f) f.blocks.length) (blC (blkF f) f.blocks.length) from hG)
  have HB1 := Lib.hid (HB0.out.bt hbo)
  have HR1 := Lib.hid ((hbo.block gr (blk_lt HR0.out)).trans HR0.out)
  have HSym := Lib.hid (show ∀ a b, gEF f R P a b = gEF f R P b a from fun a b => parE_sym _ _ P a b (blE_sym R _ _ a b _))
  clear hG hbo HB0 HR0
  go_wp2_with fail
  refine (colour_any HG.out (by omega) 5 (by omega) (fun a b _ _ => HSym.out a b) HF.out.cps.1 HF.out.cps.2).mono ?_
  rintro e wc ⟨gp, pl, rfl, hpl, hft, _, hbc⟩
  have HP := Lib.hid hpl
  have HFt := Lib.hid hft
  have HB2 := Lib.hid (HB1.out.trans (hbc.mono HB1.out.size))
  have HR2 := Lib.hid ((hbc.block gr (blk_lt HR1.out)).trans HR1.out)
  have HWo := Lib.hid HB1.out.size
  have HA0 := Lib.hid (blk_new wc (.cells #[.slice (some ⟨gp, 0, none⟩) R R, .int .i64 0] 63))
  have HBA := Lib.hid (below_alloc (.cells #[.slice (some ⟨gp, 0, none⟩) R R, .int .i64 0] 63) (Below.refl wc.heap.size wc))
  clear hpl hft hbc HG HB1 HR1
  go_wp2_with fail
  obtain ⟨wd, hwd⟩ : ∃ z, z = wc.alloc (.cells #[.slice (some ⟨gp, 0, none⟩) R R, .int .i64 0] 63) := ⟨_, rfl⟩
  rw [← hwd] at HA0 HBA ⊢
  obtain ⟨ga, hga⟩ : ∃ z, z = wc.heap.size := ⟨_, rfl⟩
  rw [← hga] at HA0 ⊢
  have HP0 := Lib.hid (show OwnI wd w.heap.size (.slice (some ⟨gp, 0, none⟩) R R) pl from own_base (own_below HP.out HBA.out) HWo.out)
  have HR3 := Lib.hid ((HBA.out.block gr (blk_lt HR2.out)).trans HR2.out)
  have HB3 := Lib.hid (HB2.out.trans (HBA.out.mono HB2.out.size))
  have HGA := Lib.hid (show w.heap.size ≤ ga ∧ gr < ga from ⟨by rw [hga]; exact HB2.out.size, by rw [hga]; exact blk_lt HR2.out⟩)
  clear hwd hga HP HB2 HR2 HBA
  go_loopw [14] (fun i wr => ∃ (j c : Nat) (pl2 : List Int), j ≤ R ∧ i = .int .i64 j ∧ OwnI wr w.heap.size (.slice (some ⟨gp, 0, none⟩) R R) pl2 ∧ Rep pl pl2 R j c ∧ wr.heap[ga]? = some (.cells #[.slice (some ⟨gp, 0, none⟩) R R, .int .i64 (c : Nat)] 63 (0, 0)) ∧ wr.heap[gr]? = some (.cells #[.slice none 0 0, .int .i64 0] 63 (0, 0)) ∧ Below w.heap.size w wr) (fun i _ => R - (intOf i).toNat)
  case atStart => exact ⟨0, 0, pl, by omega, rfl, HP0.out, Rep.zero HFt.out.len, HA0.out, HR3.out, HB3.out⟩
  case round =>
    obtain ⟨j, c, pl2, hj, rfl, hp, hrep, ha, hr, hb⟩ := hrel
    have HP1 := Lib.hid hp
    have HRp := Lib.hid hrep
    have HA1 := Lib.hid ha
    have HR1 := Lib.hid hr
    have HB1 := Lib.hid hb
    clear hp hrep ha hr hb HP0 HA0 HR3 HB3
    by_cases hlt : j < R
    · obtain ⟨x, hx⟩ : ∃ x, pl2[j]? = some x := ⟨_, List.getElem?_eq_getElem (by rw [HRp.out.len]; exact hlt)⟩
      obtain ⟨kx, kf, kl⟩ := OwnI.at_ HP1.out HRp.out.len.symm hx
      have hcj := HRp.out.cj
      by_cases h0 : x < 0
      · have hxm : x = -1 := by
          rcases HRp.out.at_ j x hx with h1 | h1 | h1
          · rcases HFt.out.rng j x h1.2 with h2 | h2 <;> omega
          · omega
          · omega
        subst hxm
        have HRp2 := Lib.hid (HRp.out.cell hx)
        obtain ⟨z1, z2⟩ := OwnI.set (j := j) HP1.out HRp.out.len.symm (5 + (c : Int))
        have ha2 := blk_kept HA1.out z2 (own_blk HP1.out HA1.out (by decide))
        have hr2 := blk_kept HR1.out z2 (own_blk HP1.out HR1.out (by decide))
        have ka : wr.cell? ⟨ga, 1, none⟩ = some (.int .i64 (c : Nat)) := blk_cell HA1.out rfl
        have la := blk_lt HA1.out
        have hne : ga ≠ gp := fun e => by
          rcases own_blk HP1.out HA1.out (by decide) with h | h
          · cases h
          · exact h (by rw [e]; rfl)
        have ka2 : (wr.setCell ⟨gp, j, none⟩ (.int .i64 (5 + (c : Int)))).frozen? ⟨ga, 1, none⟩ = false := blk_free ha2
        have kaf : wr.frozen? ⟨ga, 1, none⟩ = false := blk_free HA1.out
        have v1 : ((wr.setCell ⟨gp, j, none⟩ (.int .i64 (5 + (c : Int)))).setCell ⟨ga, 1, none⟩ (.int .i64 ((c : Int) + 1))).heap[ga]? = some (.cells #[.slice (some ⟨gp, 0, none⟩) R R, .int .i64 ((c : Int) + 1)] 63 (0, 0)) := by rw [blk_setCell ha2 _]; rfl
        have v2 : (wr.setCell ⟨gp, j, none⟩ (.int .i64 (5 + (c : Int)))).grownBy ((wr.setCell ⟨gp, j, none⟩ (.int .i64 (5 + (c : Int)))).setCell ⟨ga, 1, none⟩ (.int .i64 ((c : Int) + 1))) (some ga) := ⟨rfl, rfl, rfl, by simp [World.setCell], fun k hk hne => Below.heap_setCell _ ⟨ga, 1, none⟩ _ k (fun e => hne (by rw [e]))⟩
        have HA3 := Lib.hid v1
        have HP3 := Lib.hid (World.ownsRow.kept z1 v2 (own_blk z1 ha2 (by decide)))
        have HR4 := Lib.hid ((v2.block gr (blk_lt hr2) (fun e => by have := HGA.out.2; simp only [Option.some.injEq] at e; omega)).trans hr2)
        have HB4 := Lib.hid (below_of_grown (below_of_grown HB1.out (Nat.le_refl _) z2 (fun k hk => by cases hk; exact (World.ownsRow.lt HP1.out gp rfl).1)) (Nat.le_refl _) v2 (fun k hk => by cases hk; exact HGA.out.1))
        clear hx z1 z2 ha2 hr2 v1 v2 h0
        go_wp2_with fail
        go_roundw
        case rel => exact ⟨j + 1, c + 1, _, by omega, by go_num, HP3.out, HRp2.out, HA3.out, HR4.out, HB4.out⟩
        case measure => first | omega | (simp [intOf]; done) | (simp [intOf]; omega)
      · have d0 : decide (x < 0) = false := decide_eq_false h0
        have HRp2 := Lib.hid (HRp.out.keep hx (by omega))
        clear hx h0
        go_wp2_with fail
        go_roundw
        case rel => exact ⟨j + 1, c, _, by omega, by go_num, HP1.out, HRp2.out, HA1.out, HR1.out, HB1.out⟩
        case measure => first | omega | (simp [intOf]; done) | (simp [intOf]; omega)
    · have e : R = j := by omega
      subst e
      have ka0 : wr.cell? ⟨ga, 0, none⟩ = some (.slice (some ⟨gp, 0, none⟩) R R) := blk_cell HA1.out rfl
      have ka1 : wr.cell? ⟨ga, 1, none⟩ = some (.int .i64 (c : Nat)) := blk_cell HA1.out rfl
      have kr0 : wr.cell? ⟨gr, 0, none⟩ = some (.slice none 0 0) := blk_cell HR1.out rfl
      have kr1 : wr.cell? ⟨gr, 1, none⟩ = some (.int .i64 0) := blk_cell HR1.out rfl
      have kf0 : wr.frozen? ⟨gr, 0, none⟩ = false := blk_free HR1.out
      have kf1 : wr.frozen? ⟨gr, 1, none⟩ = false := blk_free HR1.out
      have la := blk_lt HA1.out
      have lr := blk_lt HR1.out
      clear kr0 kr1 kf0 kf1
      go_wp2_with (refine wpList_store_blk (by rfl) 63 _ _ (by rfl) gr (by rfl) (by rfl) HR1.out (by rfl) (by kernel_rfl) (by kernel_rfl) ?_; intro x2 k3 hb3 hz3 ho3; have q0 : x2.cell? ⟨gr, 0, none⟩ = some (.slice (some ⟨gp, 0, none⟩) R R) := blk_cell k3 rfl; have q1 : x2.cell? ⟨gr, 1, none⟩ = some (.int .i64 (c : Nat)) := blk_cell k3 rfl; have lr2 : gr < x2.heap.size := blk_lt k3; have HX := Lib.hid (And.intro k3 (And.intro hb3 (And.intro hz3 ho3))); clear k3 hb3 hz3 ho3)
      refine bodyPost_ret (by simp [results, Tryd.results16, go_sem, q0, q1]; try rfl) rfl ?_
      obtain ⟨k3, hb3, hz3, ho3⟩ := HX.out
      have hb4 := hb3 gr wr (Nat.le_refl _) (Below.refl _ _)
      have g1 : wr.grownBy x2 (some gr) := ⟨hb4.os, hb4.tape, hb4.output, by omega, fun k hk hne => ho3 k (fun e => hne (by rw [e]))⟩
      exact ⟨gp, pl2, c, rfl, World.ownsRow.kept HP1.out g1 (own_blk HP1.out HR1.out (by decide)), HRp.out.done HFt.out, hb3 _ _ (Nat.le_of_eq HGR.out.symm) HB1.out⟩
end Go.Proofs.YtbogcompeefoaaaDoor
namespace Go.Proofs.YtbogcompeefoaaaDoor
open Go.RowKit
set_option linter.unusedVariables false
set_option maxHeartbeats 4000000
theorem Tryd.infoAlloc2 : (Tryd.prog.info? 63).map (fun i => (i.zero, i.size, i.bytes)) = some (some (.agg #[.slice none 0 0, .int .i64 0]), 2, 32) := by kernel_rfl
/-- what a row of allocs holds for function i -/
def AllI (w : World) (B : Nat) (f : FuncD) (a b : Value) : Prop :=
  ∃ (gp R P : Nat) (pl : List Int) (cells : Nat), FnOk f R P ∧ a = .slice (some ⟨gp, 0, none⟩) R R ∧ b = .int .i64 (cells : Nat) ∧ OwnI w B a pl ∧ AllocOk f R P pl (cells : Nat)
structure AllR (w : World) (B : Nat) (v : Value) (fs : List FuncD) (k : Nat) (xs : List Value) : Prop where
  row : w.ownsRow B 63 2 v k xs
  len : xs.length = k * 2
  at_ : ∀ i f, i < k → fs[i]? = some f → ∃ a b, xs[i * 2]? = some a ∧ xs[i * 2 + 1]? = some b ∧ AllI w B f a b
theorem AllI.more {w w' : World} {B : Nat} {f : FuncD} {a b : Value} (h : AllI w B f a b) (hb : Below w.heap.size w w') : AllI w' B f a b := by
  obtain ⟨gp, R, P, pl, cells, h1, h2, h3, h4, h5⟩ := h
  exact ⟨gp, R, P, pl, cells, h1, h2, h3, own_below h4 hb, h5⟩
theorem AllR.more {w w' : World} {B k : Nat} {v : Value} {fs : List FuncD} {xs : List Value} (h : AllR w B v fs k xs) (hb : Below w.heap.size w w') : AllR w' B v fs k xs :=
  ⟨own_below h.row hb, h.len, fun i f hi hf => by
    obtain ⟨a, b, h1, h2, h3⟩ := h.at_ i f hi hf
    exact ⟨a, b, h1, h2, h3.more hb⟩⟩
theorem AllI.kept {w w' : World} {B : Nat} {f : FuncD} {a b v : Value} {k : Nat} {xs : List Value} (h : AllI w B f a b) (ho : w.ownsRow B 63 2 v k xs) (hg : w.grownBy w' v.ownBlock) : AllI w' B f a b := by
  obtain ⟨gp, R, P, pl, cells, h1, rfl, h3, h4, h5⟩ := h
  exact ⟨gp, R, P, pl, cells, h1, rfl, h3, World.ownsRow.kept h4 hg (own_ne h4 ho (by decide)), h5⟩
theorem AllR.step {w w' : World} {B k : Nat} {v v' : Value} {fs : List FuncD} {xs : List Value} {f : FuncD} {a b : Value} (h : AllR w B v fs k xs) (hf : fs[k]? = some f) (hi : AllI w B f a b) (ho : w'.ownsRow B 63 2 v' (k + 1) (xs ++ [a, b])) (hg : w.grownBy w' v.ownBlock) : AllR w' B v' fs (k + 1) (xs ++ [a, b]) := by
  refine ⟨ho, by simp [h.len]; omega, fun i g hik hgi => ?_⟩
  by_cases e : i = k
  · subst e
    rw [hf] at hgi
    cases hgi
    refine ⟨a, b, ?_, ?_, hi.kept h.row hg⟩
    · rw [List.getElem?_append_right (by rw [h.len]; omega), h.len]; simp
    · rw [List.getElem?_append_right (by rw [h.len]; omega), h.len, show i * 2 + 1 - i * 2 = 1 from by omega]; rfl
  · obtain ⟨a', b', h1, h2, h3⟩ := h.at_ i g (by omega) hgi
    refine ⟨a', b', ?_, ?_, h3.kept h.row hg⟩
    · rw [List.getElem?_append_left (by rw [h.len]; omega)]; exact h1
    · rw [List.getElem?_append_left (by rw [h.len]; omega)]; exact h2
set_option maxRecDepth 100000 in
theorem all_any (W0 w : World) (h0 : Below W0.heap.size W0 w) (p : ProgD) (A : Option Addr) (cap : Nat) (pb : Nat) (c0 : w.cell? ⟨pb, 0, none⟩ = some (.slice A p.funcs.length cap))
    (hs : SlR W0 6 (FuncR W0) (.slice A p.funcs.length cap) p.funcs) (hF : ∀ f ∈ p.funcs, ∃ R P, FnOk f R P) (hl : p.funcs.length ≤ 20) :
    Calls Tryd.prog 7 #[.pointer (some ⟨pb, 0, none⟩)] w fun e w' => ∃ v xs, e = .returned v ∧ AllR w' w.heap.size v p.funcs p.funcs.length xs ∧ Below w.heap.size w w' := by
  obtain ⟨_, _, hv, _, _, hi⟩ := hs
  cases hv
  have HI := Lib.hid hi
  have HF := Lib.hid hF
  have H0 := Lib.hid h0
  have HC := Lib.hid c0
  have HN := Lib.hid (show AllR w w.heap.size (.slice none 0 0) p.funcs 0 [] from ⟨World.ownsRow_nil _ _ _ _, rfl, fun i f hi => by omega⟩)
  clear hi hF h0
  go_enter Tryd.func7, Tryd.ntmps7
  go_wp2_with fail
  clear c0
  go_loopw [3, 10] (fun sv s wr => ∃ (k : Nat) (xs : List Value), k ≤ p.funcs.length ∧ s = .int .i64 k ∧ AllR wr w.heap.size sv p.funcs k xs ∧ Below w.heap.size w wr) (fun _ s _ => p.funcs.length - (intOf s).toNat)
  case atStart => exact ⟨0, [], by omega, rfl, HN.out, Below.refl _ _⟩
  case round =>
    obtain ⟨k, xs, hk, rfl, hA, hb⟩ := hrel
    have HA := Lib.hid hA
    have HB := Lib.hid hb
    obtain ⟨Ap, cp, hpv, _⟩ := own_slice hA.row
    subst hpv
    clear hA hb
    by_cases hlt : k < p.funcs.length
    · obtain ⟨f, hfk⟩ : ∃ f, p.funcs[k]? = some f := ⟨_, List.getElem?_eq_getElem hlt⟩
      obtain ⟨fb, fo, cs, hAe, e1, e2, hfr⟩ := HI.out k f hfk
      subst hAe
      obtain ⟨R, P, hFN⟩ := HF.out f (List.mem_of_getElem? hfk)
      have HFN := Lib.hid hFN
      obtain ⟨vs, vl, vb, rfl, z1, z2, z3, z4, z5, z6, z7, z8, z9⟩ := hfr
      have HW := Lib.hid (H0.out.bt HB.out)
      have r5 := later (e2 5 (by omega)) HW.out
      have r1 : wr.cell? ⟨fb, fo + k * 6 + 1, none⟩ = some (.int .i64 (P : Nat)) := by rw [← hFN.par]; exact later (e2 1 (by omega)) HW.out
      have r3 : wr.cell? ⟨fb, fo + k * 6 + 3, none⟩ = some (.int .i64 (R : Nat)) := by rw [← hFN.regs]; exact later (e2 3 (by omega)) HW.out
      have HO := Lib.hid (alloc_of W0 wr HW.out fb (fo + k * 6) f R P hFN _ r5 r3 r1 z8)
      have c0 := later HC.out HB.out
      have lp := World.block_lt_of_cell? _ _ c0
      have lf := World.block_lt_of_cell? _ _ r5
      have HK := Lib.hid hfk
      clear e1 e2 z1 z2 z3 z4 z5 z6 z7 z8 z9 hFN hfk r1 r3
      go_wp2_with fail
      refine HO.out.mono ?_
      rintro e w2 ⟨gp, pl, cells, rfl, hpl, hok, hb2⟩
      have HA2 := Lib.hid (HA.out.more hb2)
      have HI2 := Lib.hid (show AllI w2 w.heap.size f (.slice (some ⟨gp, 0, none⟩) R R) (.int .i64 (cells : Nat)) from ⟨gp, R, P, pl, cells, HFN.out, rfl, rfl, own_base hpl HB.out.size, hok⟩)
      have HB2 := Lib.hid (HB.out.trans (hb2.mono HB.out.size))
      clear hpl hok hb2 HB HA c0 lp r5 lf
      obtain ⟨i0, hi, hz0, hz1, hz2⟩ := info_parts Tryd.infoAlloc2
      obtain ⟨v', w', hr1, ho', hg', _⟩ := append_oneC (P := Tryd.prog) (w := w2) w.heap.size 31 63 i0 _ 2 32 Tryd.underlying31 hi hz0 hz1 hz2 rfl (by decide) _ k xs HA2.out.row #[.slice (some ⟨gp, 0, none⟩) R R, .int .i64 (cells : Nat)] rfl _ rfl (by simp [Value.oneCell']) (by unfold maxLen; omega) (by omega) HB2.out.size
      have HA3 := Lib.hid (HA2.out.step HK.out HI2.out ho' hg')
      have HB3 := Lib.hid (below_of_grown HB2.out (Nat.le_refl _) hg' (fun k hk => (World.ownsRow.lt HA2.out.row k hk).1))
      clear hi hz0 hz1 hz2 ho' hg'
      go_wp2_with (at_builtin; refine wpList_append_run' _ rfl _ _ _ rfl _ _ _ _ rfl rfl hr1 ?_)
      go_roundw
      case rel => exact ⟨k + 1, _, by omega, by go_num, HA3.out, HB3.out⟩
      case measure => first | omega | (simp [intOf]; done) | (simp [intOf]; omega)
    · have e : k = p.funcs.length := by omega
      subst e
      go_wp2_with fail
      go_returns
      exact ⟨_, xs, rfl, HA.out, HB.out⟩
end Go.Proofs.YtbogcompeefoaaaDoor
