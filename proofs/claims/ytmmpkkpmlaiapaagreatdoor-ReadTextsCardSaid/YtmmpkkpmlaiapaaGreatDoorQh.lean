/- What a line is read as, plainly. read.Line. What a line of the data is read as, plainly. No condition. -/
import Derived.Test.YtmmpkkpmlaiapaaGreatDoorRlK
import Derived.Test.YtmmpkkpmlaiapaaGreatDoorQe
namespace Go.Proofs.YtmmpkkpmlaiapaaGreatDoor
open Go.RowKit
set_option linter.unusedVariables false
set_option linter.unusedSimpArgs false
def OpdIn (o : Opd) : Prop := In64 o.reg ∧ In64 o.num ∧ o.name.length ≤ 60
def XIn (x : XInsD) : Prop := In64 x.op ∧ In64 x.dst ∧ In64 x.src ∧ In64 x.imm ∧ In64 x.size ∧ In64 x.cond ∧ x.to_.size ≤ 300
theorem in64_small {n : Int} (h : -1000 ≤ n ∧ n ≤ 1000) : In64 n := by unfold In64; omega
theorem regS_in {s : List UInt8} {r sz : Int} (h : RegS s r sz) : In64 r := by
  rcases h with ⟨l, _, h⟩ | ⟨_, rfl, _⟩
  · rcases h with ⟨t, ht, _, rfl, _⟩ | ⟨_, rfl, _⟩
    · exact in64_small (by omega)
    · exact in64_small (by decide)
  · exact in64_small (by decide)
theorem named_le {l : List UInt8} (h : namedB ⟨⟨l⟩⟩ = true) : l.length ≤ 60 := by
  unfold namedB at h
  simp only [Bool.and_eq_true, decide_eq_true_eq] at h
  exact h.1.2
theorem oneR_in {s : List UInt8} {o : Opd} (h : OneR s o true) : OpdIn o := by
  have h0 : In64 0 := in64_small (by decide)
  obtain ⟨r, sz, hR, h⟩ := h
  rcases h with ⟨_, rfl, _⟩ | ⟨_, _, v, hn, rfl⟩ | ⟨_, _, _, r2, sz2, hn, rfl, _⟩ | ⟨_, _, _, _, rfl, hb⟩ | ⟨_, _, _, _, _, r2, sz2, v, g, hn, hv, rfl, _⟩ | ⟨_, _, _, _, _, rfl, hb⟩
  · exact ⟨regS_in hR, h0, by simp⟩
  · exact ⟨h0, hn.1, by simp⟩
  · exact ⟨regS_in hn, h0, by simp⟩
  · exact ⟨h0, h0, named_le hb.symm⟩
  · refine ⟨regS_in hn, ?_, by simp⟩
    rcases hv with ⟨_, rfl, _⟩ | ⟨_, hv⟩
    · exact h0
    · exact hv.1
  · exact ⟨h0, h0, named_le hb.symm⟩
theorem opsR_in {s : ByteArray} {l : List Opd} (h : OpsR s l true) : ∀ o ∈ l, OpdIn o := by
  rcases h with ⟨_, rfl, _⟩ | ⟨_, _, hlen, hx⟩ | ⟨_, h, _⟩
  · intro o ho; cases ho
  · intro o ho
    obtain ⟨i, hi, rfl⟩ := List.mem_iff_getElem.1 ho
    exact oneR_in (hx i ((pieces s)[i]'(by omega)) l[i] (List.getElem?_eq_getElem (by omega)) (List.getElem?_eq_getElem hi))
  · cases h
theorem firstF_some {α : Type} {g : Nat → Option α} {x : α} : ∀ {m : Nat}, firstF g m = some x → ∃ j, j < m ∧ g j = some x := by
  intro m
  induction m with
  | zero => intro h; cases h
  | succ m ih =>
    intro h
    unfold firstF at h
    split at h
    · rename_i y hy
      cases h
      obtain ⟨j, hj, e⟩ := ih hy
      exact ⟨j, by omega, e⟩
    · exact ⟨m, by omega, h⟩
theorem insZ_in : XIn insZ := by unfold XIn insZ In64; decide
theorem rkE_in {two : Bool} {a b : Int} {l : List Opd} {y : XInsD} (ha : In64 a) (hb : In64 b) (hl : ∀ o ∈ l, OpdIn o) (h : rkE two a b l = some y) : XIn y := by
  obtain ⟨z1, z2, z3, z4, z5, z6, z7⟩ := insZ_in
  match l, hl, h with
  | [o, q], hl, h =>
    have ho := hl o (by simp)
    have hq := hl q (by simp)
    change (if _ then _ else _) = _ at h
    split at h
    · cases h
      refine ⟨ha, hq.1, ?_, z4, z5, z6, z7⟩
      cases two
      · exact z3
      · exact ho.1
    · split at h
      · cases h; exact ⟨hb, hq.1, z3, ho.2.1, z5, z6, z7⟩
      · cases h
theorem rkG_in {two : Bool} {a b : Int} {names : List (List UInt8)} {n : List UInt8} {l : List Opd} {m : Nat} {y : XInsD} (ha : -500 ≤ a ∧ a ≤ 500) (hb : -500 ≤ b ∧ b ≤ 500) (hm : m ≤ 100) (hl : ∀ o ∈ l, OpdIn o) (h : firstF (rkG two a b names n l) m = some y) : XIn y := by
  obtain ⟨j, hj, e⟩ := firstF_some h
  unfold rkG at e
  split at e
  · exact rkE_in (in64_small (by omega)) (in64_small (by omega)) hl e
  · cases e
theorem ite_or {α : Type} {c : Prop} [Decidable c] {a b : Option α} {y : α} (h : (if c then a else b) = some y) : a = some y ∨ b = some y := by
  by_cases hc : c
  · rw [if_pos hc] at h; exact Or.inl h
  · rw [if_neg hc] at h; exact Or.inr h
theorem build_in {n : List UInt8} {l : List Opd} {y : XInsD} (hl : ∀ o ∈ l, OpdIn o) (h : buildF n l = some y) : XIn y := by
  obtain ⟨z1, z2, z3, z4, z5, z6, z7⟩ := insZ_in
  have k0 : ∀ op : Int, -500 ≤ op ∧ op ≤ 500 → bd0 op l = some y → XIn y := fun op ho e => by
    match l, hl, e with
    | [], _, e => cases e; exact ⟨show In64 op from in64_small (by omega), z2, z3, z4, z5, z6, z7⟩
  have k1 : ∀ op : Int, -500 ≤ op ∧ op ≤ 500 → bd1 op l = some y → XIn y := fun op ho e => by
    match l, hl, e with
    | [o], hl, e =>
      change (if _ then _ else _) = _ at e
      split at e
      · cases e; exact ⟨show In64 op from in64_small (by omega), (hl o (by simp)).1, z3, z4, z5, z6, z7⟩
      · cases e
  have kj : ∀ c : Bool, jumpF c l = some y → XIn y := fun c e => by
    have h35 : In64 (if c = true then (35 : Int) else 33) := by cases c <;> exact in64_small (by decide)
    have h36 : In64 (if c = true then (36 : Int) else 37) := by cases c <;> exact in64_small (by decide)
    match l, hl, e with
    | [o], hl, e =>
      have ho := hl o (by simp)
      change jump1 c o = _ at e
      unfold jump1 at e
      split at e
      · cases e
        exact ⟨h35, z2, z3, z4, z5, z6, by have := ho.2.2; show o.name.length ≤ 300; omega⟩
      · split at e
        · cases e
          exact ⟨h36, ho.1, z3, z4, z5, z6, z7⟩
        · cases e
  have n2 : In64 2 ∧ In64 5 ∧ In64 6 := ⟨in64_small (by decide), in64_small (by decide), in64_small (by decide)⟩
  have kI : bdI l = some y → XIn y := fun h => by
    match l, hl, h with
    | [o, q], hl, h =>
      change (if _ then _ else _) = _ at h
      split at h
      · cases h; exact ⟨n2.1, (hl q (by simp)).1, z3, (hl o (by simp)).2.1, z5, z6, z7⟩
      · cases h
  have kL : bdL l = some y → XIn y := fun h => by
    match l, hl, h with
    | [o, q], hl, h =>
      change (if _ then _ else _) = _ at h
      split at h
      · cases h; exact ⟨n2.2.1, (hl q (by simp)).1, (hl o (by simp)).1, (hl o (by simp)).2.1, z5, z6, z7⟩
      · split at h
        · cases h
          exact ⟨n2.2.2, (hl q (by simp)).1, z3, z4, z5, z6, by have := (hl o (by simp)).2.2; show o.name.length ≤ 300; omega⟩
        · cases h
  have n3 : In64 1 ∧ In64 2 ∧ In64 3 ∧ In64 4 ∧ In64 30 := by refine ⟨?_, ?_, ?_, ?_, ?_⟩ <;> exact in64_small (by decide)
  have kM : ∀ (sz : Int) (sg : Bool), In64 sz → rmoveF sz sg l = some y → XIn y := fun sz sg hz h => by
    match l, hl, h with
    | [o, q], hl, h =>
      have ho := hl o (by simp)
      have hq := hl q (by simp)
      change move2 _ _ o q = _ at h
      unfold move2 at h
      split at h
      · cases h; exact ⟨n3.2.2.1, hq.1, ho.1, ho.2.1, hz, z6, z7⟩
      · split at h
        · cases h; exact ⟨n3.2.2.2.1, hq.1, ho.1, hq.2.1, hz, z6, z7⟩
        · split at h
          · cases h; exact ⟨n3.2.1, hq.1, z3, ho.2.1, z5, z6, z7⟩
          · split at h
            · split at h
              · cases h; exact ⟨n3.1, hq.1, ho.1, z4, z5, z6, z7⟩
              · cases h; exact ⟨n3.2.2.2.2, hq.1, ho.1, z4, hz, z6, z7⟩
            · cases h
  have n4 : In64 31 ∧ In64 32 ∧ In64 34 := by refine ⟨?_, ?_, ?_⟩ <;> exact in64_small (by decide)
  have kS : ∀ c : Int, In64 c → cdS c l = some y → XIn y := fun c hc e => by
    match l, hl, e with
    | [o], hl, e => cases e; exact ⟨n4.1, (hl o (by simp)).1, z3, z4, z5, hc, z7⟩
  have kC : ∀ c : Int, In64 c → cdM c l = some y → XIn y := fun c hc e => by
    match l, hl, e with
    | [o, q], hl, e => cases e; exact ⟨n4.2.1, (hl q (by simp)).1, (hl o (by simp)).1, z4, z5, hc, z7⟩
  have kJ : ∀ c : Int, In64 c → cdJ c l = some y → XIn y := fun c hc e => by
    match l, hl, e with
    | [o], hl, e => cases e; exact ⟨n4.2.2, z2, z3, z4, z5, hc, by have := (hl o (by simp)).2.2; show o.name.length ≤ 300; omega⟩
  have hmv : In64 (mvS n).1 := by
    unfold mvS
    repeat' split
    all_goals exact in64_small (by decide)
  unfold buildF at h
  rcases ite_or h with h | h
  · exact k0 _ (by decide) h
  rcases ite_or h with h | h
  · exact k0 _ (by decide) h
  rcases ite_or h with h | h
  · exact k0 _ (by decide) h
  rcases ite_or h with h | h
  · exact k0 _ (by decide) h
  rcases ite_or h with h | h
  · exact k1 _ (by decide) h
  rcases ite_or h with h | h
  · exact k1 _ (by decide) h
  rcases ite_or h with h | h
  · exact k1 _ (by decide) h
  rcases ite_or h with h | h
  · exact kj _ h
  rcases ite_or h with h | h
  · exact kj _ h
  rcases ite_or h with h | h
  · exact kI h
  rcases ite_or h with h | h
  · exact kL h
  rcases ite_or h with h | h
  · exact kM _ _ hmv h
  split at h
  · rename_i x hx
    cases h
    unfold reckonF at hx
    split at hx
    · rename_i x2 hx2
      cases hx
      exact rkG_in (by decide) (by decide) (by decide) hl hx2
    · exact rkG_in (by decide) (by decide) (by decide) hl hx
  · obtain ⟨j, hj, e⟩ := firstF_some h
    unfold cdG at e
    have hj2 : In64 (j : Int) := in64_small (by omega)
    repeat' split at e
    · exact kS _ hj2 e
    · exact kC _ hj2 e
    · exact kJ _ hj2 e
    · cases e
noncomputable def showX (x : XInsD) : List UInt8 := showB x.op x.dst x.src x.imm x.size x.signed x.cond x.to_.data.toList
open Classical in
def LineP (s : List UInt8) (x : XInsD) (b : Bool) : Prop := ∃ l ok, OpsR ⟨⟨(Lib.cut s [32]).2.1⟩⟩ l ok ∧
  ((ok = false ∧ b = false) ∨ (ok = true ∧ (∀ y, buildF (Lib.cut s [32]).1 l = some y → x = y ∧ b = decide (showX y = s)) ∧ (buildF (Lib.cut s [32]).1 l = none → b = false)))
theorem build_empty (l : List Opd) : buildF [] l = none := by
  unfold buildF
  simp only [show ∀ (c : UInt8) (t : List UInt8), (([] : List UInt8) = c :: t) = False from fun c t => by simp, if_false]
  rw [if_neg (by decide)]
  have h1 : ∀ m, m ≤ 7 → firstF (rkG true 7 14 names7 [] l) m = none := fun m hm => by
    induction m with
    | zero => rfl
    | succ m ih =>
      refine firstF_next (ih (by omega)) (rkG_ne ?_)
      have : m = 0 ∨ m = 1 ∨ m = 2 ∨ m = 3 ∨ m = 4 ∨ m = 5 ∨ m = 6 := by omega
      rcases this with rfl | rfl | rfl | rfl | rfl | rfl | rfl <;> decide
  have h2 : ∀ m, m ≤ 3 → firstF (rkG false 21 24 names3 [] l) m = none := fun m hm => by
    induction m with
    | zero => rfl
    | succ m ih =>
      refine firstF_next (ih (by omega)) (rkG_ne ?_)
      have : m = 0 ∨ m = 1 ∨ m = 2 := by omega
      rcases this with rfl | rfl | rfl <;> decide
  have h3 : ∀ m, firstF (cdG [] l) m = none := fun m => by
    induction m with
    | zero => rfl
    | succ m ih =>
      refine firstF_next ih ?_
      unfold cdG
      rw [if_neg (fun h => by have := h.1; simp [cd1] at this), if_neg (fun h => by have := h.1; simp [cd2] at this), if_neg (fun h => by have := h.1; simp [cd3] at this)]
  unfold reckonF condiF
  rw [h1 7 (by decide), h2 3 (by decide), h3]
theorem cut_empty : Lib.cut [] [32] = ([], [], false) := by decide
theorem line_is {s : List UInt8} {x : XInsD} {b : Bool} (h : LineP s x b) (hb : b = true) : XIn x ∧ showX x = s ∧ s ≠ [] := by
  obtain ⟨l, ok, hO, h⟩ := h
  rcases h with ⟨_, h⟩ | ⟨rfl, h1, h2⟩
  · rw [h] at hb; cases hb
  · cases hB : buildF (Lib.cut s [32]).1 l with
    | none => rw [h2 hB] at hb; cases hb
    | some y =>
      obtain ⟨rfl, hb2⟩ := h1 y hB
      rw [hb] at hb2
      refine ⟨build_in (opsR_in hO) hB, of_decide_eq_true hb2.symm, ?_⟩
      rintro rfl
      rw [cut_empty] at hB
      rw [build_empty] at hB
      cases hB
theorem line_back {s : List UInt8} {x : XInsD} {b : Bool} (h : LineP s x b) (y : XInsD) (hy : XIn y) (hs : showX y = s) (hne : s ≠ []) : b = true ∧ x = y := by
  unfold showX showB at hs
  split at hs
  · rename_i hg
    have hL := ln_all hg hy.2.2.2.1
    rw [hs] at hL
    obtain ⟨W, zs, os, e, hW, hz, hA, hB⟩ := hL
    obtain ⟨l, ok, hO, h⟩ := h
    have hc := cut_form (W := W) (zs := zs) hW
    rw [← e] at hc
    rw [hc.2] at hO
    obtain ⟨rfl, rfl⟩ := ops_form hz hA rfl hO
    rcases h with ⟨h, _⟩ | ⟨_, h1, _⟩
    · cases h
    · obtain ⟨rfl, rfl⟩ := h1 y (by rw [hc.1]; exact hB)
      refine ⟨decide_eq_true ?_, rfl⟩
      unfold showX showB
      rw [if_pos hg]
      exact hs
  · exact absurd hs.symm hne
end Go.Proofs.YtmmpkkpmlaiapaaGreatDoor
namespace Go.Proofs.YtmmpkkpmlaiapaaGreatDoor
open Go.RowKit
set_option linter.unusedVariables false
set_option maxHeartbeats 4000000
set_option maxRecDepth 100000
theorem load_x {S : World → Prop} {op : Oper} {a : Act} (x : Operand) (ho : op.op = .load 23 x) (g : Nat) (hx : a.eval x = .pointer (some ⟨g, 0, none⟩)) (cs : List Value) (hl : cs.length = 8) (hS : ∀ w, S w → w.heap[g]? = some (.cells cs.toArray 23 (0, 0))) :
    ∀ w, S w → (execOp a.eval op).run Tryz.prog w = .ok (.value (.agg cs.toArray)) w := fun w hw => by
  have hc : w.rangeAt g 0 cs := fun j v hv => by rw [Nat.zero_add]; exact blk_cell (hS w hw) (by simpa using hv)
  have hi : (Tryz.prog.info? 23).map (·.size) = some cs.length := by rw [hl]; kernel_rfl
  unfold execOp
  simp only [ho, hx, Instr.loadAt, Instr.sureAddr, Sem.run_bind, Sem.run_pure, Result.andThen_ok, run_loadVar_mid w g 0 23 cs _ hc Tryz.underlying23 rfl hi]
theorem cut_le2 (s p : List UInt8) : (⟨(Lib.cut s p).2.1.toArray⟩ : ByteArray).size ≤ s.length := by
  show (Lib.cut s p).2.1.length ≤ _
  unfold Lib.cut
  split
  · simp
  · simp
theorem show_x (w : World) (hN : GsOk w) (hP : PowOk w) (x : XInsD) (h : XIn x) : Calls Tryz.prog 27 #[.agg (insV x).toArray] w fun en w' => en = .returned (.string ⟨⟨showX x⟩⟩) ∧ Below w.heap.size w w' := by
  obtain ⟨op, dst, src, imm, size, g, cond, ⟨⟨tl⟩⟩⟩ := x
  obtain ⟨h1, h2, h3, h4, h5, h6, h7⟩ := h
  exact show_any w hN hP op dst src imm size cond g tl h1 h2 h3 h4 h5 h6 h7
def LineO (s : List UInt8) (w : World) (e : Ending) (w' : World) : Prop := ∃ x b, e = .returned (.tuple #[.agg (insV x).toArray, .bool b]) ∧ LineP s x b ∧ Below w.heap.size w w'
theorem line_any (w : World) (hR : RdOk w) (hG : GsOk w) (s : ByteArray) (hs : s.size ≤ 1000000) : Calls Tryz.prog 8 #[.string s] w (LineO s.data.toList w) := by
  have HR := Lib.hid hR
  have HG := Lib.hid hG
  have HS := Lib.hid hs
  clear hR hG hs
  have HX0 := Lib.hid (blk_new w (.cells (insV insZ).toArray 23))
  have HB0 := Lib.hid (below_alloc (.cells (insV insZ).toArray 23) (Below.refl w.heap.size w))
  go_enter Tryz.func8, Tryz.ntmps8
  go_upto_region 1 with (fail)
  obtain ⟨w1, hw1⟩ : ∃ z, z = w.alloc (.cells (insV insZ).toArray 23) := ⟨_, rfl⟩
  change Code.wp _ _ _ _ (w.alloc (.cells (insV insZ).toArray 23))
  obtain ⟨g, hg⟩ : ∃ z, z = w.heap.size := ⟨_, rfl⟩
  have HGE := Lib.hid (show w.heap.size ≤ g by rw [hg]; exact Nat.le_refl _)
  rw [← hw1] at HX0 HB0 ⊢
  rw [← hg] at HX0 ⊢
  clear hw1 hg
  obtain ⟨nm, hnm⟩ : ∃ T : ByteArray, T = ⟨(Lib.cut s.data.toList [32]).1.toArray⟩ := ⟨_, rfl⟩
  obtain ⟨rs, hrs⟩ : ∃ T : ByteArray, T = ⟨(Lib.cut s.data.toList [32]).2.1.toArray⟩ := ⟨_, rfl⟩
  obtain ⟨is_, his⟩ : ∃ b : Bool, b = (Lib.cut s.data.toList [32]).2.2 := ⟨_, rfl⟩
  obtain ⟨mm, hmm⟩ := (HR.out.later HB0.out).ml
  have HCC := Lib.hid (show Calls Tryz.prog 24 #[.string s, .string ⟨#[32]⟩] w1 (fun e w' => e = .returned (.tuple #[.string nm, .string rs, .bool is_]) ∧ ∃ n, w' = w1.drewN n) from by rw [hnm, hrs, his]; exact Tryz.strings_Cut s ⟨#[32]⟩ mm w1 (by have := HS.out; omega) hmm)
  have HNM := Lib.hid (show nm.data.toList = (Lib.cut s.data.toList [32]).1 by rw [hnm])
  have HRS := Lib.hid (show rs = ⟨⟨(Lib.cut s.data.toList [32]).2.1⟩⟩ by rw [hrs])
  have HLR := Lib.hid (show rs.size ≤ 1000000 by rw [hrs]; exact Nat.le_trans (cut_le2 s.data.toList [32]) HS.out)
  clear hnm hrs his hmm mm
  go_wp2_with fail
  refine HCC.out.mono ?_
  rintro e w2 ⟨rfl, nn, hw2⟩
  have hb2 : Below w1.heap.size w1 w2 := by rw [hw2]; exact below_drewN (Below.refl _ _) nn
  have HX2 := Lib.hid (blk_below HX0.out hb2)
  have HB2 := Lib.hid (HB0.out.trans (hb2.mono HB0.out.size))
  clear hw2 hb2 HCC HX0 HB0
  go_wp2_with fail
  refine (operands_any w2 (HR.out.later HB2.out) (HG.out.below HB2.out) rs HLR.out).mono ?_
  rintro e w3 ⟨v, l, ok, rfl, hops, hrow, hb3, hsl⟩
  have HOPS := Lib.hid hops
  have HROW := Lib.hid hrow
  have HSL := Lib.hid hsl
  have HX3 := Lib.hid (blk_below HX2.out hb3)
  have HB3 := Lib.hid (HB2.out.trans (hb3.mono HB2.out.size))
  clear hops hrow hb3 hsl HX2 HB2
  cases ok with
  | false =>
    obtain ⟨A, n, c, rfl⟩ := HSL.out
    go_wp2_with (refine wsx g rfl rfl rfl rfl HX3 (by kernel_rfl) ?_; intro x7 k7 hb7 hz7 ho7; obtain ⟨q0, q1, q2, q3, q4, q5, q6, q7⟩ := cq k7)
    refine bodyPost_ret (by simp [results, Tryz.results8, go_sem, q0, q1, q2, q3, q4, q5, q6, q7]; try rfl) rfl ?_
    exact ⟨insZ, false, rfl, ⟨l, false, by rw [← HRS.out]; exact HOPS.out, Or.inl ⟨rfl, rfl⟩⟩, hb7 _ _ HGE.out HB3.out⟩
  | true =>
    have HRO := Lib.hid (HROW.out rfl)
    have HLN := Lib.hid (show l.length ≤ 100000000 from by
      rcases HOPS.out with ⟨_, rfl, _⟩ | ⟨_, _, hlen, _⟩ | ⟨_, h, _⟩
      · simp
      · rw [hlen, pieces_len]; have := count_le' rs; have := HLR.out; omega
      · cases h)
    obtain ⟨A, n, c, rfl⟩ := HSL.out
    go_wp2_with fail
    refine (build_any w3 (HG.out.below HB3.out) nm _ _ l HRO.out HLN.out).mono ?_
    rintro e w4 ⟨x, b, rfl, hy, hn, hb4⟩
    have HY := Lib.hid hy
    have HN := Lib.hid hn
    have HX4 := Lib.hid (blk_below HX3.out hb4)
    have HB4 := Lib.hid (HB3.out.trans (hb4.mono HB3.out.size))
    clear hy hn hb4 HX3 HB3 HROW HRO HSL
    have HG8 := Lib.hid (show g < w4.heap.size from blk_lt HX4.out)
    go_upto_region 6 with (refine wpList_store_blk (by rfl) 23 _ _ (by rfl) w4.heap.size (by rfl) (by rfl) (blk_new w4 (.cells (insV insZ).toArray 23)) (by rfl) (by kernel_rfl) (by kernel_rfl) ?_; intro wj k8 hb8 hz8 ho8)
    have HB5 := Lib.hid (hb8 w.heap.size w (Nat.le_of_lt (Nat.lt_of_le_of_lt HGE.out HG8.out)) (HB4.out.trans ((below_alloc (.cells (insV insZ).toArray 23) (Below.refl w4.heap.size w4)).mono HB4.out.size)))
    have HX5 := Lib.hid ((ho8 g (Nat.ne_of_lt HG8.out)).trans (blk_alloc HX4.out _))
    have HZ := Lib.hid k8
    obtain ⟨gx, hgx⟩ : ∃ z, z = w4.heap.size := ⟨_, rfl⟩
    rw [← hgx] at HZ ⊢
    clear hgx HX4 HB4 k8 hb8 hz8 ho8 HG8
    cases b with
    | false =>
      have HBJ := Lib.hid (show Below wj.heap.size wj wj.drew from Below.drew (Below.refl _ _))
      refine upto_begin 8 (fun w' => Below wj.heap.size wj w') (by kernel_rfl) ?_ (fun hU0 => ?_)
      · exact HBJ.out
      refine ur 1 (v := ?_) hU0 rfl (by kernel_rfl) (fun _ _ _ h => h) rfl ?_ ?_
      rotate_left
      focus intro w _; go_simp; first | done | with_reducible rfl
      try simp only [Act.put, List.setIfInBounds_toArray, List.set_cons_zero, List.set_cons_succ]
      refine ur 2 (v := ?_) hU0 rfl (by kernel_rfl) (fun _ _ _ h => h) rfl ?_ ?_
      rotate_left
      focus intro w _; go_simp; first | done | with_reducible rfl
      try simp only [Act.put, List.setIfInBounds_toArray, List.set_cons_zero, List.set_cons_succ]
      refine urd 0 (v := ?_) hU0 rfl (by kernel_rfl) (fun _ _ _ h => h) rfl ?_ ?_
      rotate_left
      · refine load_x (S := fun w' => Below wj.heap.size wj w') ?lx1 ?lo1 gx ?lh1 [.int .i64 x.op, .int .i64 x.dst, .int .i64 x.src, .int .i64 x.imm, .int .i64 x.size, .bool x.signed, .int .i64 x.cond, .string x.to_] rfl (fun w hw => blk_below HZ.out hw)
        case lo1 => rfl
        case lh1 => rfl
      try simp only [Act.put, List.setIfInBounds_toArray, List.set_cons_zero, List.set_cons_succ]
      refine upto_run 3 (v := undef) hU0 (by kernel_rfl) rfl (by kernel_rfl) (by kernel_rfl) (by kernel_rfl) (by kernel_rfl) (fun _ _ _ h => h) (Or.inr ⟨by rfl, rfl⟩) ?_
      try simp only [Act.put, List.setIfInBounds_toArray, List.set_cons_zero, List.set_cons_succ]
      refine upto_run 4 (v := undef) hU0 (by kernel_rfl) rfl (by kernel_rfl) (by kernel_rfl) (by kernel_rfl) (by kernel_rfl) (fun _ _ _ h => h) (Or.inr ⟨by rfl, rfl⟩) ?_
      try simp only [Act.put, List.setIfInBounds_toArray, List.set_cons_zero, List.set_cons_succ]
      refine upto_run 5 (v := undef) hU0 (by kernel_rfl) rfl (by kernel_rfl) (by kernel_rfl) (by kernel_rfl) (by kernel_rfl) (fun _ _ _ h => h) (Or.inr ⟨by rfl, rfl⟩) ?_
      try simp only [Act.put, List.setIfInBounds_toArray, List.set_cons_zero, List.set_cons_succ]
      refine upto_run 6 (v := undef) hU0 (by kernel_rfl) rfl (by kernel_rfl) (by kernel_rfl) (by kernel_rfl) (by kernel_rfl) (fun _ _ _ h => h) (Or.inr ⟨by rfl, rfl⟩) ?_
      try simp only [Act.put, List.setIfInBounds_toArray, List.set_cons_zero, List.set_cons_succ]
      refine ur 7 (v := ?_) hU0 rfl (by kernel_rfl) (fun _ _ _ h => h) rfl ?_ ?_
      rotate_left
      focus intro w _; go_simp; first | done | with_reducible rfl
      try simp only [Act.put, List.setIfInBounds_toArray, List.set_cons_zero, List.set_cons_succ]
      refine upto_next 8 rfl (by kernel_rfl) (fun K hK => ?_)
      refine step_store_blk rfl 23 _ _ rfl g rfl rfl (blk_below HX5.out HBJ.out) rfl (by kernel_rfl) (by kernel_rfl) ?_
      intro x7 k7 hb7 hz7 ho7
      obtain ⟨q0, q1, q2, q3, q4, q5, q6, q7⟩ := cq k7
      try go_simp
      first | refine hK.out _ _ ?_ fun hU1 => ?_ | (go_wp2_with fail; refine hK.out _ _ ?_ fun hU1 => ?_)
      · exact Or.inl (by kernel_rfl)
      clear hK K
      clear hU0
      try simp only [Act.put, List.setIfInBounds_toArray, List.set_cons_zero, List.set_cons_succ]
      refine ur 9 (v := ?_) hU1 rfl (by kernel_rfl) (fun _ _ _ h => h) rfl ?_ ?_
      rotate_left
      focus intro w _; go_simp; first | done | with_reducible rfl
      try simp only [Act.put, List.setIfInBounds_toArray, List.set_cons_zero, List.set_cons_succ]
      refine upto_done (by kernel_rfl) ?_ _
      go_wp2_with fail
      refine bodyPost_ret (by simp [results, Tryz.results8, go_sem, q0, q1, q2, q3, q4, q5, q6, q7]; try rfl) rfl ?_
      refine ⟨x, false, rfl, ⟨l, true, by rw [← HRS.out]; exact HOPS.out, Or.inr ⟨rfl, fun y hy => ?_, fun _ => rfl⟩⟩, hb7 _ _ HGE.out (HB5.out.trans (HBJ.out.mono HB5.out.size))⟩
      have := (HY.out y (by rw [HNM.out]; exact hy)).2
      cases this
    | true =>
      have HBY := Lib.hid (show ∃ y, buildF nm.data.toList l = some y by
        cases hB : buildF nm.data.toList l with
        | none => exact absurd (HN.out hB) (by decide)
        | some y => exact ⟨y, rfl⟩)
      obtain ⟨y, hy⟩ := HBY.out
      obtain rfl := (HY.out y hy).1
      have HBX := Lib.hid hy
      have HXI := Lib.hid (build_in (opsR_in HOPS.out) hy)
      obtain ⟨T, hT⟩ : ∃ T : ByteArray, T = ⟨⟨showX x⟩⟩ := ⟨_, rfl⟩
      have HTL := Lib.hid (show T.toList = showX x by rw [hT, Lib.toList_data])
      have HSH := Lib.hid (fun W (h1 : GsOk W) (h2 : PowOk W) => show_x W h1 h2 x HXI.out)
      rw [← hT] at HSH
      clear hy hT HY HN
      have HBJ := Lib.hid (show Below wj.heap.size wj wj.drew from Below.drew (Below.refl _ _))
      obtain ⟨z0, z1, z2, z3, z4, z5, z6, z7⟩ := cq HZ.out
      have zl := blk_lt HZ.out
      refine upto_begin 8 (fun w' => Below wj.heap.size wj w') (by kernel_rfl) ?_ (fun hU0 => ?_)
      · exact HBJ.out
      refine ur 1 (v := ?_) hU0 rfl (by kernel_rfl) (fun _ _ _ h => h) rfl ?_ ?_
      rotate_left
      focus intro w _; go_simp; first | done | with_reducible rfl
      try simp only [Act.put, List.setIfInBounds_toArray, List.set_cons_zero, List.set_cons_succ]
      refine ur 2 (v := ?_) hU0 rfl (by kernel_rfl) (fun _ _ _ h => h) rfl ?_ ?_
      rotate_left
      focus intro w _; go_simp; first | done | with_reducible rfl
      try simp only [Act.put, List.setIfInBounds_toArray, List.set_cons_zero, List.set_cons_succ]
      refine ur 5 (v := ?_) hU0 rfl (by kernel_rfl) (fun _ _ _ h => h) rfl ?_ ?_
      rotate_left
      focus intro w _; go_simp; first | done | with_reducible rfl
      try simp only [Act.put, List.setIfInBounds_toArray, List.set_cons_zero, List.set_cons_succ]
      refine urd 0 (v := ?_) hU0 rfl (by kernel_rfl) (fun _ _ _ h => h) rfl ?_ ?_
      rotate_left
      · refine load_x (S := fun w' => Below wj.heap.size wj w') ?lx1 ?lo1 gx ?lh1 [.int .i64 x.op, .int .i64 x.dst, .int .i64 x.src, .int .i64 x.imm, .int .i64 x.size, .bool x.signed, .int .i64 x.cond, .string x.to_] rfl (fun w hw => blk_below HZ.out hw)
        case lo1 => rfl
        case lh1 => rfl
      try simp only [Act.put, List.setIfInBounds_toArray, List.set_cons_zero, List.set_cons_succ]
      refine upto_next 3 rfl (by kernel_rfl) (fun K hK => ?_)
      go_simp
      first | refine hK.out _ _ ?_ fun hU1 => ?_ | (go_wp2_with fail; refine hK.out _ _ ?_ fun hU1 => ?_)
      · exact Or.inr HBJ.out
      clear hK K
      clear hU0
      try simp only [Act.put, List.setIfInBounds_toArray, List.set_cons_zero, List.set_cons_succ]
      refine upto_next 4 rfl (by kernel_rfl) (fun K hK => ?_)
      go_simp
      go_at_call 27
      refine (HSH.out _ (HG.out.below (HB5.out.trans (HBJ.out.mono HB5.out.size))) ((HR.out.later (HB5.out.trans (HBJ.out.mono HB5.out.size))).pw)).mono ?_
      rintro e w9 ⟨rfl, hb9⟩
      have HBJ := Lib.hid (HBJ.out.trans (hb9.mono HBJ.out.size))
      clear hb9
      go_simp
      first | refine hK.out _ _ ?_ fun hU2 => ?_ | (go_wp2_with fail; refine hK.out _ _ ?_ fun hU2 => ?_)
      · exact Or.inr HBJ.out
      clear hK K
      clear hU1
      try simp only [Act.put, List.setIfInBounds_toArray, List.set_cons_zero, List.set_cons_succ]
      refine ur 6 (v := ?_) hU2 rfl (by kernel_rfl) (fun _ _ _ h => h) rfl ?_ ?_
      rotate_left
      focus intro w _; go_simp; first | done | with_reducible rfl
      try simp only [Act.put, List.setIfInBounds_toArray, List.set_cons_zero, List.set_cons_succ]
      refine ur 7 (v := ?_) hU2 rfl (by kernel_rfl) (fun _ _ _ h => h) rfl ?_ ?_
      rotate_left
      focus intro w _; go_simp; first | done | with_reducible rfl
      try simp only [Act.put, List.setIfInBounds_toArray, List.set_cons_zero, List.set_cons_succ]
      refine upto_next 8 rfl (by kernel_rfl) (fun K hK => ?_)
      refine step_store_blk rfl 23 _ _ rfl g rfl rfl (blk_below HX5.out HBJ.out) rfl (by kernel_rfl) (by kernel_rfl) ?_
      intro x7 k7 hb7 hz7 ho7
      obtain ⟨q0, q1, q2, q3, q4, q5, q6, q7⟩ := cq k7
      try go_simp
      first | refine hK.out _ _ ?_ fun hU3 => ?_ | (go_wp2_with fail; refine hK.out _ _ ?_ fun hU3 => ?_)
      · exact Or.inl (by kernel_rfl)
      clear hK K
      clear hU2
      try simp only [Act.put, List.setIfInBounds_toArray, List.set_cons_zero, List.set_cons_succ]
      refine ur 9 (v := ?_) hU3 rfl (by kernel_rfl) (fun _ _ _ h => h) rfl ?_ ?_
      rotate_left
      focus intro w _; go_simp; first | done | with_reducible rfl
      try simp only [Act.put, List.setIfInBounds_toArray, List.set_cons_zero, List.set_cons_succ]
      refine upto_done (by kernel_rfl) ?_ _
      go_wp2_with fail
      refine bodyPost_ret (by simp [results, Tryz.results8, go_sem, q0, q1, q2, q3, q4, q5, q6, q7]; try rfl) rfl ?_
      refine ⟨x, _, rfl, ⟨l, true, by rw [← HRS.out]; exact HOPS.out, Or.inr ⟨rfl, fun y hy => ?_, fun h => ?_⟩⟩, hb7 _ _ HGE.out (HB5.out.trans (HBJ.out.mono HB5.out.size))⟩
      · rw [← HNM.out, HBX.out] at hy
        cases hy
        refine ⟨rfl, ?_⟩
        rw [HTL.out, Lib.toList_data]
        by_cases he : showX x = s.data.toList
        · rw [decide_eq_true he, beq_iff_eq.2 he]
        · rw [decide_eq_false he, beq_eq_false_iff_ne.2 he]
      · rw [← HNM.out, HBX.out] at h
        cases h
end Go.Proofs.YtmmpkkpmlaiapaaGreatDoor
namespace Go.Proofs.YtmmpkkpmlaiapaaGreatDoor
open Go.RowKit
set_option linter.unusedVariables false
def piecesS (sep : ByteArray) (s : ByteArray) : List ByteArray := Lib.splitB sep 0 (Lib.countB s sep) s
theorem splitS_len (sep : ByteArray) : ∀ (k : Nat) (s : ByteArray), ∀ p ∈ Lib.splitB sep 0 k s, p.size ≤ s.size
  | 0, s, p, h => by
    rw [Lib.splitB_zero] at h
    rw [List.mem_singleton.1 h]
    exact Nat.le_refl _
  | k + 1, s, p, h => by
    unfold Lib.splitB at h
    split at h
    · rw [List.mem_singleton.1 h]
      exact Nat.le_refl _
    · rcases List.mem_cons.1 h with rfl | h
      · rw [ByteArray.size_extract]; omega
      · have := splitS_len sep k _ p h
        rw [ByteArray.size_extract] at this
        omega
theorem piecesS_le {sep s p : ByteArray} (h : p ∈ piecesS sep s) : p.size ≤ s.size := splitS_len sep _ s p h
theorem piecesS_len {sep : ByteArray} (hs : 0 < sep.size) (s : ByteArray) : (piecesS sep s).length = Lib.countB s sep + 1 := Lib.splitB_all sep hs 0 _ s rfl
theorem countS_le {sep : ByteArray} (hs : 0 < sep.size) (s : ByteArray) : Lib.countB s sep ≤ s.size + 1 := by
  have := Lib.countB_le sep hs s.size s (Nat.le_refl _)
  omega
def cmB : ByteArray := ⟨#[44]⟩
def byteF (p : List UInt8) : Option Int := match numF p with
  | some v => if 0 ≤ v ∧ v ≤ 255 then some v else none
  | none => none
def bsF (ps : List ByteArray) (j : Nat) : List Int := (ps.take j).map fun p => (byteF p.data.toList).getD 0
def okB (ps : List ByteArray) (j : Nat) : Prop := ∀ (i : Nat) p, i < j → ps[i]? = some p → (byteF p.data.toList).isSome = true
theorem bsF_len {ps : List ByteArray} {j : Nat} (h : j ≤ ps.length) : (bsF ps j).length = j := by unfold bsF; simp; omega
theorem bsF_snoc {ps : List ByteArray} {j : Nat} {p : ByteArray} (h : ps[j]? = some p) : bsF ps (j + 1) = bsF ps j ++ [(byteF p.data.toList).getD 0] := by
  unfold bsF
  rw [take_more h, List.map_append]
  rfl
open Classical in
noncomputable def bytesF (ps : List ByteArray) : Option (List Int) := if okB ps ps.length then some (bsF ps ps.length) else none
def byL : List UInt8 := [46, 98, 121, 116, 101]
def quL : List UInt8 := [46, 113, 117, 97, 100]
def pubs : List (List UInt8) := [[46, 112, 117, 98, 108, 105, 99], [46, 115, 101, 99, 114, 101, 116], [46, 122, 101, 114, 111]]
theorem pubs_at (j : Nat) (h : j < 3) : (pubs.map fun x => Value.string ⟨⟨x⟩⟩).toArray[j]? = some (.string ⟨⟨pubs.getD j []⟩⟩) := by
  match j, h with
  | 0, _ => rfl
  | 1, _ => rfl
  | 2, _ => rfl
def emB : ByteArray := ⟨⟨[]⟩⟩
def numD (k : Int) (r : List UInt8) : Option XDatumD := match numF r with
  | some v => if 0 ≤ v ∧ v ≤ 65536 then some ⟨k, emB, [], v⟩ else none
  | none => none
def pubG (n : List UInt8) (j : Nat) : Option Nat := if pubs.getD j [] = n then some j else none
noncomputable def datumF (s : List UInt8) : Option XDatumD :=
  if (Lib.cut s [32]).1 = byL then (bytesF (piecesS cmB ⟨⟨(Lib.cut s [32]).2.1⟩⟩)).map fun bs => ⟨1, emB, bs, 0⟩
  else if (Lib.cut s [32]).1 = quL then (if namedB ⟨⟨(Lib.cut s [32]).2.1⟩⟩ = true then some ⟨2, ⟨⟨(Lib.cut s [32]).2.1⟩⟩, [], 0⟩ else none)
  else match firstF (pubG (Lib.cut s [32]).1) 3 with
    | some j => numD (3 + (j : Int)) (Lib.cut s [32]).2.1
    | none => none
end Go.Proofs.YtmmpkkpmlaiapaaGreatDoor
