/- AsmPrints: the law walked. No condition. -/
import Derived.Deep.RegionHeld3
import Derived.Test.YtpkbkmppkgeklaaDoorPrY
import Derived.Test.YtpkbkmppkgeklaaDoorPrS
import Derived.Test.YtpkbkmppkgeklaaDoorFitG
namespace Go.Proofs.YtpkbkmppkgeklaaDoor
open Go
set_option linter.unusedVariables false
section
variable {P : Program} {Q : Exit → Act → World → Prop} {S : World → Prop} {n : Nat}
/-- S holds, or number n has come up -/
def UpTo (n : Nat) (S : World → Prop) (listed : Array Bool) (w : World) : Prop := listed.getD n true = true ∨ S w
def wpAnyU (P : Program) (ops : Array Oper) (Q : Exit → Act → World → Prop) (S : World → Prop) (n : Nat) : Nat → Array Bool → Act → World → Prop
  | 0, listed, a, w => Region.ready .any ops listed = [] ∧ Q .normal a w
  | fuel + 1, listed, a, w =>
    (Region.ready .any ops listed = [] → Q .normal a w) ∧
    ∀ i ∈ Region.ready .any ops listed, wpOp P ops Q i (fun a' w' => UpTo n S (listed.setIfInBounds i true) w' ∧ wpAnyU P ops Q S n fuel (listed.setIfInBounds i true) a' w') a w
theorem wpAny_of_upto {ops : Array Oper} : ∀ (fuel : Nat) (listed : Array Bool) (a : Act) (w : World), wpAnyU P ops Q S n fuel listed a w → wpAny P .any ops Q fuel listed a w
  | 0, _, _, _, h => h
  | fuel + 1, _, _, _, h => ⟨h.1, fun i hi => wpOp_mono (fun a' w' h' => wpAny_of_upto fuel _ a' w' h'.2) (h.2 i hi)⟩
theorem upto_first {ops : Array Oper} {i : Nat} {oi on_ : Oper} {v : Value} (hi : ops[i]? = some oi) (hn : ops[n]? = some on_) (hw : ∃ e ∈ on_.after, Region.binds .any e = true ∧ e.on = i) (hne : n ≠ i)
    (hsel : ∀ (j : Nat) (o : Oper) cs b, ops[j]? = some o → o.op ≠ .select cs b) (hQ : ∀ c a w, Q (.panic c) (a.put oi.dst v) w → Q (.panic c) a w) :
    ∀ (fuel : Nat) (listed : Array Bool) (a : Act) (w : World), listed.getD n true = false →
      (∀ j oj, ops[j]? = some oj → j ≠ i → listed.getD j true = false → (∀ e ∈ oj.after, Region.binds .any e = true → e.on ≠ i) → oi.apart ops oj = true) →
      i ∈ Region.ready .any ops listed → YieldsIf P ops S oi v a → S w →
      wpAnyU P ops Q S n fuel (listed.setIfInBounds i true) (a.put oi.dst v) w → wpAnyU P ops Q S n (fuel + 1) listed a w := by
  intro fuel
  induction fuel with
  | zero =>
    intro listed a w hnl _ hr hy hS H
    refine ⟨fun h => (by rw [h] at hr; cases hr), fun j hj => ?_⟩
    by_cases hji : j = i
    · subst hji; exact hy.wpOp hi hS ⟨Or.inr hS, H⟩
    · have := ready_mono hj hji
      rw [H.1] at this
      cases this
  | succ fuel ih =>
    intro listed a w hnl hfree hr hy hS H
    refine ⟨fun h => (by rw [h] at hr; cases hr), fun j hj => ?_⟩
    by_cases hji : j = i
    · subst hji; exact hy.wpOp hi hS ⟨Or.inr hS, H⟩
    · have h1 := H.2 j (ready_mono hj hji)
      obtain ⟨hjun, oj, hoj, hall⟩ := mem_ready.1 hj
      have hclash : ∀ e ∈ oj.after, Region.binds .any e = true → e.on ≠ i := fun e he hb heq => by
        have h1 := hall e he hb
        have h0 := (mem_ready.1 hr).1
        rw [heq] at h1
        rcases Nat.lt_or_ge i listed.size with h' | h'
        · simp [h'] at h0 h1; rw [h0] at h1; cases h1
        · simp [Array.getElem?_eq_none h'] at h1
      have hjn : j ≠ n := fun e => by
        subst e
        obtain ⟨ed, h2, h3, h4⟩ := hw
        rw [hn] at hoj
        obtain rfl := Option.some.inj hoj
        exact hclash ed h2 h3 h4
      have hnl2 : (listed.setIfInBounds j true).getD n true = false := by rw [getD_set_ne true hjn]; exact hnl
      have h2 := wpOp_putIf hoj (hfree j oj hoj hji hjun hclash) (fun cs b => hsel i oi cs b hi) (fun cs b => hsel j oj cs b hoj) hQ hy h1
      have hfree' : ∀ k ok, ops[k]? = some ok → k ≠ i → (listed.setIfInBounds j true).getD k true = false →
          (∀ e ∈ ok.after, Region.binds .any e = true → e.on ≠ i) → oi.apart ops ok = true := fun k ok hk hki hun hno => by
        refine hfree k ok hk hki ?_ hno
        by_cases hjk : j = k
        · subst hjk; exact hjun
        · rw [getD_set_ne true hjk] at hun; exact hun
      refine wpOp_mono (fun a' w' h3 => ?_) h2
      have hS' : S w' := by
        rcases h3.2.1 with h4 | h4
        · rw [getD_set_ne true hjn, getD_set_ne true (Ne.symm hne), hnl] at h4; cases h4
        · exact h4
      refine ⟨Or.inr hS', ih (listed.setIfInBounds j true) a' w' hnl2 hfree' (ready_mono hr (Ne.symm hji)) h3.1 hS' ?_⟩
      rw [Array.setIfInBounds_comm _ _ hji]
      exact h3.2.2
theorem upto_any {ops : Array Oper} {i : Nat} {oi : Oper} {v : Value} (hi : ops[i]? = some oi) (hne : n ≠ i)
    (hsel : ∀ (j : Nat) (o : Oper) cs b, ops[j]? = some o → o.op ≠ .select cs b) (hQ : ∀ c a w, Q (.panic c) (a.put oi.dst v) w → Q (.panic c) a w) :
    ∀ (fuel : Nat) (listed : Array Bool) (a : Act) (w : World), UpTo n S listed w →
      (∀ j oj, ops[j]? = some oj → j ≠ i → listed.getD j true = false → (∀ e ∈ oj.after, Region.binds .any e = true → e.on ≠ i) → oi.apart ops oj = true) →
      i ∈ Region.ready .any ops listed → YieldsIf P ops (fun _ => True) oi v a →
      wpAnyU P ops Q S n fuel (listed.setIfInBounds i true) (a.put oi.dst v) w → wpAnyU P ops Q S n (fuel + 1) listed a w := by
  have up : ∀ {listed : Array Bool} {w : World}, UpTo n S listed w ↔ UpTo n S (listed.setIfInBounds i true) w := by
    intro listed w
    unfold UpTo
    rw [getD_set_ne true (Ne.symm hne)]
  intro fuel
  induction fuel with
  | zero =>
    intro listed a w hS _ hr hy H
    refine ⟨fun h => (by rw [h] at hr; cases hr), fun j hj => ?_⟩
    by_cases hji : j = i
    · subst hji; exact hy.wpOp hi trivial ⟨up.1 hS, H⟩
    · have := ready_mono hj hji
      rw [H.1] at this
      cases this
  | succ fuel ih =>
    intro listed a w hS hfree hr hy H
    refine ⟨fun h => (by rw [h] at hr; cases hr), fun j hj => ?_⟩
    by_cases hji : j = i
    · subst hji; exact hy.wpOp hi trivial ⟨up.1 hS, H⟩
    · have h1 := H.2 j (ready_mono hj hji)
      obtain ⟨hjun, oj, hoj, hall⟩ := mem_ready.1 hj
      have hclash : ∀ e ∈ oj.after, Region.binds .any e = true → e.on ≠ i := fun e he hb heq => by
        have h1 := hall e he hb
        have h0 := (mem_ready.1 hr).1
        rw [heq] at h1
        rcases Nat.lt_or_ge i listed.size with h' | h'
        · simp [h'] at h0 h1; rw [h0] at h1; cases h1
        · simp [Array.getElem?_eq_none h'] at h1
      have h2 := wpOp_putIf hoj (hfree j oj hoj hji hjun hclash) (fun cs b => hsel i oi cs b hi) (fun cs b => hsel j oj cs b hoj) hQ hy h1
      have hfree' : ∀ k ok, ops[k]? = some ok → k ≠ i → (listed.setIfInBounds j true).getD k true = false →
          (∀ e ∈ ok.after, Region.binds .any e = true → e.on ≠ i) → oi.apart ops ok = true := fun k ok hk hki hun hno => by
        refine hfree k ok hk hki ?_ hno
        by_cases hjk : j = k
        · subst hjk; exact hjun
        · rw [getD_set_ne true hjk] at hun; exact hun
      refine wpOp_mono (fun a' w' h3 => ?_) h2
      have e : (listed.setIfInBounds i true).setIfInBounds j true = (listed.setIfInBounds j true).setIfInBounds i true := Array.setIfInBounds_comm _ _ (Ne.symm hji)
      have hS' : UpTo n S (listed.setIfInBounds j true) w' := up.2 (by rw [← e]; exact h3.2.1)
      refine ⟨hS', ih (listed.setIfInBounds j true) a' w' hS' hfree' (ready_mono hr (Ne.symm hji)) h3.1 ?_⟩
      rw [Array.setIfInBounds_comm _ _ hji]
      exact h3.2.2
variable {ops : List Oper}
theorem nth_ofU {i : Nat} {oi : Oper} (h : (ops.drop i).head? = some oi) : ops.toArray[i]? = some oi := by
  rw [List.getElem?_toArray, ← List.head?_drop]; exact h
def waitsFor (ops : List Oper) (n i : Nat) : Bool := match (ops.drop n).head? with | some o => o.after.any (fun e => Region.binds .any e && e.on == i) | none => false
theorem waitsFor_spec {i : Nat} (h : waitsFor ops n i = true) : ∃ on_, ops.toArray[n]? = some on_ ∧ ∃ e ∈ on_.after, Region.binds .any e = true ∧ e.on = i := by
  unfold waitsFor at h
  split at h
  · rename_i o ho
    obtain ⟨e, he, h2⟩ := Array.any_eq_true'.1 h
    simp only [Bool.and_eq_true, beq_iff_eq] at h2
    exact ⟨o, nth_ofU ho, e, he, h2.1, h2.2⟩
  · cases h
theorem UpTo.like {l l' : Array Bool} {w : World} (h : UpTo n S l w) (e : (l.getD n true == l'.getD n true) = true) : UpTo n S l' w := by
  have e' : l.getD n true = l'.getD n true := by simpa using e
  unfold UpTo at *
  rwa [← e']
theorem UpTo.holds {l : Array Bool} {w : World} (h : UpTo n S l w) (e : l.getD n true = false) : S w := by
  rcases h with h | h
  · rw [h] at e; cases e
  · exact h
/-- the beginning -/
theorem upto_begin (n : Nat) (S : World → Prop) {id : Nat} {a : Act} {w : World} (hm : P.follows .mixedOrders = true) (hS : S w.drew)
    (h : UpTo n S (Array.replicate ops.toArray.size false) w.drew → wpAnyU P ops.toArray Q S n ops.toArray.size (Array.replicate ops.toArray.size false) a w.drew) : (Code.region id ops.toArray true).wp P Q a w :=
  wp_region_any hm (wpAny_of_upto _ _ _ _ (h (Or.inr hS)))
/-- number i runs first: it looks at what S tells, number n waits for it -/
theorem upto_read (i : Nat) {oi : Oper} {v : Value} {fuel : Nat} {listed l0 : Array Bool} {a : Act} {w : World} (hS : UpTo n S l0 w) (hl : (l0.getD n true == listed.getD n true) = true) (hi : (ops.drop i).head? = some oi) (hw : waitsFor ops n i = true) (hnl : (listed.getD n true || n == i) = false)
    (hs : Region.noSelect ops.toArray = true) (hf : Region.free .any ops.toArray listed i = true) (hr : (Region.ready .any ops.toArray listed).contains i = true)
    (hQ : ∀ c a w, Q (.panic c) (a.put oi.dst v) w → Q (.panic c) a w) (hy : YieldsIf P ops.toArray S oi v a)
    (h : wpAnyU P ops.toArray Q S n fuel (listed.setIfInBounds i true) (a.put oi.dst v) w) : wpAnyU P ops.toArray Q S n (fuel + 1) listed a w := by
  obtain ⟨on_, h1, h2⟩ := waitsFor_spec hw
  rw [Bool.or_eq_false_iff] at hnl
  exact upto_first (nth_ofU hi) h1 h2 (by simpa using hnl.2) (Region.noSelect_spec hs) hQ fuel listed a w hnl.1 (Region.free_spec (nth_ofU hi) hf) (by simpa using hr) hy ((hS.like hl).holds hnl.1) h
/-- number i runs first: it looks at no memory; or it is skipped -/
theorem upto_run (i : Nat) {oi : Oper} {v : Value} {fuel : Nat} {listed l0 : Array Bool} {a : Act} {w : World} (hS : UpTo n S l0 w) (hl : (l0.getD n true == listed.getD n true) = true) (hi : (ops.drop i).head? = some oi) (hne : (n == i) = false)
    (hs : Region.noSelect ops.toArray = true) (hf : Region.free .any ops.toArray listed i = true) (hr : (Region.ready .any ops.toArray listed).contains i = true)
    (hQ : ∀ c a w, Q (.panic c) (a.put oi.dst v) w → Q (.panic c) a w) (hy : YieldsIf P ops.toArray (fun _ => True) oi v a)
    (h : wpAnyU P ops.toArray Q S n fuel (listed.setIfInBounds i true) (a.put oi.dst v) w) : wpAnyU P ops.toArray Q S n (fuel + 1) listed a w :=
  upto_any (nth_ofU hi) (by simpa using hne) (Region.noSelect_spec hs) hQ fuel listed a w (hS.like hl) (Region.free_spec (nth_ofU hi) hf) (by simpa using hr) hy h
/-- number i comes up next, alone -/
theorem upto_next (i : Nat) {o : Oper} {fuel : Nat} {listed : Array Bool} {a : Act} {w : World} (hi : (ops.drop i).head? = some o) (hr : Region.ready .any ops.toArray listed = [i])
    (h : ∀ K' : Act → World → Prop, Shut (∀ a w, UpTo n S (listed.setIfInBounds i true) w → (UpTo n S (listed.setIfInBounds i true) w → wpAnyU P ops.toArray Q S n fuel (listed.setIfInBounds i true) a w) → K' a w) → if Region.wanted o (yielded ops.toArray a.tmps) = true then Oper.wp P o a w K' Q else K' (a.put o.dst undef) w) :
    wpAnyU P ops.toArray Q S n (fuel + 1) listed a w :=
  ⟨fun h0 => (by rw [hr] at h0; cases h0), fun j hj => by
    rw [hr] at hj
    obtain rfl := List.mem_singleton.1 hj
    exact wpOp_step (nth_ofU hi) (fun K' hK => h K' (fun a w hS hW => hK a w ⟨hS, hW hS⟩))⟩
theorem upto_done {listed : Array Bool} {a : Act} {w : World} (hr : Region.ready .any ops.toArray listed = []) (h : Q .normal a w) : ∀ fuel, wpAnyU P ops.toArray Q S n fuel listed a w
  | 0 => ⟨hr, h⟩
  | _ + 1 => ⟨fun _ => h, by rw [hr]; simp⟩
end
end Go.Proofs.YtpkbkmppkgeklaaDoor
namespace Go.Proofs.YtpkbkmppkgeklaaDoor
open Go.RowKit
set_option linter.unusedVariables false
set_option maxHeartbeats 4000000
set_option maxRecDepth 20000
theorem dat_ok {w : World} {v : Value} {l : List XDatumD} (h : SlR w 4 (XDatumR w) v l) (h1 : l.length ≤ 200) (h2 : sumD l ≤ 5000) (h3 : LightD l) : DatOk l := by
  refine ⟨fun i d hd => ?_, h1, h2⟩
  obtain ⟨A, cap, rfl, _, _, h4⟩ := h
  obtain ⟨b, o, cs, _, _, _, u, _, n1, n2, ⟨A5, c5, _, _, _, n3⟩, n4, n5⟩ := h4 i d hd
  refine ⟨n5, h3 i d hd, fun j x hx => ?_⟩
  obtain ⟨b5, o5, cs5, _, _, _, q⟩ := n3 j x hx
  exact q.2
theorem cod_ok {w : World} {v : Value} {l : List XItemD} (h : SlR w 9 XItemR v l) (h1 : l.length ≤ 500) (h3 : LightC l) : CodOk l := by
  refine ⟨fun i c hc => ?_, h1⟩
  obtain ⟨A, cap, rfl, _, _, h4⟩ := h
  obtain ⟨b, o, cs, _, _, _, _, _, _, _, _, n4, _⟩ := h4 i c hc
  exact ⟨(h3 i c hc).1, (h3 i c hc).2, n4⟩
theorem prints_law (w : World) (hN : GsOk w) (hP : PowOk w) (p : XProgD) (vd vc : Value) (hd : SlR w 4 (XDatumR w) vd p.data) (hc : SlR w 9 XItemR vc p.code) (hdl : p.data.length ≤ 140737488351232) (hcl : p.code.length ≤ 140737488351232) :
    Calls Tryd.prog 7 #[.agg #[vd, vc]] w fun e w' => e = .returned (.bool true) ∧ Below w.heap.size w w' := by
  obtain ⟨A1, cap1, rfl, h11, h12, h13⟩ := hd
  obtain ⟨A2, cap2, rfl, h21, h22, h23⟩ := hc
  have H1 := Lib.hid (show SlR w 4 (XDatumR w) (.slice A1 p.data.length cap1) p.data from ⟨A1, cap1, rfl, h11, h12, h13⟩)
  have H2 := Lib.hid (show SlR w 9 XItemR (.slice A2 p.code.length cap2) p.code from ⟨A2, cap2, rfl, h21, h22, h23⟩)
  have HN := Lib.hid hN
  have HP := Lib.hid hP
  have HDL := Lib.hid hdl
  have HCL := Lib.hid hcl
  clear h11 h12 h13 h21 h22 h23 hN hP hdl hcl
  obtain ⟨w0, hw0⟩ : ∃ w0, w0 = w.alloc (.cells #[.slice A1 p.data.length cap1, .slice A2 p.code.length cap2] 47) := ⟨_, rfl⟩
  have HB0 := Lib.hid (show Below w.heap.size w w0 by rw [hw0]; exact below_alloc _ (Below.refl _ _))
  have HK0 := Lib.hid (show w0.heap[w.heap.size]? = some (.cells #[.slice A1 p.data.length cap1, .slice A2 p.code.length cap2] 47 (0, 0)) by rw [hw0]; exact blk_new w _)
  go_enter Tryd.func7, Tryd.ntmps7
  go_wp2_with fail
  rw [← hw0]
  clear hw0
  refine (fit_vm _ (HN.out.below HB0.out)).mono ?_
  rintro e w1 ⟨rfl, kb⟩
  have HB1 := Lib.hid (HB0.out.bt kb)
  have k1 := blk_below HK0.out kb
  have c0 := blk_cell (i := 0) k1 rfl
  have c1 := blk_cell (i := 1) k1 rfl
  have cl := blk_lt k1
  have HK1 := Lib.hid k1
  clear kb k1
  go_wp2_with fail
  have HN1 := Lib.hid (fun W (h : Below w1.heap.size w1 W) => HN.out.below (HB1.out.bt h))
  have HP1 := Lib.hid (fun W (h : Below w1.heap.size w1 W) => HP.out.below (HB1.out.bt h))
  have HD1 := Lib.hid (fun W (h : Below w1.heap.size w1 W) => (H1.out.later (by decide) (HB1.out.bt h)).weaken (fun cs x q => XDatumR.later q (HB1.out.bt h)))
  have HC1 := Lib.hid (fun W (h : Below w1.heap.size w1 W) => H2.out.later (by decide) (HB1.out.bt h))
  refine upto_begin 11 (fun W' => W'.cell? ⟨w.heap.size, 0, none⟩ = some (.slice A1 p.data.length cap1) ∧ W'.cell? ⟨w.heap.size, 1, none⟩ = some (.slice A2 p.code.length cap2)) (by kernel_rfl) ?_ (fun hU0 => ?_)
  · exact ⟨c0, c1⟩
  first | refine upto_read 0 (v := ?_) hU0 (by kernel_rfl) rfl (by kernel_rfl) (by kernel_rfl) (by kernel_rfl) (by kernel_rfl) (by kernel_rfl) (fun _ _ _ h => h) (Or.inl ⟨by rfl, ?_⟩) ?_ | fail
  rotate_left
  · first | (intro w hSw; (try dsimp only at hSw); go_simp; with_reducible rfl) | (intro w hSw; (try dsimp only at hSw); go_simp; done) | fail
  try simp only [Act.put, List.setIfInBounds_toArray, List.set_cons_zero, List.set_cons_succ]
  first | refine upto_next 1 rfl (by kernel_rfl) (fun K hK => ?_) | fail
  go_simp
  go_at_call 19
  refine (light_any w1.drew (HN1.out _ (Below.drew (Below.refl _ _))) (HP1.out _ (Below.drew (Below.refl _ _))) p _ _ (HD1.out _ (Below.drew (Below.refl _ _))) (HC1.out _ (Below.drew (Below.refl _ _))) HDL.out HCL.out).mono ?_
  rintro e w2 ⟨b, rfl, hb, kb⟩
  have hb2 : Below w1.heap.size w1 w2 := ⟨kb.os, kb.tape, kb.output, kb.size, kb.block⟩
  clear kb
  try go_simp
  first | refine hK.out _ _ ?_ (fun hU1 => ?_) | (go_wp2_with fail; refine hK.out _ _ ?_ (fun hU1 => ?_)) | fail
  · exact Or.inr ⟨laterC c0 hb2, laterC c1 hb2⟩
  clear hK K
  clear hU0
  try simp only [Act.put, List.setIfInBounds_toArray, List.set_cons_zero, List.set_cons_succ]
  first | refine upto_run 2 (v := ?_) hU1 (by kernel_rfl) rfl (by kernel_rfl) (by kernel_rfl) (by kernel_rfl) (by kernel_rfl) (fun _ _ _ h => h) (Or.inl ⟨by rfl, ?_⟩) ?_ | fail
  rotate_left
  · first | (intro w _; go_simp; with_reducible rfl) | (intro w _; go_simp; done) | fail
  try simp only [Act.put, List.setIfInBounds_toArray, List.set_cons_zero, List.set_cons_succ]
  first | refine upto_run 3 (v := ?_) hU1 (by kernel_rfl) rfl (by kernel_rfl) (by kernel_rfl) (by kernel_rfl) (by kernel_rfl) (fun _ _ _ h => h) (Or.inl ⟨by rfl, ?_⟩) ?_ | fail
  rotate_left
  · first | (intro w _; go_simp; with_reducible rfl) | (intro w _; go_simp; done) | fail
  try simp only [Act.put, List.setIfInBounds_toArray, List.set_cons_zero, List.set_cons_succ]
  cases b with
  | false =>
    refine upto_run 4 (v := undef) hU1 (by kernel_rfl) rfl (by kernel_rfl) (by kernel_rfl) (by kernel_rfl) (by kernel_rfl) (fun _ _ _ h => h) (Or.inr ⟨by rfl, rfl⟩) ?_
    try simp only [Act.put, List.setIfInBounds_toArray, List.set_cons_zero, List.set_cons_succ]
    refine upto_run 5 (v := undef) hU1 (by kernel_rfl) rfl (by kernel_rfl) (by kernel_rfl) (by kernel_rfl) (by kernel_rfl) (fun _ _ _ h => h) (Or.inr ⟨by rfl, rfl⟩) ?_
    try simp only [Act.put, List.setIfInBounds_toArray, List.set_cons_zero, List.set_cons_succ]
    refine upto_run 6 (v := undef) hU1 (by kernel_rfl) rfl (by kernel_rfl) (by kernel_rfl) (by kernel_rfl) (by kernel_rfl) (fun _ _ _ h => h) (Or.inr ⟨by rfl, rfl⟩) ?_
    try simp only [Act.put, List.setIfInBounds_toArray, List.set_cons_zero, List.set_cons_succ]
    refine upto_run 7 (v := undef) hU1 (by kernel_rfl) rfl (by kernel_rfl) (by kernel_rfl) (by kernel_rfl) (by kernel_rfl) (fun _ _ _ h => h) (Or.inr ⟨by rfl, rfl⟩) ?_
    try simp only [Act.put, List.setIfInBounds_toArray, List.set_cons_zero, List.set_cons_succ]
    refine upto_run 8 (v := undef) hU1 (by kernel_rfl) rfl (by kernel_rfl) (by kernel_rfl) (by kernel_rfl) (by kernel_rfl) (fun _ _ _ h => h) (Or.inr ⟨by rfl, rfl⟩) ?_
    try simp only [Act.put, List.setIfInBounds_toArray, List.set_cons_zero, List.set_cons_succ]
    refine upto_run 9 (v := undef) hU1 (by kernel_rfl) rfl (by kernel_rfl) (by kernel_rfl) (by kernel_rfl) (by kernel_rfl) (fun _ _ _ h => h) (Or.inr ⟨by rfl, rfl⟩) ?_
    try simp only [Act.put, List.setIfInBounds_toArray, List.set_cons_zero, List.set_cons_succ]
    first | refine upto_run 10 (v := ?_) hU1 (by kernel_rfl) rfl (by kernel_rfl) (by kernel_rfl) (by kernel_rfl) (by kernel_rfl) (fun _ _ _ h => h) (Or.inl ⟨by rfl, ?_⟩) ?_ | fail
    rotate_left
    · first | (intro w _; go_simp; with_reducible rfl) | (intro w _; go_simp; done) | fail
    try simp only [Act.put, List.setIfInBounds_toArray, List.set_cons_zero, List.set_cons_succ]
    first | refine upto_next 11 rfl (by kernel_rfl) (fun K hK => ?_) | fail
    go_simp
    first | refine hK.out _ _ ?_ (fun hU2 => ?_) | (go_wp2_with fail; refine hK.out _ _ ?_ (fun hU2 => ?_)) | fail
    · exact Or.inl (by kernel_rfl)
    clear hK K
    clear hU1
    try simp only [Act.put, List.setIfInBounds_toArray, List.set_cons_zero, List.set_cons_succ]
    refine upto_done (by kernel_rfl) ?_ _
    go_wp2_with fail
    go_returns
    exact ⟨rfl, HB1.out.bt hb2⟩
  | true =>
    obtain ⟨hl1, hl2, hl3, hl4, hl5⟩ := hb rfl
    have KD := Lib.hid (dat_ok (HD1.out _ (Below.refl _ _)) hl1 hl3 hl4)
    have KC := Lib.hid (cod_ok (HC1.out _ (Below.refl _ _)) hl2 hl5)
    obtain ⟨T, hT⟩ : ∃ T : ByteArray, T = ⟨⟨codT p.data p.code⟩⟩ := ⟨_, rfl⟩
    first | refine upto_read 4 (v := ?_) hU1 (by kernel_rfl) rfl (by kernel_rfl) (by kernel_rfl) (by kernel_rfl) (by kernel_rfl) (by kernel_rfl) (fun _ _ _ h => h) (Or.inl ⟨by rfl, ?_⟩) ?_ | fail
    rotate_left
    · first | (intro w hSw; (try dsimp only at hSw); go_simp; with_reducible rfl) | (intro w hSw; (try dsimp only at hSw); go_simp; done) | fail
    try simp only [Act.put, List.setIfInBounds_toArray, List.set_cons_zero, List.set_cons_succ]
    first | refine upto_read 6 (v := ?_) hU1 (by kernel_rfl) rfl (by kernel_rfl) (by kernel_rfl) (by kernel_rfl) (by kernel_rfl) (by kernel_rfl) (fun _ _ _ h => h) (Or.inl ⟨by rfl, ?_⟩) ?_ | fail
    rotate_left
    · first | (intro w hSw; (try dsimp only at hSw); go_simp; with_reducible rfl) | (intro w hSw; (try dsimp only at hSw); go_simp; done) | fail
    try simp only [Act.put, List.setIfInBounds_toArray, List.set_cons_zero, List.set_cons_succ]
    first | refine upto_next 5 rfl (by kernel_rfl) (fun K hK => ?_) | fail
    go_simp
    go_at_call 20
    refine (print_any w2 (HN1.out _ hb2) (HP1.out _ hb2) p _ _ (HD1.out _ hb2) (HC1.out _ hb2) KD.out KC.out).mono ?_
    rintro e w3 ⟨rfl, kb⟩
    have hb3 := hb2.bt kb
    rw [← hT]
    clear kb
    try go_simp
    first | refine hK.out _ _ ?_ (fun hU2 => ?_) | (go_wp2_with fail; refine hK.out _ _ ?_ (fun hU2 => ?_)) | fail
    · exact Or.inr ⟨laterC c0 hb3, laterC c1 hb3⟩
    clear hK K
    clear hU1
    try simp only [Act.put, List.setIfInBounds_toArray, List.set_cons_zero, List.set_cons_succ]
    first | refine upto_next 7 rfl (by kernel_rfl) (fun K hK => ?_) | fail
    go_simp
    go_at_call 22
    refine (old_any w3 p _ _ (HD1.out _ hb3) (HC1.out _ hb3) hl1 hl2).mono ?_
    rintro e w4 ⟨od, oc, rfl, ho1, ho2, kb⟩
    have hb4 := hb3.bt kb
    have HO1 := Lib.hid ho1
    have HO2 := Lib.hid ho2
    obtain ⟨A8, c8, rfl, _⟩ := ho1
    obtain ⟨A9, c9, rfl, _⟩ := ho2
    clear kb
    try go_simp
    first | refine hK.out _ _ ?_ (fun hU3 => ?_) | (go_wp2_with fail; refine hK.out _ _ ?_ (fun hU3 => ?_)) | fail
    · exact Or.inr ⟨laterC c0 hb4, laterC c1 hb4⟩
    clear hK K
    clear hU2
    try simp only [Act.put, List.setIfInBounds_toArray, List.set_cons_zero, List.set_cons_succ]
    first | refine upto_next 8 rfl (by kernel_rfl) (fun K hK => ?_) | fail
    go_simp
    go_at_call 21
    refine (rprint_any w4 (HN1.out _ hb4) p _ _ HO1.out HO2.out KD.out KC.out (HP1.out _ hb4)).mono ?_
    rintro e w5 ⟨rfl, kb⟩
    have hb5 := hb4.bt kb
    rw [← hT]
    clear kb
    try go_simp
    first | refine hK.out _ _ ?_ (fun hU4 => ?_) | (go_wp2_with fail; refine hK.out _ _ ?_ (fun hU4 => ?_)) | fail
    · exact Or.inr ⟨laterC c0 hb5, laterC c1 hb5⟩
    clear hK K
    clear hU3
    try simp only [Act.put, List.setIfInBounds_toArray, List.set_cons_zero, List.set_cons_succ]
    first | refine upto_run 9 (v := ?_) hU4 (by kernel_rfl) rfl (by kernel_rfl) (by kernel_rfl) (by kernel_rfl) (by kernel_rfl) (fun _ _ _ h => h) (Or.inl ⟨by rfl, ?_⟩) ?_ | fail
    rotate_left
    · first | (intro w _; go_simp; with_reducible rfl) | (intro w _; go_simp; done) | fail
    try simp only [Act.put, List.setIfInBounds_toArray, List.set_cons_zero, List.set_cons_succ]
    first | refine upto_run 10 (v := ?_) hU4 (by kernel_rfl) rfl (by kernel_rfl) (by kernel_rfl) (by kernel_rfl) (by kernel_rfl) (fun _ _ _ h => h) (Or.inl ⟨by rfl, ?_⟩) ?_ | fail
    rotate_left
    · first | (intro w _; go_simp; with_reducible rfl) | (intro w _; go_simp; done) | fail
    try simp only [Act.put, List.setIfInBounds_toArray, List.set_cons_zero, List.set_cons_succ]
    first | refine upto_next 11 rfl (by kernel_rfl) (fun K hK => ?_) | fail
    go_simp
    first | refine hK.out _ _ ?_ (fun hU5 => ?_) | (go_wp2_with fail; refine hK.out _ _ ?_ (fun hU5 => ?_)) | fail
    · exact Or.inl (by kernel_rfl)
    clear hK K
    clear hU4
    try simp only [Act.put, List.setIfInBounds_toArray, List.set_cons_zero, List.set_cons_succ]
    refine upto_done (by kernel_rfl) ?_ _
    go_wp2_with fail
    go_returns
    exact ⟨rfl, HB1.out.bt hb5⟩
end Go.Proofs.YtpkbkmppkgeklaaDoor
