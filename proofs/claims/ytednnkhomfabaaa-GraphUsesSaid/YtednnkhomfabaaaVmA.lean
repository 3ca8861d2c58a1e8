/- A machine to run closed calls: whole regions. No condition. -/
import Derived.Test.YtednnkhomfabaaaVm9
namespace Go.Proofs.Ytednnkhomfabaaa
open Go.RowKit
set_option linter.unusedVariables false
/-- do all operations from number hi on wait for those from lo to hi that may not be taken at any time? -/
def waitsSeg (m : List Nat) (fm lo hi n : Nat) : Bool := (List.range' hi (n - hi)).all (fun i => (((m.getD i 0 ||| fm) >>> lo) % 2 ^ (hi - lo)).beq (2 ^ (hi - lo) - 1))
def segLen (m : List Nat) (fm c n : Nat) : Nat → Nat → Nat
  | 0, k => k
  | f + 1, k => bif waitsSeg m fm c (c + k) n then k else segLen m fm c n f (k + 1)
def vregion {P : Program} {D : Den} (sy : Sy P D) (call : VCall) (lim nt : Nat) (ops : List Oper) (m : List Nat) (fm n : Nat) : Nat → Nat → Tr Value → VW → Option (Tr Value × VW)
  | 0, _, _, _ => none
  | f + 1, c, A, W =>
    match ops.drop c with
    | [] => some (A, W)
    | o :: l =>
      bif fm.testBit c then
        (match vregW sy ops A o with
        | some v => (match putD nt A o.dst v with | some A' => vregion sy call lim nt ops m fm n f (c + 1) A' W | none => none)
        | none => none)
      else bif waitsSeg m fm c (c + 1) n then
        (match vexec1 sy call lim ops A W o with
        | some (v, W') => (match putD nt A o.dst v with | some A' => vregion sy call lim nt ops m fm n f (c + 1) A' W' | none => none)
        | none => none)
      else
        bif waitsSeg m fm c (c + segLen m fm c n (l.length) 1) n && (0).blt (segLen m fm c n (l.length) 1) && (segLen m fm c n (l.length) 1).ble (l.length + 1) then
          (match vmulti sy call nt ops m fm (dropAll A ((o :: l).take (segLen m fm c n (l.length) 1))) W.heap ((o :: l).take (segLen m fm c n (l.length) 1)) c [] W.next with
          | some (R, s1) => vregion sy call lim nt ops m fm n f (c + segLen m fm c n (l.length) 1) (frameOf A R) ⟨heapOf W.heap R, s1⟩
          | none => none)
        else none
theorem waits_bit {m : List Nat} {fm lo hi n : Nat} (h : waitsSeg m fm lo hi n = true) {i j : Nat} (hi1 : hi ≤ i) (hin : i < n) (hj0 : lo ≤ j) (hj : j < hi) (hfl : fm.testBit j = false) : (m.getD i 0).testBit j = true := by
  unfold waitsSeg at h
  have h1 := (List.all_eq_true.1 h) i (by rw [List.mem_range'_1]; omega)
  have h2 := Nat.eq_of_beq_eq_true h1
  have h3 := congrArg (fun x => x.testBit (j - lo)) h2
  have hlt : j - lo < hi - lo := by omega
  simp only [Nat.testBit_mod_two_pow, Nat.testBit_two_pow_sub_one, hlt, decide_true, Bool.true_and, Nat.testBit_shiftRight, Nat.testBit_or] at h3
  rw [show lo + (j - lo) = j by omega, hfl, Bool.or_false] at h3
  exact h3
section
variable {P : Program} {D : Den} {sy : Sy P D} {call : VCall} {nt : Nat} {ops : Array Oper} {m : List Nat} {fm : Nat}
/-- what may be done at a state: any operation that is ready leads to such a state again; or one that looks at its operands alone is ready, and leads there -/
def StepOk (P : Program) (ops : Array Oper) (Q : Exit → Act → World → Prop) (St : Array Bool → Act → World → Prop) (listed : Array Bool) (a : Act) (w : World) : Prop :=
  (∀ i ∈ Region.ready .any ops listed, wpOp P ops Q i (fun a' w' => St (listed.setIfInBounds i true) a' w') a w) ∨
  ∃ i oi v, ops[i]? = some oi ∧ i ∈ Region.ready .any ops listed ∧ Yields P ops oi v a ∧
    (∀ j oj, ops[j]? = some oj → j ≠ i → listed.getD j true = false → (∀ e ∈ oj.after, Region.binds .any e = true → e.on ≠ i) → oi.apart ops oj = true) ∧ St (listed.setIfInBounds i true) (a.put oi.dst v) w
theorem wpAny_of {Q : Exit → Act → World → Prop} {St : Array Bool → Act → World → Prop} (he : edgesOk 0 ops.toList = true) (hsel : Region.noSelect ops = true) (hQ : ∀ c a w, ¬ Q (.panic c) a w)
    (hstep : ∀ listed a w, listed.size = ops.size → St listed a w → (∃ i, i < ops.size ∧ listed.getD i false = false) → StepOk P ops Q St listed a w)
    (hend : ∀ listed a w, listed.size = ops.size → St listed a w → (∀ i, i < ops.size → listed.getD i false = true) → Q .normal a w) :
    ∀ (f : Nat) (listed : Array Bool) (a : Act) (w : World), listed.size = ops.size → listed.toList.countP (fun b => !b) ≤ f → St listed a w → wpAny P .any ops Q f listed a w := by
  have hall : ∀ (listed : Array Bool), listed.size = ops.size → Region.ready .any ops listed = [] → ∀ i, i < ops.size → listed.getD i false = true := by
    intro listed hs hr i
    induction i using Nat.strongRecOn with
    | _ i ih =>
      intro hi
      cases hb : listed.getD i false with
      | true => rfl
      | false =>
        have : i ∈ Region.ready .any ops listed := by
          rw [mem_ready]
          refine ⟨?_, ops[i], Array.getElem?_eq_getElem hi, fun e he' hbnd => ?_⟩
          · simp [Array.getD_eq_getD_getElem?, hs, hi] at hb ⊢
            exact hb
          · have hlt := edgesOk_at ops.toList 0 he i ops[i] (by simp [hi]) e.on (by
              unfold bindsTo
              rw [List.mem_map]
              exact ⟨e, List.mem_filter.2 ⟨by simpa using he', hbnd⟩, rfl⟩)
            exact ih e.on (by omega) (by omega)
        rw [hr] at this
        cases this
  intro f
  induction f with
  | zero =>
    intro listed a w hs hc hst
    have hl : ∀ i, i < ops.size → listed.getD i false = true := by
      intro i hi
      have h0 : listed.toList.countP (fun b => !b) = 0 := by omega
      rw [List.countP_eq_zero] at h0
      have hi' : i < listed.size := by omega
      have := h0 listed[i] (by simp)
      simpa [Array.getD_eq_getD_getElem?, hi'] using this
    refine ⟨?_, hend listed a w hs hst hl⟩
    cases hr : Region.ready .any ops listed with
    | nil => rfl
    | cons i l =>
      have hi : i ∈ Region.ready .any ops listed := by rw [hr]; exact List.mem_cons_self
      obtain ⟨h1, o, h2, _⟩ := mem_ready.1 hi
      have hlt : i < ops.size := (Array.getElem?_eq_some_iff.1 h2).1
      have := hl i hlt
      simp [Array.getD_eq_getD_getElem?, hs, hlt] at h1 this
      rw [h1] at this
      cases this
  | succ f ih =>
    intro listed a w hs hc hst
    have hcount : ∀ i, i ∈ Region.ready .any ops listed → (listed.setIfInBounds i true).toList.countP (fun b => !b) ≤ f := by
      intro i hi
      obtain ⟨h1, o, h2, _⟩ := mem_ready.1 hi
      have hlt : i < listed.toList.length := by
        have := (Array.getElem?_eq_some_iff.1 h2).1
        simp [hs, this]
      have hlf : listed.toList[i] = false := by
        have hlt' : i < listed.size := by simpa using hlt
        simpa [Array.getD_eq_getD_getElem?, hlt'] using h1
      rw [Array.toList_setIfInBounds, List.countP_set hlt]
      rw [hlf]
      have : 0 < listed.toList.countP (fun b => !b) := List.countP_pos_iff.2 ⟨false, by rw [← hlf]; exact List.getElem_mem _, rfl⟩
      simp only [Bool.not_false, Bool.not_true, if_true, Bool.false_eq_true, if_false]
      omega
    by_cases hex : ∃ i, i < ops.size ∧ listed.getD i false = false
    · rcases hstep listed a w hs hst hex with h | ⟨i, oi, v, h1, h2, h3, h4, h5⟩
      · refine ⟨fun hr => hend listed a w hs hst (hall listed hs hr), fun i hi => ?_⟩
        exact wpOp_mono (fun a' w' hst' => ih _ a' w' (by simpa using hs) (hcount i hi) hst') (h i hi)
      · exact wpAny_first h1 (fun j o cs b => Region.noSelect_spec hsel j o cs b) (fun c a w hq => absurd hq (hQ c _ w)) f listed a w h4 h2 h3 (ih _ _ w (by simpa using hs) (hcount i h2) h5)
    · have hl : ∀ i, i < ops.size → listed.getD i false = true := by
        intro i hi
        cases hb : listed.getD i false with
        | true => rfl
        | false => exact absurd ⟨i, hi, hb⟩ hex
      refine ⟨fun _ => hend listed a w hs hst hl, fun i hi => ?_⟩
      obtain ⟨h1, o, h2, _⟩ := mem_ready.1 hi
      have hlt : i < ops.size := (Array.getElem?_eq_some_iff.1 h2).1
      have := hl i hlt
      simp [Array.getD_eq_getD_getElem?, hs, hlt] at h1 this
      rw [h1] at this
      cases this
/-- operations up to number c have been taken, none of the others -/
def Upto (ops : Array Oper) (c : Nat) (listed : Array Bool) : Prop := ∀ i, i < ops.size → listed.getD i false = decide (i < c)
theorem set_getD {listed : Array Bool} {i j : Nat} (hi : i < listed.size) : (listed.setIfInBounds i true).getD j false = (decide (j = i) || listed.getD j false) := by
  by_cases h : j = i
  · subst h; simp [Array.getD_eq_getD_getElem?, hi]
  · simp [Array.getD_eq_getD_getElem?, Array.getElem?_setIfInBounds_ne (Ne.symm h), h]
def AtCut {P : Program} {D : Den} (sy : Sy P D) (call : VCall) (lim nt : Nat) (ops : Array Oper) (m : List Nat) (fm : Nat) (A' : Tr Value) (W' : VW) (β0 : Place) (w0 : World) (next0 : Nat) (listed : Array Bool) (a : Act) (w : World) : Prop :=
  ∃ f c A W β, Upto ops c listed ∧ c ≤ ops.size ∧ Rel P D β W w ∧ FR sy β nt A a ∧ Ext lim β0 β w0 w ∧ lim ≤ W.next ∧ next0 ≤ W.next ∧ vregion sy call lim nt ops.toList m fm ops.size f c A W = some (A', W')
def InSeg {P : Program} {D : Den} (sy : Sy P D) (call : VCall) (lim nt : Nat) (ops : Array Oper) (m : List Nat) (fm : Nat) (A' : Tr Value) (W' : VW) (β0 : Place) (w0 : World) (next0 : Nat) (listed : Array Bool) (a : Act) (w : World) : Prop :=
  ∃ f c k A A0 W R s1 β1 w1 a1 β, c + k ≤ ops.size ∧ (∀ i, i < ops.size → (i < c → listed.getD i false = true) ∧ (c + k ≤ i → listed.getD i false = false)) ∧ (∃ i, c ≤ i ∧ i < c + k ∧ listed.getD i false = false) ∧
    (∀ i o, listed.getD i false = true → ops.toList[i]? = some o → ∀ j ∈ bindsTo o, listed.getD j false = true) ∧ waitsSeg m fm c (c + k) ops.size = true ∧
    SegOk sy call nt ops.toList m fm A0 W.heap c W.next s1 R ∧ W.next ≤ s1 ∧ R.map (·.i) = List.range' c k ∧ (∀ t v, A0.at t = some v → A.at t = some v ∧ ∀ r ∈ R, r.dst ≠ some t) ∧
    Rel P D β1 W w1 ∧ FR sy β1 nt A a1 ∧ Ext lim β0 β1 w0 w1 ∧ lim ≤ W.next ∧ next0 ≤ W.next ∧ SInv P D nt m R W.next β1 β w1 w a1 a (fun i => listed.getD i false = true) ∧
    vregion sy call lim nt ops.toList m fm ops.size f (c + k) (frameOf A R) ⟨heapOf W.heap R, s1⟩ = some (A', W')
theorem ready_facts {listed : Array Bool} {i : Nat} (hs : listed.size = ops.size) (hi : i ∈ Region.ready .any ops listed) :
    i < ops.size ∧ listed.getD i false = false ∧ ∃ o, ops.toList[i]? = some o ∧ ∀ j ∈ bindsTo o, listed.getD j false = true := by
  obtain ⟨h1, o, h2, h3⟩ := mem_ready.1 hi
  have hlt : i < ops.size := (Array.getElem?_eq_some_iff.1 h2).1
  refine ⟨hlt, ?_, o, by simpa using h2, fun j hj => ?_⟩
  · simpa [Array.getD_eq_getD_getElem?, hs, hlt] using h1
  · unfold bindsTo at hj
    obtain ⟨e, he, rfl⟩ := List.mem_map.1 hj
    obtain ⟨he1, he2⟩ := List.mem_filter.1 he
    exact h3 e (by simpa using he1) he2
theorem seg_leave {lim : Nat} {A' : Tr Value} {W' : VW} {β0 : Place} {w0 : World} {next0 : Nat} {listed : Array Bool} {a : Act} {w : World} {f c k : Nat} {A A0 : Tr Value} {W : VW} {R : List Rec} {s1 : Nat} {β1 : Place} {w1 : World} {a1 : Act} {β : Place} (hs : listed.size = ops.size)
    (h1 : c + k ≤ ops.size) (h2 : ∀ i, i < ops.size → (i < c → listed.getD i false = true) ∧ (c + k ≤ i → listed.getD i false = false)) (hcl : ∀ i o, listed.getD i false = true → ops.toList[i]? = some o → ∀ j ∈ bindsTo o, listed.getD j false = true) (hw : waitsSeg m fm c (c + k) ops.size = true)
    (hR : SegOk sy call nt ops.toList m fm A0 W.heap c W.next s1 R) (hs1 : W.next ≤ s1) (hRi : R.map (·.i) = List.range' c k) (hA0 : ∀ t v, A0.at t = some v → A.at t = some v ∧ ∀ r ∈ R, r.dst ≠ some t)
    (hr : Rel P D β1 W w1) (hf : FR sy β1 nt A a1) (hx : Ext lim β0 β1 w0 w1) (hl : lim ≤ W.next) (hn : next0 ≤ W.next) (hI : SInv P D nt m R W.next β1 β w1 w a1 a (fun i => listed.getD i false = true))
    (hv : vregion sy call lim nt ops.toList m fm ops.size f (c + k) (frameOf A R) ⟨heapOf W.heap R, s1⟩ = some (A', W')) :
    AtCut sy call lim nt ops m fm A' W' β0 w0 next0 listed a w ∨ InSeg sy call lim nt ops m fm A' W' β0 w0 next0 listed a w := by
  by_cases hex : ∃ i, c ≤ i ∧ i < c + k ∧ listed.getD i false = false
  · exact Or.inr ⟨f, c, k, A, A0, W, R, s1, β1, w1, a1, β, h1, h2, hex, hcl, hw, hR, hs1, hRi, hA0, hr, hf, hx, hl, hn, hI, hv⟩
  · have hin : ∀ i, c ≤ i → i < c + k → listed.getD i false = true := by
      intro i hi hi'
      cases hb : listed.getD i false with
      | true => rfl
      | false => exact absurd ⟨i, hi, hi', hb⟩ hex
    have hD : ∀ r ∈ R, listed.getD r.i false = true := by
      intro r hr'
      have : r.i ∈ List.range' c k := by rw [← hRi]; exact List.mem_map_of_mem hr'
      rw [List.mem_range'_1] at this
      exact hin r.i this.1 this.2
    obtain ⟨g1, g2, g3⟩ := SInv.finish hR hs1 hr hf hI hD (lim := lim) hl
    refine Or.inl ⟨f, c + k, _, _, β, fun i hi => ?_, h1, g2, g1, hx.trans g3, Nat.le_trans hl hs1, Nat.le_trans hn hs1, hv⟩
    by_cases hi1 : i < c + k
    · rw [decide_eq_true hi1]
      by_cases hi2 : i < c
      · exact (h2 i hi).1 hi2
      · exact hin i (by omega) hi1
    · rw [decide_eq_false hi1]
      exact (h2 i hi).2 (by omega)
theorem unlisted_of {listed : Array Bool} {j : Nat} (hs : listed.size = ops.size) (hj : j < ops.size) (h : listed.getD j true = false) : listed.getD j false = false := by
  simpa [Array.getD_eq_getD_getElem?, hs, hj] using h
theorem ready_of {listed : Array Bool} {i : Nat} {o : Oper} (hs : listed.size = ops.size) (ho : ops[i]? = some o) (hu : listed.getD i false = false) (he : ∀ j ∈ bindsTo o, listed.getD j false = true) : i ∈ Region.ready .any ops listed := by
  have hlt : i < ops.size := (Array.getElem?_eq_some_iff.1 ho).1
  rw [mem_ready]
  refine ⟨by simpa [Array.getD_eq_getD_getElem?, hs, hlt] using hu, o, ho, fun e he' hb => he e.on ?_⟩
  unfold bindsTo
  exact List.mem_map.2 ⟨e, List.mem_filter.2 ⟨by simpa using he', hb⟩, rfl⟩
theorem InSeg.step (hc : CallOk sy call) (he : edgesOk 0 ops.toList = true) (hm : masksOk m 0 ops.toList = true) (hF : ∀ k, fm.testBit k = true → ∃ o, ops[k]? = some o ∧ regKind o.op = true ∧ ∀ j oj, k < j → ops[j]? = some oj → (∀ e ∈ oj.after, Region.binds .any e = true → e.on ≠ k) → o.apart ops oj = true) {lim : Nat} {A' : Tr Value} {W' : VW} {β0 : Place} {w0 : World} {next0 : Nat} {listed : Array Bool} {a : Act} {w : World} {Q : Exit → Act → World → Prop} (hs : listed.size = ops.size)
    (h : InSeg sy call lim nt ops m fm A' W' β0 w0 next0 listed a w) :
    StepOk P ops Q (fun listed a' w' => AtCut sy call lim nt ops m fm A' W' β0 w0 next0 listed a' w' ∨ InSeg sy call lim nt ops m fm A' W' β0 w0 next0 listed a' w') listed a w := by
  obtain ⟨f, c, k, A, A0, W, R, s1, β1, w1, a1, β, h1, h2, ⟨j0, hj1, hj2, hj3⟩, hcl, hw, hR, hs1, hRi, hA0, hr, hf, hx, hl, hn, hI, hv⟩ := h
  have hdone := bit_done he hm (L := fun k => listed.getD k false = true) (fun i o hL ho j hj => hcl i o hL ho j hj)
  have hnext : ∀ (r : Rec) (o : Oper), r ∈ R → ops.toList[r.i]? = some o → r.i < ops.size → (∀ j ∈ bindsTo o, listed.getD j false = true) → ∀ a' w' β', SInv P D nt m R W.next β1 β' w1 w' a1 a' (fun k => listed.getD k false = true ∨ k = r.i) → c ≤ r.i → r.i < c + k →
      AtCut sy call lim nt ops m fm A' W' β0 w0 next0 (listed.setIfInBounds r.i true) a' w' ∨ InSeg sy call lim nt ops m fm A' W' β0 w0 next0 (listed.setIfInBounds r.i true) a' w' := by
    intro r o hrR r3 r1 r4 a' w' β' hI' hic hick
    have hsz : r.i < listed.size := by omega
    have hDn : (fun k => listed.getD k false = true ∨ k = r.i) = (fun k => (listed.setIfInBounds r.i true).getD k false = true) := by
      funext k
      rw [set_getD hsz]
      apply propext
      simp only [Bool.or_eq_true, decide_eq_true_eq]
      exact Or.comm
    rw [hDn] at hI'
    refine seg_leave (by simpa using hs) h1 ?_ ?_ hw hR hs1 hRi hA0 hr hf hx hl hn hI' hv
    · intro j hj
      rw [set_getD hsz]
      refine ⟨fun hjc => by rw [(h2 j hj).1 hjc, Bool.or_true], fun hjc => ?_⟩
      rw [(h2 j hj).2 hjc, decide_eq_false (by omega)]; rfl
    · intro j o' hj ho' l hl'
      rw [set_getD hsz] at hj ⊢
      simp only [Bool.or_eq_true, decide_eq_true_eq] at hj ⊢
      rcases hj with rfl | hj
      · rw [r3] at ho'
        cases ho'
        exact Or.inr (r4 l hl')
      · exact Or.inr (hcl j o' hj ho' l hl')
  have hrec : ∀ i, c ≤ i → i < c + k → ∃ r ∈ R, r.i = i := by
    intro i hic hick
    have : i ∈ R.map (·.i) := by rw [hRi, List.mem_range'_1]; exact ⟨hic, hick⟩
    exact List.mem_map.1 this
  by_cases hex : ∃ j, c ≤ j ∧ j < c + k ∧ listed.getD j false = false ∧ fm.testBit j = false
  · obtain ⟨j0, hj1, hj2, hj3, hj4⟩ := hex
    refine Or.inl (fun i hi => ?_)
    obtain ⟨r1, r2, o, r3, r4⟩ := ready_facts hs hi
    have hic : c ≤ i := by
      rcases Nat.lt_or_ge i c with hh | hh
      · have := (h2 i r1).1 hh
        rw [this] at r2; cases r2
      · exact hh
    have hick : i < c + k := by
      rcases Nat.lt_or_ge i (c + k) with hh | hh
      · exact hh
      · have hb := waits_bit hw hh r1 hj1 hj2 hj4
        have := hdone i r3 r4 j0 hb
        rw [hj3] at this; cases this
    obtain ⟨r, hrR, rfl⟩ := hrec i hic hick
    refine seg_step hc he hm hR hA0 hr hf hI hrR (by rw [r2]; decide) (fun r' _ hb => hdone r.i r3 r4 r'.i hb) ?_ ?_ ?_
    · intro r' hr' hd hb
      obtain ⟨o', W'', q1, _⟩ := hR.one r' hr'
      exact hdone r'.i q1 (hcl r'.i o' hd q1) r.i hb
    · intro r' hr' hd r'' _ hb
      obtain ⟨o', W'', q1, _⟩ := hR.one r' hr'
      exact hdone r'.i q1 (hcl r'.i o' hd q1) r''.i hb
    · intro a' w' β' hI'
      exact hnext r o hrR r3 r1 r4 a' w' β' hI' hic hick
  · -- only such are left as look at their operands alone: the first of them
    obtain ⟨i, hic, hick, hiu, hmin⟩ : ∃ i, c ≤ i ∧ i < c + k ∧ listed.getD i false = false ∧ ∀ j, c ≤ j → j < i → listed.getD j false = true := by
      have key : ∀ d, ∀ j, c ≤ j → j < c + k → listed.getD j false = false → j - c = d → ∃ i, c ≤ i ∧ i < c + k ∧ listed.getD i false = false ∧ ∀ j, c ≤ j → j < i → listed.getD j false = true := by
        intro d
        induction d using Nat.strongRecOn with
        | _ d ih =>
          intro j q1 q2 q3 q4
          by_cases hh : ∃ j', c ≤ j' ∧ j' < j ∧ listed.getD j' false = false
          · obtain ⟨j', p1, p2, p3⟩ := hh
            exact ih (j' - c) (by omega) j' p1 (by omega) p3 rfl
          · refine ⟨j, q1, q2, q3, fun j' p1 p2 => ?_⟩
            cases hb : listed.getD j' false with
            | true => rfl
            | false => exact absurd ⟨j', p1, p2, hb⟩ hh
      exact key _ j0 hj1 hj2 hj3 rfl
    have hin : i < ops.size := by omega
    have hfl : fm.testBit i = true := by
      cases hb : fm.testBit i with
      | true => rfl
      | false => exact absurd ⟨i, hic, hick, hiu, hb⟩ hex
    obtain ⟨o, ho, hk, hfree⟩ := hF i hfl
    obtain ⟨r, hrR, rfl⟩ := hrec i hic hick
    have ho' : ops.toList[r.i]? = some o := by simpa using ho
    have hedges : ∀ j ∈ bindsTo o, listed.getD j false = true := by
      intro j hj
      have hlt := edgesOk_at ops.toList 0 he r.i o ho' j hj
      rcases Nat.lt_or_ge j c with hh | hh
      · exact (h2 j (by omega)).1 hh
      · exact hmin j hh (by omega)
    obtain ⟨o2, v', g1, g2, g3⟩ := seg_float he hm hR hA0 hr hf hI hrR hfl (by rw [hiu]; decide) (fun r' _ hb => hdone r.i ho' hedges r'.i hb)
    have : o2 = o := Option.some.inj (g1.symm.trans ho)
    subst this
    refine Or.inr ⟨r.i, o2, v', ho, ready_of hs ho hiu hedges, g2, fun j oj hoj hne hju hnw => hfree j oj ?_ hoj hnw, hnext r o2 hrR ho' hin hedges _ w β g3 hic hick⟩
    have hj : j < ops.size := (Array.getElem?_eq_some_iff.1 hoj).1
    have hju' := unlisted_of hs hj hju
    rcases Nat.lt_trichotomy j r.i with hh | hh | hh
    · rcases Nat.lt_or_ge j c with hh2 | hh2
      · rw [(h2 j hj).1 hh2] at hju'; cases hju'
      · rw [hmin j hh2 hh] at hju'; cases hju'
    · exact absurd hh hne
    · exact hh
theorem AtCut.step (hc : CallOk sy call) (he : edgesOk 0 ops.toList = true) (hm : masksOk m 0 ops.toList = true) (hF : ∀ k, fm.testBit k = true → ∃ o, ops[k]? = some o ∧ regKind o.op = true ∧ ∀ j oj, k < j → ops[j]? = some oj → (∀ e ∈ oj.after, Region.binds .any e = true → e.on ≠ k) → o.apart ops oj = true) {lim : Nat} {A' : Tr Value} {W' : VW} {β0 : Place} {w0 : World} {next0 : Nat} {listed : Array Bool} {a : Act} {w : World} {Q : Exit → Act → World → Prop} (hs : listed.size = ops.size)
    (h : AtCut sy call lim nt ops m fm A' W' β0 w0 next0 listed a w) (hun : ∃ i, i < ops.size ∧ listed.getD i false = false) :
    StepOk P ops Q (fun listed a' w' => AtCut sy call lim nt ops m fm A' W' β0 w0 next0 listed a' w' ∨ InSeg sy call lim nt ops m fm A' W' β0 w0 next0 listed a' w') listed a w := by
  obtain ⟨f, c, A, W, β, h1, h2, hr, hf, hx, hl, hn, hv⟩ := h
  have hcl : ∀ i o, listed.getD i false = true → ops.toList[i]? = some o → ∀ j ∈ bindsTo o, listed.getD j false = true := by
    intro i o hL ho j hj
    have hin : i < ops.size := by
      have := (List.getElem?_eq_some_iff.1 ho).1
      simpa using this
    rw [h1 i hin] at hL
    have hlt := edgesOk_at ops.toList 0 he i o ho j hj
    rw [h1 j (by omega)]
    simp only [decide_eq_true_eq] at hL ⊢
    omega
  have hdone := bit_done he hm (L := fun k => listed.getD k false = true) (fun i o hL ho j hj => hcl i o hL ho j hj)
  cases f with
  | zero => cases hv
  | succ f =>
    unfold vregion at hv
    split at hv
    · rename_i hdrop
      have hcn : ops.toList.length ≤ c := List.drop_eq_nil_iff.1 hdrop
      obtain ⟨i, hi, hiu⟩ := hun
      rw [h1 i hi] at hiu
      simp at hcn hiu
      omega
    · rename_i o1 l hdrop
      have hlen : c + (l.length + 1) = ops.size := by
        have := congrArg List.length hdrop
        simp at this
        omega
      have hat : ∀ j, (o1 :: l)[j]? = ops.toList[c + j]? := fun j => by rw [← hdrop, List.getElem?_drop]
      have ho1 : ops[c]? = some o1 := by have := hat 0; simpa using this.symm
      have ho1' : ops.toList[c]? = some o1 := by simpa using ho1
      have hcu : listed.getD c false = false := by rw [h1 c (by omega)]; simp
      have hedges : ∀ j ∈ bindsTo o1, listed.getD j false = true := by
        intro j hj
        have hlt := edgesOk_at ops.toList 0 he c o1 ho1' j hj
        rw [h1 j (by omega)]
        simp; omega
      have hup : Upto ops (c + 1) (listed.setIfInBounds c true) := by
        intro j hj
        rw [set_getD (by omega), h1 j hj]
        by_cases hji : j = c
        · subst hji; simp
        · by_cases hjl : j < c
          · simp [hjl]; omega
          · simp [hjl, hji]; omega
      cases hfc : fm.testBit c with
      | true =>
        rw [hfc] at hv
        simp only [cond_true] at hv
        split at hv
        · rename_i v hvr
          split at hv
          · rename_i A1 hp
            obtain ⟨v', q1, q2⟩ := vregW_ok hf hvr
            obtain ⟨o, ho, hk, hfree⟩ := hF c hfc
            have : o = o1 := Option.some.inj (ho.symm.trans ho1)
            subst this
            refine Or.inr ⟨c, o, v', ho1, ready_of hs ho1 hcu hedges, q2, fun j oj hoj hne hju hnw => hfree j oj ?_ hoj hnw, Or.inl ⟨f, c + 1, A1, W, β, hup, by omega, hr, putD_ok hf q1 hp, hx, hl, hn, hv⟩⟩
            have hj : j < ops.size := (Array.getElem?_eq_some_iff.1 hoj).1
            have hju' := unlisted_of hs hj hju
            rw [h1 j hj] at hju'
            simp at hju'
            omega
          · cases hv
        · cases hv
      | false =>
        rw [hfc] at hv
        simp only [cond_false] at hv
        cases hw1 : waitsSeg m fm c (c + 1) ops.size with
        | true =>
          rw [hw1] at hv
          simp only [cond_true] at hv
          refine Or.inl (fun i hi => ?_)
          obtain ⟨r1, r2, o, r3, r4⟩ := ready_facts hs hi
          have hi : i = c := by
            rcases Nat.lt_trichotomy c i with hh | hh | hh
            · have hb := waits_bit hw1 (i := i) (j := c) hh r1 (Nat.le_refl _) (Nat.lt_succ_self _) hfc
              have := hdone i r3 r4 c hb
              rw [hcu] at this
              cases this
            · exact hh.symm
            · rw [h1 i r1] at r2
              simp at r2
              omega
          subst hi
          split at hv
          · rename_i v W1 hex
            split at hv
            · rename_i A1 hp
              exact vexec1_ok hc hr hl hf ho1 hex (fun v' w' β' q1 q2 q3 q4 => Or.inl ⟨f, i + 1, A1, W1, β', hup, by omega, q2, putD_ok (hf.mono q3.le) q1 hp, hx.trans q3, Nat.le_trans hl q4, Nat.le_trans hn q4, hv⟩)
            · cases hv
          · cases hv
        | false =>
          rw [hw1] at hv
          simp only [cond_false] at hv
          generalize hk : segLen m fm c ops.size l.length 1 = k at hv
          cases hb : (waitsSeg m fm c (c + k) ops.size && (0).blt k && k.ble (l.length + 1)) with
          | false => rw [hb] at hv; cases hv
          | true =>
            rw [hb] at hv
            simp only [cond_true] at hv
            simp only [Bool.and_eq_true, Nat.blt_eq, Nat.ble_eq] at hb
            obtain ⟨⟨b1, b2⟩, b3⟩ := hb
            split at hv
            · rename_i R s1 hmul
              have hseg := vmulti_ok he hm (fun i o hb ho => by
                obtain ⟨o', q1, q2, _⟩ := hF i hb
                have : o' = o := Option.some.inj (q1.symm.trans (by simpa using ho))
                rw [← this]; exact q2) (c := c) (s0 := W.next) _ c [] W.next R s1 (fun j => by
                by_cases hj : j < k
                · right; rw [List.getElem?_take_of_lt hj]; exact hat j
                · left; exact List.getElem?_take_eq_none (by omega)) (Nat.le_refl _) (Nat.le_refl _) (fun r hr => by cases hr)
                ⟨fun r hr => (by cases hr), fun r hr => (by cases hr), fun r hr => (by cases hr), fun r hr => (by cases hr), fun r hr => (by cases hr), fun r hr => (by cases hr)⟩ hmul
              obtain ⟨g1, g2, g3⟩ := hseg
              have hlt : ((o1 :: l).take k).length = k := by simp; omega
              rw [hlt] at g3
              simp only [List.map_nil, List.nil_append] at g3
              have hA0 : ∀ t v, (dropAll A ((o1 :: l).take k)).at t = some v → A.at t = some v ∧ ∀ r ∈ R, r.dst ≠ some t := by
                intro t v ht
                obtain ⟨p1, p2⟩ := dropAll_at _ _ _ _ ht
                refine ⟨p1, fun r hr' => ?_⟩
                obtain ⟨o', W'', q1, _, _, _, q5⟩ := g1.one r hr'
                rw [q5]
                have hri : r.i ∈ List.range' c k := by rw [← g3]; exact List.mem_map_of_mem hr'
                rw [List.mem_range'_1] at hri
                refine p2 o' ?_
                have hh := hat (r.i - c)
                rw [show c + (r.i - c) = r.i by omega, q1] at hh
                have : ((o1 :: l).take k)[r.i - c]? = some o' := by rw [List.getElem?_take_of_lt (by omega)]; exact hh
                exact List.mem_of_getElem? this
              have hD : ∀ r ∈ R, ¬ listed.getD r.i false = true := by
                intro r hr'
                have hri : r.i ∈ List.range' c k := by rw [← g3]; exact List.mem_map_of_mem hr'
                rw [List.mem_range'_1] at hri
                rw [h1 r.i (by omega)]
                simp; omega
              refine InSeg.step hc he hm hF hs ⟨f, c, k, A, _, W, R, s1, β, w, a, β, by omega, ?_, ⟨c, Nat.le_refl _, by omega, hcu⟩, hcl, b1, g1, g2, g3, hA0, hr, hf, hx, hl, hn, SInv.start hr hf R hD, hv⟩
              intro j hj
              rw [h1 j hj]
              refine ⟨fun h => decide_eq_true h, fun h => decide_eq_false (by omega)⟩
            · cases hv
/-- a region that draws its order -/
theorem vregion_ok (hmix : P.follows .mixedOrders = true) (hc : CallOk sy call) (he : edgesOk 0 ops.toList = true) (hm : masksOk m 0 ops.toList = true) (hsel : Region.noSelect ops = true) {lim f : Nat} {A A' : Tr Value} {W W' : VW} {β : Place} {a : Act} {w : World} (h : Rel P D β W w) (hl : lim ≤ W.next) (hf : FR sy β nt A a)
    (hv : vregion sy call lim nt ops.toList m (fmask ops 0 ops.toList) ops.size f 0 A W = some (A', W')) {Q : Exit → Act → World → Prop} (hQ : ∀ a' w' β', FR sy β' nt A' a' → Rel P D β' W' w' → Ext lim β β' w w' → W.next ≤ W'.next → Q .normal a' w') {id : Nat} : (Code.region id ops true).wp P Q a w := by
  have hF := fmask_bit ops ops.toList 0 (by simp)
  refine Code.wp_mono (Q := fun e a' w' => match e with | .normal => Q .normal a' w' | _ => False) (fun e a' w' q => by cases e <;> first | exact q | exact q.elim) ?_
  refine wp_region_any hmix ?_
  have h' : Rel P D β W { w with drawn := w.drawn + 1 } := h.drew
  refine wpAny_of (St := fun listed a' w' => AtCut sy call lim nt ops m (fmask ops 0 ops.toList) A' W' β { w with drawn := w.drawn + 1 } W.next listed a' w' ∨ InSeg sy call lim nt ops m (fmask ops 0 ops.toList) A' W' β { w with drawn := w.drawn + 1 } W.next listed a' w') he hsel (fun _ _ _ q => q) ?_ ?_ _ _ _ _ (by simp) ?_ (Or.inl ⟨f, 0, A, W, β, ?_, Nat.zero_le _, h', hf, Ext.refl _ _ _, hl, Nat.le_refl _, hv⟩)
  · intro listed a' w' hs hst hun
    rcases hst with hst | hst
    · exact hst.step hc he hm (fun k hk => (hF k hk).2) hs hun
    · exact hst.step hc he hm (fun k hk => (hF k hk).2) hs
  · intro listed a' w' hs hst hall
    rcases hst with ⟨f', c, A1, W1, β1, h1, h2, hr, hf', hx, _, hn, hv'⟩ | hst
    · have hcn : ops.size ≤ c := by
        rcases Nat.lt_or_ge c ops.size with hh | hh
        · have := hall c hh
          rw [h1 c hh] at this
          simp at this
        · exact hh
      cases f' with
      | zero => cases hv'
      | succ f' =>
        unfold vregion at hv'
        rw [List.drop_eq_nil_of_le (by simpa using hcn)] at hv'
        simp only [Option.some.injEq, Prod.mk.injEq] at hv'
        obtain ⟨rfl, rfl⟩ := hv'
        exact hQ a' w' β1 hf' hr (Ext.drew (w := w) hx) hn
    · obtain ⟨f', c, k, A1, A0, W1, R, s1, β1, w1, a1, β2, h1, h2, ⟨j, hj1, hj2, hj3⟩, _⟩ := hst
      have := hall j (by omega)
      rw [hj3] at this
      cases this
  · refine Nat.le_trans List.countP_le_length ?_
    simp
  · intro i hi
    simp [hi]
end
end Go.Proofs.Ytednnkhomfabaaa
