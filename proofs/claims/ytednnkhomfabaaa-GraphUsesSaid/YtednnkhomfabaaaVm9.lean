/- A machine to run closed calls: any order leads to what the machine says. No condition. -/
import Derived.Test.YtednnkhomfabaaaVm8
namespace Go.Proofs.Ytednnkhomfabaaa
open Go.RowKit
set_option linter.unusedVariables false
/-- what the machine wrote down of the operations c .. of a region -/
structure SegOk {P : Program} {D : Den} (sy : Sy P D) (call : VCall) (nt : Nat) (ops : List Oper) (m : List Nat) (fm : Nat) (A0 : Tr Value) (h0 : Tr VObj) (c s0 s1 : Nat) (R : List Rec) : Prop where
  one : ∀ r ∈ R, ∃ o W1, ops[r.i]? = some o ∧ vexec1 sy call r.lo ops (frameOf A0 (selRecs (m.getD r.i 0) R)) ⟨heapOf h0 (selRecs (m.getD r.i 0) R), r.lo⟩ o = some (r.val, W1) ∧ W1.next = r.hi ∧ r.delta = collect W1.heap r.lo (W1.next - r.lo) ∧ r.dst = o.dst
  flt : ∀ r ∈ R, fm.testBit r.i = true → ∃ o, ops[r.i]? = some o ∧ vregW sy ops (frameOf A0 (selRecs (m.getD r.i 0) R)) o = some r.val ∧ r.delta = [] ∧ r.dst = o.dst
  rng : ∀ r ∈ R, s0 ≤ r.lo ∧ r.lo ≤ r.hi ∧ r.hi ≤ s1 ∧ c ≤ r.i
  lt : ∀ r ∈ R, ∀ r' ∈ R, r.i < r'.i → r.hi ≤ r'.lo ∧ ∀ d, r.dst = some d → r'.dst ≠ some d
  eq : ∀ r ∈ R, ∀ r' ∈ R, r.i = r'.i → r = r'
  nt : ∀ r ∈ R, ∀ d, r.dst = some d → d < nt
section
variable {P : Program} {D : Den} {sy : Sy P D} {call : VCall} {nt : Nat} {ops : List Oper} {m : List Nat} {fm : Nat} {A0 : Tr Value} {h0 : Tr VObj}
theorem selRecs_append {k : Nat} {R S : List Rec} (h : ∀ r ∈ S, k.testBit r.i = false) : selRecs k (R ++ S) = selRecs k R := by
  unfold selRecs
  have e : S.filter (fun r => k.testBit r.i) = [] := List.filter_eq_nil_iff.2 (fun r hr => by rw [h r hr]; decide)
  rw [List.filter_append, e, List.append_nil]
theorem vmulti_ok (he : edgesOk 0 ops = true) (hm : masksOk m 0 ops = true) (hfm : ∀ i o, fm.testBit i = true → ops[i]? = some o → regKind o.op = true) {c s0 : Nat} : ∀ (l : List Oper) (i : Nat) (R : List Rec) (s : Nat) (R' : List Rec) (s' : Nat), (∀ j, l[j]? = none ∨ l[j]? = ops[i + j]?) → c ≤ i → s0 ≤ s → (∀ r ∈ R, r.i < i) →
    SegOk sy call nt ops m fm A0 h0 c s0 s R → vmulti sy call nt ops m fm A0 h0 l i R s = some (R', s') → SegOk sy call nt ops m fm A0 h0 c s0 s' R' ∧ s ≤ s' ∧ R'.map (·.i) = R.map (·.i) ++ (List.range' i l.length)
  | [], i, R, s, R', s', _, _, _, _, hR, h => by
    simp only [vmulti, Option.some.injEq, Prod.mk.injEq] at h
    obtain ⟨rfl, rfl⟩ := h
    exact ⟨hR, Nat.le_refl _, by simp⟩
  | o :: l, i, R, s, R', s', hl, hci, hs, hRi, hR, h => by
    unfold vmulti at h
    split at h
    rotate_left
    · cases h
    rename_i v W1 hx0
    have ho : ops[i]? = some o := by
      rcases hl 0 with h1 | h1
      · simp at h1
      · simpa using h1.symm
    obtain ⟨hx, hflt⟩ : vexec1 sy call s ops (frameOf A0 (selRecs (m.getD i 0) R)) ⟨heapOf h0 (selRecs (m.getD i 0) R), s⟩ o = some (v, W1) ∧ (fm.testBit i = true → vregW sy ops (frameOf A0 (selRecs (m.getD i 0) R)) o = some v ∧ W1.next = s) := by
      cases hb : fm.testBit i with
      | false => rw [hb] at hx0; exact ⟨hx0, fun h => by cases h⟩
      | true =>
        rw [hb] at hx0
        simp only [cond_true] at hx0
        split at hx0
        · rename_i v0 hv0
          simp only [Option.some.injEq, Prod.mk.injEq] at hx0
          obtain ⟨rfl, rfl⟩ := hx0
          refine ⟨?_, fun _ => ⟨hv0, rfl⟩⟩
          unfold vexec1
          rw [hfm i o hb ho]
          simp only [cond_true, hv0]
        · cases hx0
    cases hd : dstFresh nt o.dst R with
    | false => rw [hd] at h; cases h
    | true =>
      rw [hd] at h
      simp only [cond_true] at h
      have hn := vexec1_next hx
      have hn' : s ≤ W1.next := hn
      have hfr : (∀ d, o.dst = some d → d < nt) ∧ ∀ r ∈ R, ∀ d, r.dst = some d → o.dst ≠ some d := by
        unfold dstFresh at hd
        split at hd
        · rename_i e; exact ⟨fun d hd => (by rw [e] at hd; cases hd), fun r hr d h1 h2 => (by rw [e] at h2; cases h2)⟩
        · rename_i t e
          simp only [Bool.and_eq_true, Nat.blt_eq, List.all_eq_true] at hd
          refine ⟨fun d h1 => (by rw [e] at h1; cases h1; exact hd.1), fun r hr d h1 h2 => ?_⟩
          rw [e] at h2
          cases h2
          have := hd.2 r hr
          rw [h1] at this
          simp at this
      have hnew : ∀ r ∈ R, ∀ k, (m.getD r.i 0).testBit k = true → k < i := fun r hr k hk => by
        obtain ⟨o', W', q1, _⟩ := hR.one r hr
        have := bit_lt he hm r.i q1 k hk
        have := hRi r hr
        omega
      have hsel : ∀ r ∈ R, selRecs (m.getD r.i 0) (R ++ [⟨i, o.dst, v, collect W1.heap s (W1.next - s), s, W1.next⟩]) = selRecs (m.getD r.i 0) R := fun r hr => selRecs_append fun r' hr' => by
        simp only [List.mem_singleton] at hr'
        subst hr'
        cases hb : (m.getD r.i 0).testBit i with
        | false => rfl
        | true => exact absurd (hnew r hr i hb) (by omega)
      have hself : selRecs (m.getD i 0) (R ++ [⟨i, o.dst, v, collect W1.heap s (W1.next - s), s, W1.next⟩]) = selRecs (m.getD i 0) R := selRecs_append fun r' hr' => by
        simp only [List.mem_singleton] at hr'
        subst hr'
        cases hb : (m.getD i 0).testBit i with
        | false => rfl
        | true => exact absurd (bit_lt he hm i ho i hb) (by omega)
      have key := vmulti_ok he hm hfm (c := c) (s0 := s0) l (i + 1) (R ++ [⟨i, o.dst, v, collect W1.heap s (W1.next - s), s, W1.next⟩]) W1.next R' s' ?_ (by omega) (by omega) ?_ ?_ h
      · refine ⟨key.1, by omega, ?_⟩
        rw [key.2.2]
        simp [List.range'_succ]
      · intro j
        rcases hl (j + 1) with h1 | h1
        · exact Or.inl (by simpa using h1)
        · exact Or.inr (by rw [show i + 1 + j = i + (j + 1) by omega]; simpa using h1)
      · intro r hr
        rcases List.mem_append.1 hr with hr | hr
        · have := hRi r hr; omega
        · simp only [List.mem_singleton] at hr; subst hr; exact Nat.lt_succ_self _
      · refine ⟨?_, ?_, ?_, ?_, ?_, ?_⟩
        · intro r hr
          rcases List.mem_append.1 hr with hr | hr
          · rw [hsel r hr]; exact hR.one r hr
          · simp only [List.mem_singleton] at hr
            subst hr
            simp only []
            rw [hself]
            exact ⟨o, W1, ho, hx, rfl, rfl, rfl⟩
        · intro r hr hb
          rcases List.mem_append.1 hr with hr | hr
          · rw [hsel r hr]; exact hR.flt r hr hb
          · simp only [List.mem_singleton] at hr
            subst hr
            simp only [] at hb ⊢
            rw [hself]
            obtain ⟨q1, q2⟩ := hflt hb
            exact ⟨o, ho, q1, by rw [q2, Nat.sub_self]; rfl, rfl⟩
        · intro r hr
          rcases List.mem_append.1 hr with hr | hr
          · obtain ⟨a1, a2, a3, a4⟩ := hR.rng r hr
            exact ⟨a1, a2, by omega, a4⟩
          · simp only [List.mem_singleton] at hr
            subst hr
            exact ⟨hs, hn', Nat.le_refl _, hci⟩
        · intro r hr r' hr' hlt
          rcases List.mem_append.1 hr with hr | hr <;> rcases List.mem_append.1 hr' with hr' | hr'
          · exact hR.lt r hr r' hr' hlt
          · simp only [List.mem_singleton] at hr'
            subst hr'
            exact ⟨(hR.rng r hr).2.2.1, hfr.2 r hr⟩
          · simp only [List.mem_singleton] at hr
            subst hr
            have := hRi r' hr'
            simp only [] at hlt
            omega
          · simp only [List.mem_singleton] at hr hr'
            subst hr; subst hr'
            omega
        · intro r hr r' hr' heq
          rcases List.mem_append.1 hr with hr | hr <;> rcases List.mem_append.1 hr' with hr' | hr'
          · exact hR.eq r hr r' hr' heq
          · simp only [List.mem_singleton] at hr'
            subst hr'
            have := hRi r hr
            simp only [] at heq
            omega
          · simp only [List.mem_singleton] at hr
            subst hr
            have := hRi r' hr'
            simp only [] at heq
            omega
          · simp only [List.mem_singleton] at hr hr'
            rw [hr, hr']
        · intro r hr
          rcases List.mem_append.1 hr with hr | hr
          · exact hR.nt r hr
          · simp only [List.mem_singleton] at hr
            subst hr
            exact hfr.1
end
open Classical in
noncomputable def restr (β : Place) (S : Nat → Prop) : Place := fun i => if S i then β i else .unborn
theorem restr_in {β : Place} {S : Nat → Prop} {i : Nat} (h : S i) : restr β S i = β i := by unfold restr; rw [if_pos h]
theorem restr_out {β : Place} {S : Nat → Prop} {i : Nat} (h : ¬ S i) : restr β S i = .unborn := by unfold restr; rw [if_neg h]
theorem restr_le (β : Place) {S T : Nat → Prop} (h : ∀ i, S i → T i) : LeS (restr β S) (restr β T) := fun i => by
  by_cases hs : S i
  · exact Or.inr (Or.inl (by rw [restr_in hs, restr_in (h i hs)]))
  · exact Or.inl (restr_out hs)
theorem restr_le' (β : Place) (S : Nat → Prop) : LeS (restr β S) β := fun i => by
  by_cases hs : S i
  · exact Or.inr (Or.inl (restr_in hs).symm)
  · exact Or.inl (restr_out hs)
def InRec (r : Rec) (i : Nat) : Prop := r.lo ≤ i ∧ i < r.hi
/-- what an operation may know: what was there, and what those have made that it waits for -/
def supp (m : List Nat) (R : List Rec) (s0 : Nat) (k : Nat) (i : Nat) : Prop := i < s0 ∨ ∃ r ∈ R, (m.getD k 0).testBit r.i = true ∧ InRec r i
def supq (m : List Nat) (R : List Rec) (s0 : Nat) (r : Rec) (i : Nat) : Prop := supp m R s0 r.i i ∨ InRec r i
structure SInv (P : Program) (D : Den) (nt : Nat) (m : List Nat) (R : List Rec) (s0 : Nat) (β0 β : Place) (w0 w : World) (a0 a : Act) (Dn : Nat → Prop) : Prop where
  base : ∀ i, i < s0 → β i = β0 i
  born : ∀ i b d x, s0 ≤ i → β i = .live b d x → w0.heap.size ≤ b
  unb : ∀ i, s0 ≤ i → β i ≠ .unborn → ∃ r ∈ R, Dn r.i ∧ InRec r i
  inj : ∀ i j b d x d' x', β i = .live b d x → β j = .live b d' x' → i = j
  lt : ∀ i b d x, β i = .live b d x → b < w.heap.size
  only : Only (fun _ => False) w0 w
  size : a.tmps.size = nt
  defers : a.defers = []
  other : ∀ t, (∀ r ∈ R, Dn r.i → r.dst ≠ some t) → a.tmps.getD t undef = a0.tmps.getD t undef
  recs : ∀ r ∈ R, Dn r.i → (∀ d, r.dst = some d → VR D (restr β (supq m R s0 r)) r.val (a.tmps.getD d undef)) ∧ ∀ p ∈ r.delta, ∃ b d x, β p.1 = .live b d x ∧ ObjRel P D (restr β (supq m R s0 r)) w b d x p.2
section
variable {P : Program} {D : Den} {sy : Sy P D} {call : VCall} {nt : Nat} {ops : Array Oper} {m : List Nat} {fm : Nat} {A A0 : Tr Value} {W : VW}
theorem act_put_getD {a : Act} {d : Option Tmp} {v : Value} {t : Nat} (h : d ≠ some t) : (a.put d v).tmps.getD t undef = a.tmps.getD t undef := by
  cases d with
  | none => rfl
  | some e =>
    have : e ≠ t := fun h' => h (by rw [h'])
    simp [Act.put, Array.getElem?_setIfInBounds_ne this]
theorem act_put_same {a : Act} {t : Nat} {v : Value} (h : t < a.tmps.size) : (a.put (some t) v).tmps.getD t undef = v := by simp [Act.put, h]
theorem supp_sub (he : edgesOk 0 ops.toList = true) (hm : masksOk m 0 ops.toList = true) {R : List Rec} {s0 : Nat} {r : Rec} {o : Oper} (ho : ops.toList[r.i]? = some o) : ∀ r' ∈ R, (m.getD r.i 0).testBit r'.i = true → ∀ i, supq m R s0 r' i → supp m R s0 r.i i := by
  intro r' hr' hb i hi
  rcases hi with (hi | ⟨r'', hr'', hb', hin⟩) | hi
  · exact Or.inl hi
  · exact Or.inr ⟨r'', hr'', bit_trans he hm r.i ho r'.i r''.i hb hb', hin⟩
  · exact Or.inr ⟨r', hr', hb, hi⟩
theorem seg_le0 {R : List Rec} {β0 β : Place} {w0 w : World} {a0 a : Act} (h0 : Rel P D β0 W w0) {Dn : Nat → Prop} (hI : SInv P D nt m R W.next β0 β w0 w a0 a Dn) (k : Nat) : LeS β0 (restr β (supp m R W.next k)) := fun i => by
  by_cases hi : i < W.next
  · exact Or.inr (Or.inl (by rw [restr_in (Or.inl hi)]; exact hI.base i hi))
  · exact Or.inl (h0.unborn i (by omega))
theorem seg_frame (he : edgesOk 0 ops.toList = true) (hm : masksOk m 0 ops.toList = true) {R : List Rec} (hA0 : ∀ t v, A0.at t = some v → A.at t = some v ∧ ∀ r ∈ R, r.dst ≠ some t) {β0 β : Place} {w0 w : World} {a0 a : Act} (h0 : Rel P D β0 W w0) (hf0 : FR sy β0 nt A a0) {Dn : Nat → Prop} (hI : SInv P D nt m R W.next β0 β w0 w a0 a Dn)
    {r : Rec} {o : Oper} (ho : ops.toList[r.i]? = some o) (hpre : ∀ r' ∈ R, (m.getD r.i 0).testBit r'.i = true → Dn r'.i) : FR sy (restr β (supp m R W.next r.i)) nt (frameOf A0 (selRecs (m.getD r.i 0) R)) a := by
  refine ⟨fun g hg => ?_, hI.size, hI.defers, fun t v hv => ?_⟩
  · have hu : β0 g ≠ .unborn := by rcases hf0.glob g hg with e | ⟨x, e⟩ <;> rw [e] <;> exact fun h => by cases h
    have hlt : g < W.next := by
      rcases Nat.lt_or_ge g W.next with hh | hh
      · exact hh
      · exact absurd (h0.unborn g hh) hu
    rw [restr_in (Or.inl hlt), hI.base g hlt]
    exact hf0.glob g hg
  rcases frameOf_at _ _ _ _ hv with ⟨r', h1, h2, h3⟩ | ⟨h1, h2⟩
  · obtain ⟨h4, h5⟩ := List.mem_filter.1 h1
    obtain ⟨g1, _⟩ := hI.recs r' h4 (hpre r' h4 h5)
    rw [← h3]
    exact (g1 t h2).mono (restr_le β (supp_sub he hm ho r' h4 h5))
  · obtain ⟨g1, g2⟩ := hA0 t v h1
    rw [hI.other t (fun r' hr' _ => g2 r' hr')]
    exact (hf0.vals t v g1).mono (seg_le0 h0 hI r.i)
/-- an operation that looks at its operands alone, taken now -/
theorem seg_float (he : edgesOk 0 ops.toList = true) (hm : masksOk m 0 ops.toList = true) {c s1 : Nat} {R : List Rec} (hR : SegOk sy call nt ops.toList m fm A0 W.heap c W.next s1 R)
    (hA0 : ∀ t v, A0.at t = some v → A.at t = some v ∧ ∀ r ∈ R, r.dst ≠ some t) {β0 β : Place} {w0 w : World} {a0 a : Act} (h0 : Rel P D β0 W w0) (hf0 : FR sy β0 nt A a0) {Dn : Nat → Prop} (hI : SInv P D nt m R W.next β0 β w0 w a0 a Dn)
    {r : Rec} (hr : r ∈ R) (hfl : fm.testBit r.i = true) (hnd : ¬ Dn r.i) (hpre : ∀ r' ∈ R, (m.getD r.i 0).testBit r'.i = true → Dn r'.i) :
    ∃ o v', ops[r.i]? = some o ∧ Yields P ops o v' a ∧ SInv P D nt m R W.next β0 β w0 w a0 (a.put o.dst v') (fun k => Dn k ∨ k = r.i) := by
  obtain ⟨o, ho, hv, hdel, hdst⟩ := hR.flt r hr hfl
  have hfr := seg_frame he hm hA0 h0 hf0 hI (r := r) ho hpre
  obtain ⟨v', h1, h2⟩ := vregW_ok hfr hv
  refine ⟨o, v', by simpa using ho, h2, ⟨hI.base, hI.born, fun i hi hu => ?_, hI.inj, hI.lt, hI.only, ?_, ?_, fun t ht => ?_, fun r' hr' hd' => ?_⟩⟩
  · obtain ⟨r', q1, q2, q3⟩ := hI.unb i hi hu
    exact ⟨r', q1, Or.inl q2, q3⟩
  · rw [← hI.size]
    cases o.dst <;> simp [Act.put]
  · have : (a.put o.dst v').defers = a.defers := by cases o.dst <;> rfl
    rw [this]; exact hI.defers
  · have hd : o.dst ≠ some t := by rw [← hdst]; exact ht r hr (Or.inr rfl)
    rw [act_put_getD hd]
    exact hI.other t (fun r' hr' hd' => ht r' hr' (Or.inl hd'))
  · by_cases hrr : r' = r
    · subst hrr
      refine ⟨fun d hd => ?_, fun p hp => by rw [hdel] at hp; cases hp⟩
      have hod : o.dst = some d := by rw [← hdst]; exact hd
      rw [hod, act_put_same (by rw [hI.size]; exact hR.nt r' hr' d hd)]
      exact h1.mono (restr_le β (fun i hi => Or.inl hi))
    · have hDr' : Dn r'.i := by
        rcases hd' with h | h
        · exact h
        · exact absurd (hR.eq r' hr' r hr h) hrr
      obtain ⟨q1, q2⟩ := hI.recs r' hr' hDr'
      refine ⟨fun d hd => ?_, q2⟩
      have hod : o.dst ≠ some d := by
        rw [← hdst]
        intro e
        rcases Nat.lt_trichotomy r'.i r.i with h3 | h3 | h3
        · exact (hR.lt r' hr' r hr h3).2 d hd e
        · exact hrr (hR.eq r' hr' r hr h3)
        · exact (hR.lt r hr r' hr' h3).2 d e hd
      rw [act_put_getD hod]
      exact q1 d hd
set_option maxHeartbeats 1000000
theorem seg_step (hc : CallOk sy call) (he : edgesOk 0 ops.toList = true) (hm : masksOk m 0 ops.toList = true) {c s1 : Nat} {R : List Rec} (hR : SegOk sy call nt ops.toList m fm A0 W.heap c W.next s1 R)
    (hA0 : ∀ t v, A0.at t = some v → A.at t = some v ∧ ∀ r ∈ R, r.dst ≠ some t) {β0 β : Place} {w0 w : World} {a0 a : Act} (h0 : Rel P D β0 W w0) (hf0 : FR sy β0 nt A a0) {Dn : Nat → Prop} (hI : SInv P D nt m R W.next β0 β w0 w a0 a Dn)
    {r : Rec} (hr : r ∈ R) (hnd : ¬ Dn r.i) (hpre : ∀ r' ∈ R, (m.getD r.i 0).testBit r'.i = true → Dn r'.i) (hcl : ∀ r' ∈ R, Dn r'.i → (m.getD r'.i 0).testBit r.i = true → Dn r.i) (hcl2 : ∀ r' ∈ R, Dn r'.i → ∀ r'' ∈ R, (m.getD r'.i 0).testBit r''.i = true → Dn r''.i)
    {Q : Exit → Act → World → Prop} {K : Act → World → Prop} (hK : ∀ a' w' β', SInv P D nt m R W.next β0 β' w0 w' a0 a' (fun k => Dn k ∨ k = r.i) → K a' w') : wpOp P ops Q r.i K a w := by
  obtain ⟨o, W1, ho, hx, hW1, hdel, hdst⟩ := hR.one r hr
  obtain ⟨hlo, hlh, hhs, hci⟩ := hR.rng r hr
  have ho' : ops[r.i]? = some o := by simpa using ho
  -- places of what it may know
  have hβr : ∀ i, restr β (supp m R W.next r.i) i ≠ .unborn → i < r.lo := by
    intro i hi
    by_cases hs : supp m R W.next r.i i
    · rcases hs with hs | ⟨r', hr', hb, hin⟩
      · omega
      · have h1 := bit_lt he hm r.i ho r'.i hb
        have h2 := (hR.lt r' hr' r hr h1).1
        have := hin.2
        omega
    · exact absurd (restr_out hs) hi
  have hsub : ∀ r' ∈ R, (m.getD r.i 0).testBit r'.i = true → ∀ i, supq m R W.next r' i → supp m R W.next r.i i := by
    intro r' hr' hb i hi
    rcases hi with (hi | ⟨r'', hr'', hb', hin⟩) | hi
    · exact Or.inl hi
    · exact Or.inr ⟨r'', hr'', bit_trans he hm r.i ho r'.i r''.i hb hb', hin⟩
    · exact Or.inr ⟨r', hr', hb, hi⟩
  have hle0 : LeS β0 (restr β (supp m R W.next r.i)) := fun i => by
    by_cases hi : i < W.next
    · exact Or.inr (Or.inl (by rw [restr_in (Or.inl hi)]; exact hI.base i hi))
    · exact Or.inl (h0.unborn i (by omega))
  have hrel : Rel P D (restr β (supp m R W.next r.i)) ⟨heapOf W.heap (selRecs (m.getD r.i 0) R), r.lo⟩ w := by
    refine ⟨fun i hi => ?_, fun i ob hi => ?_, fun i j b d x d' x' hi hj => ?_, fun i b d x hi => ?_⟩
    · by_cases hu : restr β (supp m R W.next r.i) i = .unborn
      · exact hu
      · have hh := hβr i hu
        have hi' : r.lo ≤ i := hi
        omega
    · rcases heapOf_at _ _ _ _ hi with ⟨r', h1, h2⟩ | h1
      · obtain ⟨h3, h4⟩ := List.mem_filter.1 h1
        obtain ⟨_, g2⟩ := hI.recs r' h3 (hpre r' h3 h4)
        obtain ⟨b, d, x, e1, e2⟩ := g2 _ h2
        obtain ⟨o'', W'', _, _, q3, q4, _⟩ := hR.one r' h3
        rw [q4] at h2
        obtain ⟨p1, p2, _⟩ := collect_spec _ _ _ _ h2
        have hrl := (hR.rng r' h3).2.1
        have hin : InRec r' i := ⟨p1, by rw [← q3]; have := p2; simp only [] at this; omega⟩
        exact ⟨b, d, x, by rw [restr_in (Or.inr ⟨r', h3, h4, hin⟩)]; exact e1, e2.mono (restr_le β (hsub r' h3 h4)) rfl⟩
      · obtain ⟨b, d, x, e1, e2⟩ := h0.live i ob h1
        have hin := h0.lt_next h1
        refine ⟨b, d, x, by rw [restr_in (Or.inl hin), hI.base i hin]; exact e1, e2.mono hle0 (hI.only.block b (h0.lt i b d x e1) (fun h => h))⟩
    · by_cases h1 : supp m R W.next r.i i
      · by_cases h2 : supp m R W.next r.i j
        · rw [restr_in h1] at hi; rw [restr_in h2] at hj; exact hI.inj i j b d x d' x' hi hj
        · rw [restr_out h2] at hj; cases hj
      · rw [restr_out h1] at hi; cases hi
    · by_cases h1 : supp m R W.next r.i i
      · rw [restr_in h1] at hi; exact hI.lt i b d x hi
      · rw [restr_out h1] at hi; cases hi
  have hfr : FR sy (restr β (supp m R W.next r.i)) nt (frameOf A0 (selRecs (m.getD r.i 0) R)) a := seg_frame he hm hA0 h0 hf0 hI (r := r) ho hpre
  refine vexec1_ok hc hrel (lim := r.lo) (Nat.le_refl _) hfr ho' hx (fun v' w1 β1 g1 g2 g3 g4 => ?_)
  have hnt : ∀ k, ¬ Touch r.lo (restr β (supp m R W.next r.i)) k := by
    rintro k ⟨i, d, x, h1, h2⟩
    have := hβr i (by rw [h2]; exact fun h => by cases h)
    omega
  have honly : Only (fun _ => False) w w1 := g3.only.mono (fun k _ hk => hnt k hk)
  have hnewb : ∀ i b d x, r.lo ≤ i → β1 i = .live b d x → w.heap.size ≤ b := by
    intro i b d x h1 h2
    rcases Nat.lt_or_ge b w.heap.size with h3 | h3
    · exact absurd (g3.new b h3 ⟨i, d, x, h1, h2⟩) (hnt b)
    · exact h3
  have hdisj : ∀ r' ∈ R, ∀ i, InRec r i → InRec r' i → r' = r := by
    intro r' hr' i h1 h2
    rcases Nat.lt_trichotomy r'.i r.i with h3 | h3 | h3
    · have := (hR.lt r' hr' r hr h3).1
      have := h1.1; have := h2.2; omega
    · exact hR.eq r' hr' r hr h3
    · have := (hR.lt r hr r' hr' h3).1
      have := h1.2; have := h2.1; omega
  -- the new places
  obtain ⟨β', hβ'⟩ : ∃ β' : Place, (∀ i, InRec r i → β' i = β1 i) ∧ ∀ i, ¬ InRec r i → β' i = β i := by
    classical
    exact ⟨fun i => if InRec r i then β1 i else β i, fun i hi => if_pos hi, fun i hi => if_neg hi⟩
  obtain ⟨hb1, hb2⟩ := hβ'
  have hnr : ∀ i, i < W.next → ¬ InRec r i := fun i hi hin => by have := hin.1; omega
  refine hK (a.put o.dst v') w1 β' ⟨?_, ?_, ?_, ?_, ?_, ?_, ?_, ?_, ?_, ?_⟩
  · intro i hi
    rw [hb2 i (hnr i hi)]; exact hI.base i hi
  · intro i b d x hi hl
    by_cases hin : InRec r i
    · rw [hb1 i hin] at hl
      exact Nat.le_trans hI.only.size (hnewb i b d x hin.1 hl)
    · rw [hb2 i hin] at hl
      exact hI.born i b d x hi hl
  · intro i hi hu
    by_cases hin : InRec r i
    · exact ⟨r, hr, Or.inr rfl, hin⟩
    · rw [hb2 i hin] at hu
      obtain ⟨r', q1, q2, q3⟩ := hI.unb i hi hu
      exact ⟨r', q1, Or.inl q2, q3⟩
  · intro i j b d x d' x' hi hj
    by_cases h1 : InRec r i <;> by_cases h2 : InRec r j
    · rw [hb1 i h1] at hi; rw [hb1 j h2] at hj; exact g2.inj i j b d x d' x' hi hj
    · rw [hb1 i h1] at hi; rw [hb2 j h2] at hj
      have q1 := hnewb i b d x h1.1 hi
      have q2 := hI.lt j b d' x' hj
      omega
    · rw [hb2 i h1] at hi; rw [hb1 j h2] at hj
      have q1 := hnewb j b d' x' h2.1 hj
      have q2 := hI.lt i b d x hi
      omega
    · rw [hb2 i h1] at hi; rw [hb2 j h2] at hj; exact hI.inj i j b d x d' x' hi hj
  · intro i b d x hi
    by_cases h1 : InRec r i
    · rw [hb1 i h1] at hi; exact g2.lt i b d x hi
    · rw [hb2 i h1] at hi; exact Nat.lt_of_lt_of_le (hI.lt i b d x hi) honly.size
  · exact hI.only.trans honly (fun _ _ h => h)
  · rw [← hI.size]
    cases o.dst <;> simp [Act.put]
  · have : (a.put o.dst v').defers = a.defers := by cases o.dst <;> rfl
    rw [this]; exact hI.defers
  · intro t ht
    have hd : o.dst ≠ some t := by rw [← hdst]; exact ht r hr (Or.inr rfl)
    rw [act_put_getD hd]
    exact hI.other t (fun r' hr' hd' => ht r' hr' (Or.inl hd'))
  · intro r' hr' hd'
    by_cases hrr : r' = r
    · subst hrr
      have hE : restr β' (supq m R W.next r') = β1 := by
        funext i
        by_cases hin : InRec r' i
        · rw [restr_in (Or.inr hin), hb1 i hin]
        · by_cases hs : supp m R W.next r'.i i
          · rw [restr_in (Or.inl hs), hb2 i hin]
            have hlt : i < r'.lo := by
              rcases hs with hs | ⟨r'', hr'', hb, hin'⟩
              · omega
              · have h1 := bit_lt he hm r'.i ho r''.i hb
                have h2 := (hR.lt r'' hr'' r' hr' h1).1
                have := hin'.2
                omega
            rw [g3.low i hlt, restr_in hs]
          · rw [restr_out (fun h => h.elim hs hin)]
            rcases Nat.lt_or_ge i r'.lo with h1 | h1
            · rw [g3.low i h1, restr_out hs]
            · refine (g2.unborn i ?_).symm
              rw [hW1]
              rcases Nat.lt_or_ge i r'.hi with h2 | h2
              · exact absurd ⟨h1, h2⟩ hin
              · exact h2
      rw [hE]
      refine ⟨fun d hd => ?_, fun p hp => ?_⟩
      · have hod : o.dst = some d := by rw [← hdst]; exact hd
        rw [hod, act_put_same (by rw [hI.size]; exact hR.nt r' hr' d hd)]
        exact g1
      · rw [hdel] at hp
        obtain ⟨p1, p2, p3⟩ := collect_spec _ _ _ _ hp
        obtain ⟨b, d, x, e1, e2⟩ := g2.live p.1 p.2 p3
        have hin : InRec r' p.1 := ⟨p1, by rw [← hW1]; omega⟩
        exact ⟨b, d, x, by rw [hb1 _ hin]; exact e1, e2⟩
    · have hDr' : Dn r'.i := by
        rcases hd' with h | h
        · exact h
        · exact absurd (hR.eq r' hr' r hr h) hrr
      have hnin : ∀ i, supq m R W.next r' i → ¬ InRec r i := by
        intro i hi hin
        rcases hi with (hi | ⟨r'', hr'', hb, hin'⟩) | hi
        · exact hnr i hi hin
        · have := hdisj r'' hr'' i hin hin'
          subst this
          exact hnd (hcl r' hr' hDr' hb)
        · exact hrr (hdisj r' hr' i hin hi)
      have hE : restr β' (supq m R W.next r') = restr β (supq m R W.next r') := by
        funext i
        by_cases hs : supq m R W.next r' i
        · rw [restr_in hs, restr_in hs, hb2 i (hnin i hs)]
        · rw [restr_out hs, restr_out hs]
      rw [hE]
      obtain ⟨q1, q2⟩ := hI.recs r' hr' hDr'
      refine ⟨fun d hd => ?_, fun p hp => ?_⟩
      · have hod : o.dst ≠ some d := by
          rw [← hdst]
          intro e
          rcases Nat.lt_trichotomy r'.i r.i with h3 | h3 | h3
          · exact (hR.lt r' hr' r hr h3).2 d hd e
          · exact hrr (hR.eq r' hr' r hr h3)
          · exact (hR.lt r hr r' hr' h3).2 d e hd
        rw [act_put_getD hod]
        exact q1 d hd
      · obtain ⟨b, d, x, e1, e2⟩ := q2 p hp
        obtain ⟨o'', W'', _, _, q3, q4, _⟩ := hR.one r' hr'
        have hp' := hp
        rw [q4] at hp'
        obtain ⟨p1, p2, _⟩ := collect_spec _ _ _ _ hp'
        have hrl := (hR.rng r' hr').2.1
        have hin : InRec r' p.1 := ⟨p1, by rw [← q3]; omega⟩
        exact ⟨b, d, x, by rw [hb2 _ (hnin _ (Or.inr hin))]; exact e1, e2.mono (LeS.refl _) (honly.block b (hI.lt _ _ _ _ e1) (fun h => h))⟩
/-- where nothing has been taken -/
theorem SInv.start {β0 : Place} {w0 : World} {a0 : Act} (h0 : Rel P D β0 W w0) (hf0 : FR sy β0 nt A a0) (R : List Rec) {Dn : Nat → Prop} (hD : ∀ r ∈ R, ¬ Dn r.i) : SInv P D nt m R W.next β0 β0 w0 w0 a0 a0 Dn :=
  ⟨fun _ _ => rfl, fun i b d x hi hl => (by rw [h0.unborn i hi] at hl; cases hl), fun i hi hu => absurd (h0.unborn i hi) hu, h0.inj, h0.lt, Only.refl _ _, hf0.size, hf0.defers, fun _ _ => rfl, fun r hr hd => absurd hd (hD r hr)⟩
/-- where all has been taken -/
theorem SInv.finish {c s1 : Nat} {R : List Rec} (hR : SegOk sy call nt ops.toList m fm A0 W.heap c W.next s1 R) (hs : W.next ≤ s1) {β0 β : Place} {w0 w : World} {a0 a : Act} (h0 : Rel P D β0 W w0) (hf0 : FR sy β0 nt A a0) {Dn : Nat → Prop} (hI : SInv P D nt m R W.next β0 β w0 w a0 a Dn) (hD : ∀ r ∈ R, Dn r.i) {lim : Nat} (hlim : lim ≤ W.next) :
    FR sy β nt (frameOf A R) a ∧ Rel P D β ⟨heapOf W.heap R, s1⟩ w ∧ Ext lim β0 β w0 w := by
  have hle : LeS β0 β := fun i => by
    by_cases hi : i < W.next
    · exact Or.inr (Or.inl (hI.base i hi))
    · exact Or.inl (h0.unborn i (by omega))
  refine ⟨⟨hf0.glob.mono hle, hI.size, hI.defers, fun t v hv => ?_⟩, ⟨fun i hi => ?_, fun i ob hi => ?_, hI.inj, hI.lt⟩, ⟨hle, fun i hi => hI.base i (by omega), hI.only.mono (fun _ _ h => h.elim), ?_⟩⟩
  · rcases frameOf_at _ _ _ _ hv with ⟨r, h1, h2, h3⟩ | ⟨h1, h2⟩
    · rw [← h3]
      exact ((hI.recs r h1 (hD r h1)).1 t h2).mono (restr_le' _ _)
    · rw [hI.other t (fun r hr _ => h2 r hr)]
      exact (hf0.vals t v h1).mono hle
  · by_cases hu : β i = .unborn
    · exact hu
    · have hi' : s1 ≤ i := hi
      obtain ⟨r, q1, _, q3⟩ := hI.unb i (by omega) hu
      have := (hR.rng r q1).2.2.1
      have := q3.2
      omega
  · rcases heapOf_at _ _ _ _ hi with ⟨r, h1, h2⟩ | h1
    · obtain ⟨b, d, x, e1, e2⟩ := (hI.recs r h1 (hD r h1)).2 _ h2
      exact ⟨b, d, x, e1, e2.mono (restr_le' _ _) rfl⟩
    · obtain ⟨b, d, x, e1, e2⟩ := h0.live i ob h1
      exact ⟨b, d, x, by rw [hI.base i (h0.lt_next h1)]; exact e1, e2.mono hle (hI.only.block b (h0.lt i b d x e1) (fun h => h))⟩
  · rintro k hk ⟨i, d, x, h1, h2⟩
    rcases Nat.lt_or_ge i W.next with h3 | h3
    · exact ⟨i, d, x, h1, by rw [← hI.base i h3]; exact h2⟩
    · have := hI.born i k d x h3 h2
      omega
end
end Go.Proofs.Ytednnkhomfabaaa
