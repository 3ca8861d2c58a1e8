/- A machine to run closed calls: all orders of a region, one by one, at the outermost call. No condition. -/
import Derived.Test.YteoemkkfplbiaaaVmB
namespace Go.Proofs.Yteoemkkfplbiaaa
open Go.RowKit
set_option linter.unusedVariables false
abbrev VK := VExit → Tr Value → VW → Bool
def floatNow (ops : Array Oper) (listed : Array Bool) (i : Nat) : Bool :=
  match ops[i]? with
  | some oi => regKind oi.op && (List.range ops.size).all (fun j => j.beq i || listed.getD j true || (match ops[j]? with | some oj => (bindsTo oj).contains i || oi.apart ops oj | none => true))
  | none => false
def vbranch {P : Program} {D : Den} (sy : Sy P D) (call : VCall) (lim nt : Nat) (ops : Array Oper) (K : Tr Value → VW → Bool) : Nat → Array Bool → Tr Value → VW → Bool
  | 0, listed, A, W => (Region.ready .any ops listed).isEmpty && K A W
  | f + 1, listed, A, W =>
    match Region.ready .any ops listed with
    | [] => K A W
    | i0 :: l =>
      match (i0 :: l).find? (floatNow ops listed) with
      | some i =>
        (match ops[i]? with
        | some o =>
          (match vregW sy ops.toList A o with
          | some v => (match putD nt A o.dst v with | some A' => vbranch sy call lim nt ops K f (listed.setIfInBounds i true) A' W | none => false)
          | none => false)
        | none => false)
      | none => (i0 :: l).all fun i =>
        match ops[i]? with
        | some o =>
          (match vexec1 sy call lim ops.toList A W o with
          | some (v, W') => (match putD nt A o.dst v with | some A' => vbranch sy call lim nt ops K f (listed.setIfInBounds i true) A' W' | none => false)
          | none => false)
        | none => false
def vloopB (body : VK → Tr Value → VW → Bool) : Nat → VK → Tr Value → VW → Bool
  | 0, _, _, _ => false
  | n + 1, K, A, W => body (fun e A' W' => match e with | .normal => vloopB body n K A' W' | .exit id => K (.exit id) A' W' | .ret => K .ret A' W') A W
def vcodeB {P : Program} {D : Den} (sy : Sy P D) (call : VCall) (lim nt F : Nat) : Code → VK → Tr Value → VW → Bool
  | .skip, K, A, W => K .normal A W
  | .label _, K, A, W => K .normal A W
  | .region _ ops draw, K, A, W =>
    bif draw then
      bif edgesOk 0 ops.toList && masksOk (masks ops.toList []) 0 ops.toList && Region.noSelect ops then
        (match vregion sy call lim nt ops.toList (masks ops.toList []) (fmask ops 0 ops.toList) ops.size 1000 0 A W with
        | some (A', W') => W.next.ble W'.next && K .normal A' W'
        | none => vbranch sy call lim nt ops (K .normal) ops.size (Array.replicate ops.size false) A W)
      else false
    else
      (match vops sy call lim nt ops.toList ops.toList A W with
      | some (A', W') => W.next.ble W'.next && K .normal A' W'
      | none => false)
  | .seq x y, K, A, W => vcodeB sy call lim nt F x (fun e A' W' => match e with | .normal => vcodeB sy call lim nt F y K A' W' | .exit id => K (.exit id) A' W' | .ret => K .ret A' W') A W
  | .cond c x y, K, A, W =>
    (match ev sy A c with
    | some (.bool true) => vcodeB sy call lim nt F x K A W
    | some (.bool false) => vcodeB sy call lim nt F y K A W
    | _ => false)
  | .block id b, K, A, W => vcodeB sy call lim nt F b (fun e A' W' => match e with | .normal => K .normal A' W' | .exit id' => (bif id'.beq id then K .normal A' W' else K (.exit id') A' W') | .ret => K .ret A' W') A W
  | .loop b, K, A, W => vloopB (vcodeB sy call lim nt F b) F K A W
  | .exit id, K, A, W => K (.exit id) A W
  | .scope b, K, A, W => vcodeB sy call lim nt F b K A W
  | .ret, K, A, W => K .ret A W
  | _, _, _, _ => false
section
variable {P : Program} {D : Den} {sy : Sy P D} {call : VCall} {nt : Nat} {ops : Array Oper}
theorem floatNow_ok {listed : Array Bool} {i : Nat} (h : floatNow ops listed i = true) : ∃ oi, ops[i]? = some oi ∧ regKind oi.op = true ∧
    ∀ j oj, ops[j]? = some oj → j ≠ i → listed.getD j true = false → (∀ e ∈ oj.after, Region.binds .any e = true → e.on ≠ i) → oi.apart ops oj = true := by
  unfold floatNow at h
  split at h
  · rename_i oi hoi
    rw [Bool.and_eq_true] at h
    refine ⟨oi, hoi, h.1, fun j oj hj hne hl hnw => ?_⟩
    have hlt : j < ops.size := (Array.getElem?_eq_some_iff.1 hj).1
    have h1 := (List.all_eq_true.1 h.2) j (List.mem_range.2 hlt)
    rw [hl, hj, nbeq hne] at h1
    simp only [Bool.false_or, Bool.or_eq_true] at h1
    rcases h1 with h1 | h1
    · have h4 : i ∈ bindsTo oj := by simpa using h1
      unfold bindsTo at h4
      obtain ⟨e, he, hei⟩ := List.mem_map.1 h4
      obtain ⟨he1, he2⟩ := List.mem_filter.1 he
      exact absurd hei (hnw e (by simpa using he1) he2)
    · exact h1
  · cases h
theorem vbranch_ok (hc : CallOk sy call) (hsel : Region.noSelect ops = true) {lim : Nat} {K : Tr Value → VW → Bool} {Q : Exit → Act → World → Prop} (hQp : ∀ c a w, ¬ Q (.panic c) a w) {β0 : Place} {w0 : World} {next0 : Nat}
    (hQ : ∀ A' W' a' w' β', K A' W' = true → FR sy β' nt A' a' → Rel P D β' W' w' → Ext lim β0 β' w0 w' → next0 ≤ W'.next → Q .normal a' w') :
    ∀ (f : Nat) (listed : Array Bool) (A : Tr Value) (W : VW), vbranch sy call lim nt ops K f listed A W = true → ∀ β a w, Rel P D β W w → lim ≤ W.next → FR sy β nt A a → Ext lim β0 β w0 w → next0 ≤ W.next → wpAny P .any ops Q f listed a w
  | 0, listed, A, W, h, β, a, w, hr, hl, hf, hx, hn => by
    simp only [vbranch, Bool.and_eq_true] at h
    exact ⟨List.isEmpty_iff.1 h.1, hQ A W a w β h.2 hf hr hx hn⟩
  | f + 1, listed, A, W, h, β, a, w, hr, hl, hf, hx, hn => by
    unfold vbranch at h
    split at h
    · rename_i hrd
      refine ⟨fun _ => hQ A W a w β h hf hr hx hn, fun i hi => ?_⟩
      rw [hrd] at hi
      cases hi
    · rename_i i0 l hrd
      split at h
      · rename_i i hfi
        have hmem : i ∈ Region.ready .any ops listed := by rw [hrd]; exact List.mem_of_find?_eq_some hfi
        obtain ⟨oi, hoi, hk, hap⟩ := floatNow_ok (by simpa using List.find?_some hfi)
        rw [hoi] at h
        simp only [] at h
        split at h
        · rename_i v hv
          split at h
          · rename_i A1 hp
            obtain ⟨v', q1, q2⟩ := vregW_ok hf hv
            exact wpAny_first hoi (fun j o cs b => Region.noSelect_spec hsel j o cs b) (fun c a w hq => absurd hq (hQp c _ w)) f listed a w hap hmem q2
              (vbranch_ok hc hsel hQp hQ f _ A1 W h β _ w hr hl (putD_ok hf q1 hp) hx hn)
          · cases h
        · cases h
      · rename_i hfi
        refine ⟨fun h0 => (by rw [hrd] at h0; cases h0), fun i hi => ?_⟩
        rw [hrd] at hi
        have h1 := (List.all_eq_true.1 h) i hi
        split at h1
        · rename_i o ho
          split at h1
          · rename_i v W1 hex
            split at h1
            · rename_i A1 hp
              exact vexec1_ok hc hr hl hf ho hex (fun v' w' β' q1 q2 q3 q4 => vbranch_ok hc hsel hQp hQ f _ A1 W1 h1 β' _ w' q2 (Nat.le_trans hl q4) (putD_ok (hf.mono q3.le) q1 hp) (hx.trans q3) (Nat.le_trans hn q4))
            · cases h1
          · cases h1
        · cases h1
def CodeBOk {P : Program} {D : Den} (sy : Sy P D) (lim nt : Nat) (c : Code) (r : VK → Tr Value → VW → Bool) : Prop :=
  ∀ K A W, r K A W = true → ∀ β a w, Rel P D β W w → lim ≤ W.next → FR sy β nt A a → ∀ Q : Exit → Act → World → Prop,
    (∀ x A' W' a' w' β', K x A' W' = true → FR sy β' nt A' a' → Rel P D β' W' w' → Ext lim β β' w w' → W.next ≤ W'.next → Q x.to a' w') → c.wp P Q a w
theorem vloopB_ok {lim : Nat} {c : Code} {r : VK → Tr Value → VW → Bool} (hr : CodeBOk sy lim nt c r) : ∀ (n : Nat) K A W, vloopB r n K A W = true → ∀ β a w, Rel P D β W w → lim ≤ W.next → FR sy β nt A a → ∀ Q : Exit → Act → World → Prop,
    (∀ x A' W' a' w' β', K x A' W' = true → FR sy β' nt A' a' → Rel P D β' W' w' → Ext lim β β' w w' → W.next ≤ W'.next → Q x.to a' w') → Code.rounds P c Q n a w
  | 0, _, _, _, h, _, _, _, _, _, _, _, _ => by cases h
  | n + 1, K, A, W, h, β, a, w, hrel, hl, hf, Q, hQ => by
    rw [rounds_succ]
    unfold vloopB at h
    refine hr _ A W h β a w hrel hl hf _ (fun x A1 W1 a1 w1 β1 hk g1 g2 g3 g4 => ?_)
    cases x with
    | normal => exact vloopB_ok hr n K A1 W1 hk β1 a1 w1 g2 (Nat.le_trans hl g4) g1 Q (fun x A2 W2 a2 w2 β2 k0 k1 k2 k3 k4 => hQ x A2 W2 a2 w2 β2 k0 k1 k2 (g3.trans k3) (Nat.le_trans g4 k4))
    | exit id => exact hQ (.exit id) A1 W1 a1 w1 β1 hk g1 g2 g3 g4
    | ret => exact hQ .ret A1 W1 a1 w1 β1 hk g1 g2 g3 g4
theorem vcodeB_ok (hmix : P.follows .mixedOrders = true) {call : VCall} (hc : CallOk sy call) (lim nt F : Nat) : ∀ c : Code, CodeBOk sy lim nt c (vcodeB sy call lim nt F c) := by
  intro c
  induction c with
  | skip =>
    intro K A W h β a w hrel hl hf Q hQ
    exact wp_skip (hQ .normal A W a w β h hf hrel (Ext.refl _ _ _) (Nat.le_refl _))
  | label l =>
    intro K A W h β a w hrel hl hf Q hQ
    exact wp_label (hQ .normal A W a w β h hf hrel (Ext.refl _ _ _) (Nat.le_refl _))
  | region id ops draw =>
    intro K A W h β a w hrel hl hf Q hQ
    unfold vcodeB at h
    cases draw with
    | false =>
      simp only [cond_false] at h
      split at h
      · rename_i A1 W1 h1
        rw [Bool.and_eq_true] at h
        refine wp_region ?_
        rw [List.range_eq_range', ← Array.length_toList]
        exact vops_ok hc ops.toList 0 A A1 W W1 β a w (by simp) hrel hl hf h1 (fun a' w' β' g1 g2 g3 g4 => hQ .normal A1 W1 a' w' β' h.2 g1 g2 g3 g4)
      · cases h
    | true =>
      simp only [cond_true] at h
      cases hm : (edgesOk 0 ops.toList && masksOk (masks ops.toList []) 0 ops.toList && Region.noSelect ops) with
      | false => rw [hm] at h; cases h
      | true =>
        rw [hm] at h
        simp only [cond_true] at h
        simp only [Bool.and_eq_true] at hm
        split at h
        · rename_i A1 W1 h1
          rw [Bool.and_eq_true] at h
          exact vregion_ok hmix hc hm.1.1 hm.1.2 hm.2 hrel hl hf h1 (fun a' w' β' g1 g2 g3 g4 => hQ .normal A1 W1 a' w' β' h.2 g1 g2 g3 g4)
        · refine Code.wp_mono (Q := fun e a' w' => match e with | .normal => Q .normal a' w' | _ => False) (fun e a' w' q => by cases e <;> first | exact q | exact q.elim) ?_
          refine wp_region_any hmix ?_
          have h' : Rel P D β W { w with drawn := w.drawn + 1 } := hrel.drew
          exact vbranch_ok (Q := fun e a' w' => match e with | .normal => Q .normal a' w' | _ => False) hc hm.2 (fun _ _ _ q => q) (β0 := β) (w0 := { w with drawn := w.drawn + 1 }) (next0 := W.next)
            (fun A' W' a' w' β' k g1 g2 g3 g4 => hQ .normal A' W' a' w' β' k g1 g2 (Ext.drew (w := w) g3) g4) _ _ A W h β a _ h' hl hf (Ext.refl _ _ _) (Nat.le_refl _)
  | seq c1 c2 ih1 ih2 =>
    intro K A W h β a w hrel hl hf Q hQ
    unfold vcodeB at h
    refine wp_seq ?_
    refine ih1 _ A W h β a w hrel hl hf _ (fun x A1 W1 a1 w1 β1 hk g1 g2 g3 g4 => ?_)
    cases x with
    | normal => exact ih2 K A1 W1 hk β1 a1 w1 g2 (Nat.le_trans hl g4) g1 Q (fun x A2 W2 a2 w2 β2 k0 k1 k2 k3 k4 => hQ x A2 W2 a2 w2 β2 k0 k1 k2 (g3.trans k3) (Nat.le_trans g4 k4))
    | exit id => exact hQ (.exit id) A1 W1 a1 w1 β1 hk g1 g2 g3 g4
    | ret => exact hQ .ret A1 W1 a1 w1 β1 hk g1 g2 g3 g4
  | cond o c1 c2 ih1 ih2 =>
    intro K A W h β a w hrel hl hf Q hQ
    unfold vcodeB at h
    split at h
    · rename_i h1
      exact wp_cond_true (pf_eq rfl (ev_ok hf h1)) (ih1 K A W h β a w hrel hl hf Q hQ)
    · rename_i h1
      exact wp_cond_false (pf_eq rfl (ev_ok hf h1)) (ih2 K A W h β a w hrel hl hf Q hQ)
    · cases h
  | block id b ih =>
    intro K A W h β a w hrel hl hf Q hQ
    unfold vcodeB at h
    refine wp_block ?_
    refine ih _ A W h β a w hrel hl hf _ (fun x A1 W1 a1 w1 β1 hk g1 g2 g3 g4 => ?_)
    cases x with
    | normal => exact hQ .normal A1 W1 a1 w1 β1 hk g1 g2 g3 g4
    | ret => exact hQ .ret A1 W1 a1 w1 β1 hk g1 g2 g3 g4
    | exit id' =>
      show (if id' = id then Q .normal a1 w1 else Q (.exit id') a1 w1)
      simp only [] at hk
      cases hb : id'.beq id with
      | true =>
        rw [hb] at hk
        rw [if_pos (Nat.eq_of_beq_eq_true hb)]
        exact hQ .normal A1 W1 a1 w1 β1 hk g1 g2 g3 g4
      | false =>
        rw [hb] at hk
        rw [if_neg (fun e => by rw [e, Nat.beq_refl] at hb; cases hb)]
        exact hQ (.exit id') A1 W1 a1 w1 β1 hk g1 g2 g3 g4
  | loop b ih =>
    intro K A W h β a w hrel hl hf Q hQ
    unfold vcodeB at h
    exact wp_loop_rounds F (vloopB_ok ih F K A W h β a w hrel hl hf Q hQ)
  | exit id =>
    intro K A W h β a w hrel hl hf Q hQ
    exact wp_exit (hQ (.exit id) A W a w β h hf hrel (Ext.refl _ _ _) (Nat.le_refl _))
  | scope b ih =>
    intro K A W h β a w hrel hl hf Q hQ
    unfold vcodeB at h
    refine wp_scope_straight (ih K A W h β a w hrel hl hf _ (fun x A1 W1 a1 w1 β1 hk g1 g2 g3 g4 => ?_))
    have := hQ x A1 W1 a1 w1 β1 hk g1 g2 g3 g4
    cases x <;> exact this
  | ret =>
    intro K A W h β a w hrel hl hf Q hQ
    exact wp_ret (hQ .ret A W a w β h hf hrel (Ext.refl _ _ _) (Nat.le_refl _))
  | goto l =>
    intro K A W h
    simp [vcodeB] at h
  | refuse s =>
    intro K A W h
    simp [vcodeB] at h
  | rangeFunc f ps c1 c2 =>
    intro K A W h
    simp [vcodeB] at h
end
theorem glob_rel {P : Program} {D : Den} (sy : Sy P D) (ng : Nat) (G : Globs) (hgl : ∀ g, sy.gl g = true → g < ng) (w : World) (hn : ng ≤ w.heap.size) (hG : ∀ g ∈ G, g.1 < ng ∧ pfs g.2 = true) (hN : NeedOk G w) :
    Rel P D (globP ng G) (globW ng G) w ∧ GOk sy (globP ng G) := by
  have hp : ∀ i, globP ng G i = .unborn ∨ globP ng G i = .dead ∨ globP ng G i = .live i 0 0 := by
    intro i
    unfold globP
    cases i.blt ng <;> cases G.any (fun g => g.1.beq i) <;> simp
  have hrel : Rel P D (globP ng G) (globW ng G) w := by
    refine ⟨fun i hi => ?_, fun i o hi => ?_, fun i j b d x d' x' hi hj => ?_, fun i b d x hi => ?_⟩
    · have hi' : ng ≤ i := hi
      have : i.blt ng = false := by
        cases hb : i.blt ng with
        | false => rfl
        | true => simp [Nat.blt_eq] at hb; omega
      unfold globP
      rw [this]; rfl
    · obtain ⟨g, h1, h2, rfl⟩ := globHeap_at G i o hi
      obtain ⟨k1, k2⟩ := hG g h1
      have k3 := hN g h1
      subst h2
      refine ⟨g.1, 0, 0, ?_, fun k v hk hv => ?_⟩
      · have e1 : g.1.blt ng = true := by simpa [Nat.blt_eq] using k1
        have e2 : G.any (fun g' => g'.1.beq g.1) = true := List.any_eq_true.2 ⟨g, h1, Nat.beq_refl _⟩
        unfold globP
        rw [e1, e2]; rfl
      · rcases trOf_at g.2 0 .nil k v hv with ⟨_, q⟩ | ⟨_, q⟩
        · refine ⟨v, by rw [Nat.zero_add]; exact k3 k v (by simpa using q), pf_vr D _ v (pfs_mem k2 v (List.mem_of_getElem? q))⟩
        · rw [show (Tr.nil : Tr Value).at k = none from Tr.get_nil _ _] at q; cases q
    · rcases hp i with e | e | e <;> rw [e] at hi <;> cases hi
      rcases hp j with e' | e' | e' <;> rw [e'] at hj <;> cases hj
      rfl
    · have hlt : i < ng := by
        rcases Nat.lt_or_ge i ng with hh | hh
        · exact hh
        · unfold globP at hi
          have : i.blt ng = false := by
            cases hb : i.blt ng with
            | false => rfl
            | true => simp [Nat.blt_eq] at hb; omega
          rw [this] at hi; cases hi
      rcases hp i with e | e | e <;> rw [e] at hi <;> cases hi
      omega
  have hgo : GOk sy (globP ng G) := by
    intro g hg
    have h1 := hgl g hg
    rcases hp g with e | e | e
    · unfold globP at e
      have : g.blt ng = true := by simpa [Nat.blt_eq] using h1
      rw [this] at e
      cases hb : G.any (fun g' => g'.1.beq g) <;> rw [hb] at e <;> cases e
    · exact Or.inl e
    · exact Or.inr ⟨0, e⟩
  exact ⟨hrel, hgo⟩
theorem glob_low {ng : Nat} {G : Globs} {k : Nat} (h : Touch ng (globP ng G) k) : False := by
  obtain ⟨i, d, x, hi, hk⟩ := h
  unfold globP at hk
  have : i.blt ng = false := by
    cases hb : i.blt ng with
    | false => rfl
    | true => simp [Nat.blt_eq] at hb; omega
  rw [this] at hk
  cases hk
def isT : Value → Bool
  | .bool b => b
  | _ => false
def endsT (P : Program) (fn : Func) : VK := fun x A W =>
  match x with
  | .exit _ => false
  | _ => (match vresults P A W fn.results.toList with | some vs => isT (retOf vs) | none => false)
/-- does a call answer true, by the machine, in whatever order? -/
def vtop {P : Program} {D : Den} (sy : Sy P D) (F n lim f : Nat) (xs : List Value) (W : VW) : Bool :=
  match P.funcs[f]? with
  | some fn =>
    (match fn.body with
    | some c => vcodeB sy (vcall sy F n) lim (xs.length + (fn.ntmps - xs.length)) F c (endsT P fn) (trOf 0 xs .nil) W
    | none => false)
  | none => false
theorem vrunT {P : Program} {D : Den} (sy : Sy P D) (hmix : P.follows .mixedOrders = true) (F n f ng : Nat) (G : Globs) (xs xs' : List Value) (hgl : ∀ g, sy.gl g = true → g < ng) (w : World) (hn : ng ≤ w.heap.size)
    (hG : ∀ g ∈ G, g.1 < ng ∧ pfs g.2 = true) (hN : NeedOk G w) (hl : ∀ β, LR D β xs xs') (h : vtop sy F n ng f xs (globW ng G) = true) :
    Calls P f xs'.toArray w fun e w' => e = .returned (.bool true) ∧ Below w.heap.size w w' := by
  obtain ⟨hrel, hg⟩ := glob_rel sy ng G hgl w hn hG hN
  unfold vtop at h
  split at h
  rotate_left
  · cases h
  rename_i fn hfn
  split at h
  rotate_left
  · cases h
  rename_i c hcb
  have hl := hl (globP ng G)
  have hF0 : FR sy (globP ng G) (xs.length + (fn.ntmps - xs.length)) (trOf 0 xs .nil) { tmps := xs'.toArray ++ Array.replicate (fn.ntmps - xs'.toArray.size) undef, defers := [] } := by
    have hlen := hl.1
    refine ⟨hg, by simp [hlen], rfl, fun t u hu => ?_⟩
    rcases trOf_at xs 0 .nil t u hu with ⟨_, h1⟩ | ⟨_, h1⟩
    · have ht : t < xs'.length := by
        rw [← hlen]
        exact (List.getElem?_eq_some_iff.1 h1).1
      have : (xs'.toArray ++ Array.replicate (fn.ntmps - xs'.toArray.size) undef).getD t undef = xs'[t] := by
        simp [Array.getD_eq_getD_getElem?, Array.getElem?_append, ht]
      rw [this]
      exact hl.2 t u _ h1 (List.getElem?_eq_getElem ht)
    · rw [show (Tr.nil : Tr Value).at t = none from Tr.get_nil _ _] at h1; cases h1
  refine calls_of_wp hfn hcb (vcodeB_ok (sy := sy) hmix (vcall_ok hmix F n) ng (xs.length + (fn.ntmps - xs.length)) F c _ _ _ h (globP ng G) _ w hrel (Nat.le_refl _) hF0 _ (fun x A1 W1 a1 w1 β1 hk g1 g2 g3 g4 => ?_))
  have fin : (match vresults P A1 W1 fn.results.toList with | some vs => isT (retOf vs) | none => false) = true →
      a1.defers = [] ∧ ∃ u, (results fn a1.tmps).run P w1 = .ok u w1 ∧ (Ending.returned u = .returned (.bool true) ∧ Below w.heap.size w w1) := by
    intro h2
    split at h2
    rotate_left
    · cases h2
    rename_i vs hvs
    obtain ⟨vs', k1, k2⟩ := vresults_ok g2 g1 fn.results.toList vs hvs
    have hvt : vs = [.bool true] := by
      match vs with
      | [] => cases h2
      | [v] =>
        cases v with
        | bool b => cases b with
          | true => rfl
          | false => cases h2
        | _ => cases h2
      | _ :: _ :: _ => cases h2
    subst hvt
    have hres : (results fn a1.tmps).run P w1 = .ok (if h : vs'.length = 1 then vs'[0] else .tuple vs'.toArray) w1 := by
      change (do let vs ← fn.results.mapM (resOf a1.tmps); pure (if h : vs.size = 1 then vs[0] else .tuple vs) : Sem Value).run P w1 = _
      rw [Array.mapM_eq_mapM_toList]
      simp only [Sem.run_bind, Sem.run_map, k1, Result.andThen, Sem.run_pure]
      simp
    refine ⟨g1.defers, _, hres, ?_, g3.only.below (Nat.le_refl _) (fun k hk => (glob_low hk).elim)⟩
    have hlen := k2.1
    obtain ⟨y, rfl⟩ : ∃ y, vs' = [y] := by
      match vs', hlen with
      | [y], _ => exact ⟨y, rfl⟩
    have := k2.2 0 (.bool true) y rfl rfl
    rw [← pf_eq rfl this]
    rfl
  cases x with
  | exit id => cases hk
  | normal => exact fin hk
  | ret => exact fin hk
end Go.Proofs.Yteoemkkfplbiaaa
