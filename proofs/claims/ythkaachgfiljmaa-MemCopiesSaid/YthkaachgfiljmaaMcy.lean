/- A memory copied: another one with the same bytes. No condition. -/
import Derived.Test.YthkaachgfiljmaaMcp
import Derived.Test.YthkaachgfiljmaaMemNew
namespace Go.Proofs.Ythkaachgfiljmaa
open Go.RowKit
set_option linter.unusedVariables false
set_option maxHeartbeats 4000000
theorem zero_page (w : World) : (zeroValue 46).run Try.prog w = .ok (.agg zpage) w := by kernel_rfl
theorem exec_alloc_page (ρ : Operand → Value) (o : Oper) (ho : o.op = .alloc 46) (w : World) :
    (execOp ρ o).run Try.prog w = .ok (.value (.pointer (some ⟨w.heap.size, 0, none⟩))) (w.alloc (.cells zpage 46)) := by
  have hz := zero_page w
  unfold execOp
  simp only [ho, Instr.alloc, Sem.run_bind, hz, Result.andThen]
  rfl
theorem wpList_alloc_page {ops : Array Oper} {rest : List Oper} {o : Oper} {a : Act} {w : World} {Q : Exit → Act → World → Prop} (hgd : o.guard = none) (ho : o.op = .alloc 46)
    (h : wpList Try.prog ops Q rest (a.put o.dst (.pointer (some ⟨w.heap.size, 0, none⟩))) (w.alloc (.cells zpage 46))) : wpList Try.prog ops Q (o :: rest) a w :=
  wpList_value hgd _ _ (exec_alloc_page _ o ho w) h
theorem page_one (cs : Array Value) (g : Nat → Int) (hl : cs.size = 4096) (h : ∀ j, j < 4096 → cs[j]? = some (.int .u8 (g j)) ∧ 0 ≤ g j ∧ g j ≤ 255) : cs.all (·.oneCell') = true := by
  rw [Array.all_eq_true]
  intro i hi
  have := (h i (by omega)).1
  rw [Array.getElem?_eq_getElem hi] at this
  rw [Option.some.inj this]
  rfl
theorem wpList_page_load {ops : Array Oper} {rest : List Oper} {op : Oper} {a : Act} {w : World} {Q : Exit → Act → World → Prop} (hgd : op.guard = none) (x : Operand) (ho : op.op = .load 46 x) (g : Nat) (hx : a.eval x = .pointer (some ⟨g, 0, none⟩)) (cs : Array Value) (hl : cs.size = 4096)
    (hb : w.heap[g]? = some (.cells cs 46 (0, 0))) (h : wpList Try.prog ops Q rest (a.put op.dst (.agg cs)) w) : wpList Try.prog ops Q (op :: rest) a w :=
  wpList_value hgd (.agg cs) w (load_page (S := fun w' => w' = w) x ho g hx cs hl (fun w' e => by rw [e]; exact hb) w rfl) h
theorem key_inj {es : Array MapEntry} {l : List (Int × Nat)} (h : Ents .u64 es (pgs l)) (hn : (l.map (·.1)).Nodup) {e e' : MapEntry} (he' : e' ∈ es.toList) (he : e ∈ es.toList) (hk : e'.key = e.key) : e' = e := by
  have hkeys : es.toList.map (·.key) = (l.map (·.1)).map (Value.int .u64) := by
    have := congrArg (List.map Prod.fst) h
    simpa [pgs, List.map_map, Function.comp_def] using this
  have hnk : (es.toList.map (·.key)).Nodup := by
    rw [hkeys]
    exact List.Pairwise.map _ (fun a b hab e => hab (by simpa using e)) hn
  have aux : ∀ (L : List MapEntry), (L.map (·.key)).Nodup → ∀ {x y : MapEntry}, x ∈ L → y ∈ L → x.key = y.key → x = y := by
    intro L
    induction L with
    | nil => intro _ x y hx; cases hx
    | cons a L ih =>
      intro hn x y hx hy hxy
      simp only [List.map_cons, List.nodup_cons] at hn
      rcases List.mem_cons.1 hx with rfl | hx' <;> rcases List.mem_cons.1 hy with rfl | hy'
      · rfl
      · exact absurd (List.mem_map_of_mem (f := (·.key)) hy') (by rw [← hxy]; exact hn.1)
      · exact absurd (List.mem_map_of_mem (f := (·.key)) hx') (by rw [hxy]; exact hn.1)
      · exact ih hn.2 hx' hy' hxy
  exact aux _ hnk he' he hk
/-- what has been copied so far -/
structure CpS (w W : World) (bo mo : Nat) (size : Int) (es : Array MapEntry) (l : List (Int × Nat)) (g : Nat → Nat → Int) (seen : Array Nat) (es' : Array MapEntry) (cl' : Nat) (l' : List (Int × Nat)) (g' : Nat → Nat → Int) : Prop where
  hb : W.heap[bo]? = some (.cells #[.int .u64 size, .map (some mo)] 42 (0, 0))
  hm : W.heap[mo]? = some (.map es' cl')
  he : Ents .u64 es' (pgs l')
  hp : ∀ p ∈ l', PageAt W p.2 (g' p.2)
  hn : (l'.map (·.2)).Nodup
  hs : ∀ p ∈ l', w.heap.size ≤ p.2
  ht : Stamps es' cl' l'
  did : ∀ e ∈ es.toList, seen.contains e.born = true → ∀ p ∈ l, e.key = .int .u64 p.1 → ∃ q, l'.find? (fun q => q.1 == p.1) = some q ∧ ∀ j, j < 4096 → g' q.2 j = g p.2 j
  only : ∀ q ∈ l', ∃ e ∈ es.toList, seen.contains e.born = true ∧ e.key = .int .u64 q.1
theorem CpS.mem {w W : World} {bo mo : Nat} {size : Int} {es : Array MapEntry} {l : List (Int × Nat)} {g : Nat → Nat → Int} {seen : Array Nat} {es' : Array MapEntry} {cl' : Nat} {l' : List (Int × Nat)} {g' : Nat → Nat → Int} {f : Int → Int}
    (h : CpS w W bo mo size es l g seen es' cl' l' g') (hall : ∀ e ∈ es.toList, seen.contains e.born = true) (he : Ents .u64 es (pgs l)) (hf : ∀ x, f x = byteOf l g x) (hbo : w.heap.size ≤ bo) (hmo : w.heap.size ≤ mo) :
    Mem W bo size f (fun k => w.heap.size ≤ k ∧ k < W.heap.size) := by
  refine ⟨mo, es', cl', l', g', h.hb, h.hm, h.he, h.hp, h.hn, ⟨hbo, blk_lt h.hb⟩, ⟨hmo, blk_lt h.hm⟩, fun p hp => ⟨h.hs p hp, (h.hp p hp).lt⟩, fun k hk => hk.2, fun x => ?_, h.ht⟩
  rw [hf x]
  unfold byteOf
  cases hfi : l.find? (fun p => p.1 == x / 4096) with
  | some p =>
    have hk : p.1 = x / 4096 := by simpa using List.find?_some hfi
    obtain ⟨e, hee, hek, _⟩ := ents_of he (List.mem_of_find?_eq_some hfi)
    obtain ⟨q, hq, hg⟩ := h.did e hee (hall e hee) p (List.mem_of_find?_eq_some hfi) hek
    rw [hk] at hq
    rw [hq]
    exact (hg _ (by omega)).symm
  | none =>
    cases hfq : l'.find? (fun p => p.1 == x / 4096) with
    | none => rfl
    | some q =>
      exfalso
      have hk : q.1 = x / 4096 := by simpa using List.find?_some hfq
      obtain ⟨e, hee, _, hek⟩ := h.only q (List.mem_of_find?_eq_some hfq)
      obtain ⟨p, hp, hpk, _⟩ := ents_mem he hee
      rw [hek] at hpk
      simp only [Value.int.injEq, true_and] at hpk
      have := List.find?_eq_none.1 hfi p hp
      rw [← hpk, hk] at this
      simp at this
set_option maxRecDepth 100000 in
theorem copy_any (w : World) (a : Nat) (size : Int) (f : Int → Int) (S : Nat → Prop) (h : Mem w a size f S) :
    Calls Try.prog 11 #[.pointer (some ⟨a, 0, none⟩)] w (Newly w size f) := by
  obtain ⟨mp, es, clock, l, g, hb, hm, he, hp, hn, sb, sm, sp, hs, hf, ht⟩ := h
  have c0 : w.cell? ⟨a, 0, none⟩ = some (.int .u64 size) := blk_cell hb rfl
  have c1 : w.cell? ⟨a, 1, none⟩ = some (.map (some mp)) := blk_cell hb rfl
  have hal : a < w.heap.size := blk_lt hb
  have hmm := @run_makeMap Try.prog
  obtain ⟨W0, hW0⟩ : ∃ W0, W0 = (w.alloc (.map #[] 0)).alloc (.cells #[.int .u64 size, .map (some w.heap.size)] 42) := ⟨_, rfl⟩
  have b0 : Below w.heap.size w W0 := by rw [hW0]; exact below_alloc _ (below_alloc _ (Below.refl _ _))
  have z0 : W0.heap.size = w.heap.size + 1 + 1 := by rw [hW0]; simp
  have hrg := run_range_at (P := Try.prog) W0 40 23 45 mp es clock Try.underlying40 (blk_below hm b0)
  rw [z0] at hrg
  have HE := Lib.hid he
  have HM := Lib.hid hm
  have HP := Lib.hid hp
  have HT := Lib.hid ht
  have HF := Lib.hid hf
  have HB := Lib.hid hb
  have hI0 : Hid (CpS w (W0.alloc (.mapIter (some mp) clock #[] clock)) (w.heap.size + 1) w.heap.size size es l g #[] #[] 0 [] (fun _ _ => 0)) := Lib.hid
    { hb := blk_alloc (by rw [hW0]; exact blk_new' (by simp)) _, hm := blk_alloc (by rw [hW0]; exact blk_alloc (blk_new w _) _) _, he := rfl, hp := fun _ h => (by cases h), hn := List.nodup_nil, hs := fun _ h => (by cases h),
      ht := ⟨fun _ h => (by cases h), List.nodup_nil, List.nodup_nil⟩, did := fun e _ h => (by simp at h), only := fun _ h => by cases h }
  clear hb hm he hp ht hf hn sb sm sp hs
  rw [hW0] at hrg
  go_enter Try.func11, Try.ntmps11
  go_wp2_with fail
  rw [← hW0]
  have HW0 := Lib.hid b0
  have HZ0 := Lib.hid z0
  clear hW0 b0 z0 hrg c0 c1
  go_loopw [] (fun wr => ∃ (seen : Array Nat) (ct : Nat) (es' : Array MapEntry) (cl' : Nat) (l' : List (Int × Nat)) (g' : Nat → Nat → Int), wr.heap[w.heap.size + 1 + 1]? = some (.mapIter (some mp) clock seen ct) ∧ clock ≤ ct ∧ Below w.heap.size w wr ∧
      CpS w wr (w.heap.size + 1) w.heap.size size es l g seen es' cl' l' g') (fun wr => (leftOf es (wr.iterSeen (w.heap.size + 1 + 1))).size)
  case atStart => exact ⟨#[], clock, #[], 0, [], _, by rw [← HZ0.out]; exact blk_new W0 _, Nat.le_refl _, below_alloc _ HW0.out, hI0.out⟩
  case round =>
    obtain ⟨seen, ct, es', cl', l', g', hr, hct, hbl, hC⟩ := hrel
    have hm' := blk_below HM.out hbl
    rcases run_next_at (P := Try.prog) wr 0 (w.heap.size + 1 + 1) mp clock ct seen es clock hr hm' HT.out.1 hct with ⟨hl0, hnx⟩ | ⟨e, heL, w1, hw1, hnx⟩
    · have HMM := Lib.hid (hC.mem (all_seen es seen hl0) HE.out HF.out (Nat.le_succ _) (Nat.le_refl _))
      have HBL := Lib.hid hbl
      clear hl0 hbl hr hct hm' hC
      go_wp2_with fail
      go_returns
      exact ⟨_, _, rfl, HMM.out, fun k hk => hk.1, HBL.out⟩
    · obtain ⟨hees, hns⟩ := mem_left heL
      obtain ⟨p, hpl, hk, hv⟩ := ents_mem HE.out hees
      rw [hk, hv] at hnx
      have hb1 : Below w.heap.size w w1 := by rcases hw1 with rfl | rfl
                                              · exact hbl
                                              · exact Below.drew hbl
      have hr1 : w1.heap[w.heap.size + 1 + 1]? = some (.mapIter (some mp) clock seen ct) := by rcases hw1 with rfl | rfl <;> exact hr
      have hC1 : CpS w w1 (w.heap.size + 1) w.heap.size size es l g seen es' cl' l' g' := by rcases hw1 with rfl | rfl
                                                                                             · exact hC
                                                                                             · exact { hC with hb := hC.hb, hm := hC.hm, hp := hC.hp }
      obtain ⟨W2, hW2⟩ : ∃ W2, W2 = setB w1 (w.heap.size + 1 + 1) (.mapIter (some mp) clock (seen.push e.born) clock) := ⟨_, rfl⟩
      rw [← hW2] at hnx
      have hb2 : Below w.heap.size w W2 := by rw [hW2]; exact Below.setB hb1 (by omega) _
      have hr2 : W2.heap[w.heap.size + 1 + 1]? = some (.mapIter (some mp) clock (seen.push e.born) clock) := by rw [hW2]; exact setB_eq (blk_lt hr1)
      have h2 : ∀ k, k ≠ w.heap.size + 1 + 1 → W2.heap[k]? = w1.heap[k]? := fun k hk => by rw [hW2]; exact setB_ne hk
      have hen := run_entry_at (P := Try.prog) W2 (w.heap.size + 1 + 1) mp clock seen es clock e hr2 (blk_below HM.out hb2) hees HT.out.2.1
      rw [hk, hv] at hen
      obtain ⟨csP, hcP, hszP, hatP⟩ := HP.out p hpl
      have hplt := (HP.out p hpl).lt
      have hcP2 := blk_below hcP hb2
      obtain ⟨W3, hW3⟩ : ∃ W3, W3 = W2.alloc (.cells csP 46) := ⟨_, rfl⟩
      have hmo : W3.heap[w.heap.size]? = some (.map es' cl') := by rw [hW3]; exact blk_alloc ((h2 _ (by omega)).trans hC1.hm) _
      have hbo : W3.heap[w.heap.size + 1]? = some (.cells #[.int .u64 size, .map (some w.heap.size)] 42 (0, 0)) := by rw [hW3]; exact blk_alloc ((h2 _ (by omega)).trans hC1.hb) _
      have hfn : l'.find? (fun q => q.1 == p.1) = none := by
        cases hq : l'.find? (fun q => q.1 == p.1) with
        | none => rfl
        | some q =>
          exfalso
          obtain ⟨e', he', hs', hk'⟩ := hC.only q (List.mem_of_find?_eq_some hq)
          have hq1 : q.1 = p.1 := by simpa using List.find?_some hq
          have : e' = e := key_inj HE.out HT.out.2.2 he' hees (by rw [hk', hk, hq1])
          rw [this, hns] at hs'
          cases hs'
      have hst := run_store (P := Try.prog) Try.underlying40 Try.underlying23 (w := W3) hmo hC1.he p.1 (by rw [look_pgs, hfn]; rfl) (.pointer (some ⟨W2.heap.size, 0, none⟩))
      obtain ⟨W4, hW4⟩ : ∃ W4, W4 = setBlk W3 w.heap.size (.map (es'.push { key := .int .u64 p.1, val := .pointer (some ⟨W2.heap.size, 0, none⟩), born := cl' }) (cl' + 1)) := ⟨_, rfl⟩
      have hst2 : (Instr.mapUpdate 40 (.map (some w.heap.size)) (.int .u64 p.1) (.pointer (some ⟨W2.heap.size, 0, none⟩))).run Try.prog W3 = .ok () W4 := by rw [hst, hW4]; rfl
      have z2 : w.heap.size + 1 + 1 < W2.heap.size := blk_lt hr2
      have h4 : ∀ k, k < W2.heap.size → k ≠ w.heap.size + 1 + 1 → k ≠ w.heap.size → W4.heap[k]? = w1.heap[k]? := fun k h1 h3 h5 => by
        rw [hW4, setBlk_ne h5, hW3, Below.heap_alloc _ _ _ h1]; exact h2 k h3
      have hC4 : CpS w W4 (w.heap.size + 1) w.heap.size size es l g (seen.push e.born) (es'.push { key := .int .u64 p.1, val := .pointer (some ⟨W2.heap.size, 0, none⟩), born := cl' }) (cl' + 1) (l' ++ [(p.1, W2.heap.size)]) (fun k j => if k = W2.heap.size then g p.2 j else g' k j) := by
        refine { hb := by rw [hW4, setBlk_ne (by omega)]; exact hbo, hm := by rw [hW4]; exact setBlk_eq (blk_lt hmo), he := ?_, hp := ?_, hn := ?_, hs := ?_, ht := hC1.ht.push _ _ _ _ hfn, did := ?_, only := ?_ }
        · have := hC1.he.push p.1 (.pointer (some ⟨W2.heap.size, 0, none⟩)) cl'
          simpa [pgs] using this
        · intro q hq
          rcases List.mem_append.1 hq with hq | hq
          · have hlt := (hC1.hp q hq).lt
            have hz12 : w1.heap.size = W2.heap.size := by rw [hW2, setB_size]
            obtain ⟨cs, q1, q2, q3⟩ := hC1.hp q hq
            have n1 : q.2 ≠ w.heap.size + 1 + 1 := by intro e; rw [e, hr1] at q1; cases q1
            have n2 : q.2 ≠ w.heap.size := by intro e; rw [e, hC1.hm] at q1; cases q1
            refine ⟨cs, (h4 _ (by omega) n1 n2).trans q1, q2, fun j hj => ?_⟩
            simp only [show q.2 ≠ W2.heap.size by omega, if_false]
            exact q3 j hj
          · simp only [List.mem_singleton] at hq
            subst hq
            refine ⟨csP, ?_, hszP, fun j hj => ?_⟩
            · rw [hW4, setBlk_ne (by show W2.heap.size ≠ _; omega), hW3]; exact blk_new W2 _
            · simp only [if_true]; exact hatP j hj
        · rw [List.map_append, List.nodup_append]
          refine ⟨hC1.hn, by simp, ?_⟩
          intro x hx y hy
          simp only [List.map_cons, List.map_nil, List.mem_singleton] at hy
          obtain ⟨q, hq, rfl⟩ := List.mem_map.1 hx
          have hlt := (hC1.hp q hq).lt
          have hz12 : w1.heap.size = W2.heap.size := by rw [hW2, setB_size]
          omega
        · intro q hq
          rcases List.mem_append.1 hq with hq | hq
          · exact hC1.hs q hq
          · simp only [List.mem_singleton] at hq; subst hq; show w.heap.size ≤ W2.heap.size; omega
        · intro e' he' hs' p' hp' hk'
          rw [contains_push, Bool.or_eq_true] at hs'
          rcases hs' with hs' | hs'
          · obtain ⟨q, hq, hg⟩ := hC1.did e' he' hs' p' hp' hk'
            have hlt := (hC1.hp q (List.mem_of_find?_eq_some hq)).lt
            have hz12 : w1.heap.size = W2.heap.size := by rw [hW2, setB_size]
            refine ⟨q, by rw [List.find?_append, hq]; rfl, fun j hj => ?_⟩
            simp only [show q.2 ≠ W2.heap.size by omega, if_false]
            exact hg j hj
          · have := born_inj HT.out.2.1 he' hees (by simpa using hs')
            subst this
            rw [hk] at hk'
            simp only [Value.int.injEq, true_and] at hk'
            have : p' = p := nodup_fst HT.out.2.2 hp' hpl hk'.symm
            subst this
            exact ⟨(p'.1, W2.heap.size), by rw [List.find?_append, hfn]; simp, fun j hj => by simp⟩
        · intro q hq
          rcases List.mem_append.1 hq with hq | hq
          · obtain ⟨e', he', hs', hk'⟩ := hC1.only q hq
            exact ⟨e', he', by rw [contains_push, hs']; rfl, hk'⟩
          · simp only [List.mem_singleton] at hq
            subst hq
            exact ⟨e, hees, by rw [contains_push]; simp, hk⟩
      have hr4 : W4.heap[w.heap.size + 1 + 1]? = some (.mapIter (some mp) clock (seen.push e.born) clock) := by rw [hW4, setBlk_ne (by omega), hW3]; exact blk_alloc hr2 _
      have hb4 : Below w.heap.size w W4 := by
        have h3 : Below w.heap.size w W3 := by rw [hW3]; exact below_alloc _ hb2
        rw [hW4]; exact (show Below w.heap.size w (setB W3 w.heap.size _) from Below.setB h3 (Nat.le_refl _) _)
      have c3 : W3.cell? ⟨w.heap.size + 1, 1, none⟩ = some (.map (some w.heap.size)) := blk_cell hbo rfl
      have HFIN := Lib.hid (show W4.heap[w.heap.size + 1 + 1]? = some (.mapIter (some mp) clock (seen.push e.born) clock) ∧ Below w.heap.size w W4 ∧ CpS w W4 (w.heap.size + 1) w.heap.size size es l g (seen.push e.born) (es'.push { key := .int .u64 p.1, val := .pointer (some ⟨W2.heap.size, 0, none⟩), born := cl' }) (cl' + 1) (l' ++ [(p.1, W2.heap.size)]) (fun k j => if k = W2.heap.size then g p.2 j else g' k j) from ⟨hr4, hb4, hC4⟩)
      have HME : Hid ((leftOf es (W4.iterSeen (w.heap.size + 1 + 1))).size < (leftOf es (wr.iterSeen (w.heap.size + 1 + 1))).size) := Lib.hid (by
        have a1 : W4.iterSeen (w.heap.size + 1 + 1) = seen.push e.born := by unfold World.iterSeen; rw [hr4]
        have a2 : wr.iterSeen (w.heap.size + 1 + 1) = seen := by unfold World.iterSeen; rw [hr]
        rw [a1, a2]; exact left_shrinks es seen e heL)
      have HKP := Lib.hid hcP2
      have HSZ := Lib.hid hszP
      have HON := Lib.hid (page_one csP (g p.2) hszP hatP)
      clear hC4 hr4 hb4 hst hW4 h4 hmo hbo hfn h2 hr2 hb2 hW2 hC1 hr1 hb1 hC hm' hbl hct hr hw1 heL hees hns hpl hk hv hcP hatP hcP2 hplt hszP z2
      rw [hW3] at c3 hst2
      go_wp2_with (first | (refine wpList_page_load rfl _ rfl p.2 rfl csP HSZ.out HKP.out ?_) | (refine wpList_store_new (cs := csP) (by rfl) 46 _ _ (by rfl) (by rfl) (by rfl) (by rw [HSZ.out]; exact zpage_size) (by rw [HSZ.out]; kernel_rfl) HON.out ?_) | (refine wpList_alloc_page rfl rfl ?_))
      go_roundw
      case rel => exact ⟨_, _, _, _, _, _, HFIN.out.1, Nat.le_refl _, HFIN.out.2.1, HFIN.out.2.2⟩
      case measure => exact HME.out
theorem equal_nil (w : World) (a : Nat) : Calls Try.prog 13 #[.pointer (some ⟨a, 0, none⟩), .pointer none] w fun e w' => e = .returned (.bool false) ∧ w = w' := by
  go_enter Try.func13, Try.ntmps13
  go_wp2
  go_returns
  exact ⟨rfl, rfl⟩
theorem equal_nils (w : World) : Calls Try.prog 13 #[.pointer none, .pointer none] w fun e w' => e = .returned (.bool true) ∧ w = w' := by
  go_enter Try.func13, Try.ntmps13
  go_wp2
  go_returns
  exact ⟨rfl, rfl⟩
end Go.Proofs.Ythkaachgfiljmaa
