/- Two memories compared. No condition. -/
import Derived.Test.YthkaachgfiljmaaMemOps
import Derived.Test.YthkaachgfiljmaaMeq
import Derived.Test.YthkaachgfiljmaaStruct
import Derived.Test.YthkaachgfiljmaaHu
import Derived.Deep.MidRow
namespace Go.Proofs.Ythkaachgfiljmaa
open Go.RowKit
set_option linter.unusedVariables false
set_option maxHeartbeats 4000000
/-- an entry is a page's -/
theorem ents_mem {es : Array MapEntry} {l : List (Int × Nat)} (h : Ents .u64 es (pgs l)) {e : MapEntry} (he : e ∈ es.toList) : ∃ p ∈ l, e.key = .int .u64 p.1 ∧ e.val = .pointer (some ⟨p.2, 0, none⟩) := by
  have h1 : (e.key, e.val) ∈ es.toList.map (fun e => (e.key, e.val)) := List.mem_map_of_mem (f := fun e : MapEntry => (e.key, e.val)) he
  rw [h] at h1
  obtain ⟨q, hq, h2⟩ := List.mem_map.1 h1
  obtain ⟨p, hp, rfl⟩ := List.mem_map.1 hq
  simp only [Prod.mk.injEq] at h2
  exact ⟨p, hp, h2.1.symm, h2.2.symm⟩
theorem ents_of {es : Array MapEntry} {l : List (Int × Nat)} (h : Ents .u64 es (pgs l)) {p : Int × Nat} (hp : p ∈ l) : ∃ e ∈ es.toList, e.key = .int .u64 p.1 ∧ e.val = .pointer (some ⟨p.2, 0, none⟩) := by
  have h1 : (Value.int .u64 p.1, Value.pointer (some ⟨p.2, 0, none⟩)) ∈ (pgs l).map (fun p => (Value.int .u64 p.1, p.2)) := List.mem_map.2 ⟨(p.1, .pointer (some ⟨p.2, 0, none⟩)), List.mem_map.2 ⟨p, hp, rfl⟩, rfl⟩
  rw [← h] at h1
  obtain ⟨e, he, h2⟩ := List.mem_map.1 h1
  simp only [Prod.mk.injEq] at h2
  exact ⟨e, he, h2.1, h2.2⟩
theorem nodup_fst : ∀ {l : List (Int × Nat)}, (l.map (·.1)).Nodup → ∀ {p q : Int × Nat}, p ∈ l → q ∈ l → p.1 = q.1 → p = q
  | x :: l, hn, p, q, hp, hq, e => by
    simp only [List.map_cons, List.nodup_cons] at hn
    rcases List.mem_cons.1 hp with rfl | hp' <;> rcases List.mem_cons.1 hq with rfl | hq'
    · rfl
    · exact absurd (List.mem_map_of_mem (f := (·.1)) hq') (by rw [← e]; exact hn.1)
    · exact absurd (List.mem_map_of_mem (f := (·.1)) hp') (by rw [e]; exact hn.1)
    · exact nodup_fst hn.2 hp' hq' e
theorem find_fst : ∀ {l : List (Int × Nat)}, (l.map (·.1)).Nodup → ∀ {p : Int × Nat}, p ∈ l → l.find? (fun q => q.1 == p.1) = some p := fun {l} hn {p} hp => by
  cases hf : l.find? (fun q => q.1 == p.1) with
  | none => have := List.find?_eq_none.1 hf p hp; simp at this
  | some q => rw [nodup_fst hn (List.mem_of_find?_eq_some hf) hp (by simpa using List.find?_some hf)]
/-- a whole page is loaded -/
theorem load_page {S : World → Prop} {op : Oper} {a : Act} (x : Operand) (ho : op.op = .load 46 x) (g : Nat) (hx : a.eval x = .pointer (some ⟨g, 0, none⟩)) (cs : Array Value) (hl : cs.size = 4096) (hS : ∀ w, S w → w.heap[g]? = some (.cells cs 46 (0, 0))) :
    ∀ w, S w → (execOp a.eval op).run Try.prog w = .ok (.value (.agg cs)) w := fun w hw => by
  have hc : w.rangeAt g 0 cs.toList := fun j v hv => by rw [Nat.zero_add]; exact blk_cell (hS w hw) (by simpa using hv)
  have hi : (Try.prog.info? 46).map (·.size) = some cs.toList.length := by rw [Array.length_toList, hl]; kernel_rfl
  unfold execOp
  simp only [ho, hx, Instr.loadAt, Instr.sureAddr, Sem.run_bind, Sem.run_pure, Result.andThen_ok, run_loadVar_mid w g 0 46 cs.toList _ hc Try.underlying46 rfl hi]
/-- a page's bytes at another memory -/
def pageEq (g : Nat → Int) (f : Int → Int) (k : Int) : Bool := (List.range 4096).all fun j => g j == f (k * 4096 + j)
theorem pageEq_congr {g : Nat → Int} {f : Int → Int} {k : Int} {Y : Nat → Int} (h : ∀ j, j < 4096 → Y j = f (k * 4096 + j)) : ((List.range 4096).all fun j => g j == Y j) = pageEq g f k := by
  unfold pageEq
  rw [Bool.eq_iff_iff]
  simp only [List.all_eq_true, List.mem_range]
  exact ⟨fun H j hj => by rw [← h j hj]; exact H j hj, fun H j hj => by rw [h j hj]; exact H j hj⟩
theorem byteOf_at {l : List (Int × Nat)} {g : Nat → Nat → Int} (k : Int) (j : Nat) (hj : j < 4096) : byteOf l g (k * 4096 + j) = match l.find? (fun p => p.1 == k) with | some p => g p.2 j | none => 0 := by
  unfold byteOf
  rw [show (k * 4096 + (j : Int)) / 4096 = k by omega, show ((k * 4096 + (j : Int)) % 4096).toNat = j by omega]
  rfl
/-- the pages of one, asked of the other -/
def withinB (l : List (Int × Nat)) (g : Nat → Nat → Int) (f : Int → Int) : Bool := l.all fun p => pageEq (g p.2) f p.1
set_option maxRecDepth 100000 in
theorem within_any (w : World) (a b : Nat) (sa sb : Int) (fb : Int → Int) (Sb : Nat → Prop) (mp clock : Nat) (es : Array MapEntry) (l : List (Int × Nat)) (g : Nat → Nat → Int)
    (hb : w.heap[a]? = some (.cells #[.int .u64 sa, .map (some mp)] 42 (0, 0))) (hm : w.heap[mp]? = some (.map es clock)) (he : Ents .u64 es (pgs l))
    (hp : ∀ p ∈ l, PageAt w p.2 (g p.2)) (ht : Stamps es clock l) (hB : Mem w b sb fb Sb) :
    Calls Try.prog 16 #[.pointer (some ⟨a, 0, none⟩), .pointer (some ⟨b, 0, none⟩)] w fun e w' => e = .returned (.bool (withinB l g fb)) ∧ Below w.heap.size w w' := by
  have c1 : w.cell? ⟨a, 1, none⟩ = some (.map (some mp)) := blk_cell hb rfl
  have hrg := run_range_at (P := Try.prog) w 40 23 45 mp es clock Try.underlying40 hm
  have HM := Lib.hid hm
  have HE := Lib.hid he
  have HP := Lib.hid hp
  have HT := Lib.hid ht
  have HB := Lib.hid hB
  have hal : a < w.heap.size := blk_lt hb
  clear hb hm he hp ht hB
  go_enter Try.func16, Try.ntmps16
  go_wp2_with fail
  go_loopw [] (fun wr => ∃ (seen : Array Nat) (c0 : Nat), wr.heap[w.heap.size]? = some (.mapIter (some mp) clock seen c0) ∧ clock ≤ c0 ∧ Below w.heap.size w wr ∧
      ∀ e ∈ es.toList, seen.contains e.born = true → ∀ p ∈ l, e.key = .int .u64 p.1 → pageEq (g p.2) fb p.1 = true) (fun wr => (leftOf es (wr.iterSeen w.heap.size)).size)
  case atStart => exact ⟨#[], clock, blk_new w _, Nat.le_refl _, below_alloc _ (Below.refl _ _), fun e _ h => by simp at h⟩
  case round =>
    obtain ⟨seen, c0, hr, hc0, hbl, hin⟩ := hrel
    have hm' := blk_below HM.out hbl
    rcases run_next_at (P := Try.prog) wr 0 w.heap.size mp clock c0 seen es clock hr hm' HT.out.1 hc0 with ⟨hl0, hnx⟩ | ⟨e, heL, w1, hw1, hnx⟩
    · have HIN := Lib.hid hin
      have HL0 := Lib.hid hl0
      have HBL := Lib.hid hbl
      clear hin hl0 hbl hr hc0 hm'
      go_wp2_with fail
      go_returns
      refine ⟨?_, HBL.out⟩
      refine ret_bool (Eq.symm ?_)
      unfold withinB
      rw [List.all_eq_true]
      intro p hp
      obtain ⟨e, he, hk, _⟩ := ents_of HE.out hp
      exact HIN.out e he (all_seen es seen HL0.out e he) p hp hk
    · obtain ⟨hees, hns⟩ := mem_left heL
      obtain ⟨p, hpl, hk, hv⟩ := ents_mem HE.out hees
      rw [hk, hv] at hnx
      have hb1 : Below w.heap.size w w1 := by rcases hw1 with rfl | rfl
                                              · exact hbl
                                              · exact Below.drew hbl
      have hr1 : w.heap.size < w1.heap.size := by
        have := blk_lt hr
        rcases hw1 with rfl | rfl
        · exact this
        · exact this
      obtain ⟨W2, hW2⟩ : ∃ W2, W2 = setB w1 w.heap.size (.mapIter (some mp) clock (seen.push e.born) clock) := ⟨_, rfl⟩
      rw [← hW2] at hnx
      have hb2 : Below w.heap.size w W2 := by rw [hW2]; exact Below.setB hb1 (Nat.le_refl _) _
      have hr2 : W2.heap[w.heap.size]? = some (.mapIter (some mp) clock (seen.push e.born) clock) := by rw [hW2]; exact setB_eq hr1
      have hen := run_entry_at (P := Try.prog) W2 w.heap.size mp clock seen es clock e hr2 (blk_below HM.out hb2) hees HT.out.2.1
      rw [hk, hv] at hen
      have hshr : Hid ((leftOf es (seen.push e.born)).size < (leftOf es seen).size) := Lib.hid (left_shrinks es seen e heL)
      have hseen : Hid (wr.iterSeen w.heap.size = seen) := Lib.hid (by unfold World.iterSeen; rw [hr])
      have hseen2 : Hid (∀ W : World, W.heap[w.heap.size]? = some (.mapIter (some mp) clock (seen.push e.born) clock) → W.iterSeen w.heap.size = seen.push e.born) := Lib.hid (fun W h => by unfold World.iterSeen; rw [h])
      have hnew : Hid (pageEq (g p.2) fb p.1 = true → ∀ e' ∈ es.toList, (seen.push e.born).contains e'.born = true → ∀ p' ∈ l, e'.key = .int .u64 p'.1 → pageEq (g p'.2) fb p'.1 = true) := Lib.hid (fun hpe e' he' hs' p' hp' hk' => by
        rw [contains_push, Bool.or_eq_true] at hs'
        rcases hs' with hs' | hs'
        · exact hin e' he' hs' p' hp' hk'
        · have := born_inj HT.out.2.1 he' hees (by simpa using hs')
          subst this
          rw [hk] at hk'
          simp only [Value.int.injEq, true_and] at hk'
          have : p' = p := nodup_fst HT.out.2.2 hp' hpl hk'.symm
          rw [this]; exact hpe)
      have hbad : Hid (pageEq (g p.2) fb p.1 = false → withinB l g fb = false) := Lib.hid (fun h => by
        unfold withinB
        rw [List.all_eq_false]
        exact ⟨p, hpl, by rw [h]; decide⟩)
      have HKP0 := HP.out p hpl
      obtain ⟨csP, hcP, hszP, hatP⟩ := HKP0
      have hcP2 := blk_below hcP hb2
      obtain ⟨mpb, esb, clb, lb, gb, hbb, hmb, heb, hpb, hnb, sbb, smb, spb, hsb, hfb, htb⟩ := HB.out.below hb2
      have c2 : W2.cell? ⟨b, 1, none⟩ = some (.map (some mpb)) := blk_cell hbb rfl
      have hlk := Mem.look hmb heb p.1
      have HKP := Lib.hid hcP2
      have HB2 := Lib.hid hb2
      have HR2 := Lib.hid hr2
      cases hfi : lb.find? (fun q => q.1 == p.1) with
      | none =>
        rw [hfi] at hlk
        simp only [] at hlk
        have hpq : ((List.range 4096).all fun j => g p.2 j == (fun _ => (0 : Int)) j) = pageEq (g p.2) fb p.1 := pageEq_congr (fun j hj => by rw [hfb, byteOf_at p.1 j hj, hfi])
        have hneq := fun W => run_neq_nums (P := Try.prog) W 46 5 4096 .u8 Try.underlying46 Try.underlying5 (fun w => by kernel_rfl) csP zpage (g p.2) (fun _ => 0) (fun i hi => (hatP i hi).1) (fun i hi => zpage_at i hi)
        simp only [hpq] at hneq
        have HNQ := Lib.hid hneq
        clear hneq hpq hb2 hr2 hcP hcP2 hbb hmb heb hpb hnb sbb smb spb hsb hfb htb hW2 hb1 hr1 hw1 hr hbl hin hm' hees hns hpl hk hv heL hatP
        obtain ⟨W3, hW3⟩ : ∃ W3, W3 = W2.alloc (.cells zpage 46) := ⟨_, rfl⟩
        have HKQ3 : Hid (W3.heap[W2.heap.size]? = some (.cells zpage 46 (0, 0))) := Lib.hid (by rw [hW3]; exact blk_new _ _)
        have HKP3 : Hid (W3.heap[p.2]? = some (.cells csP 46 (0, 0))) := Lib.hid (by rw [hW3]; exact blk_alloc HKP.out _)
        have hr3 : Hid (W3.heap[w.heap.size]? = some (.mapIter (some mp) clock (seen.push e.born) clock)) := Lib.hid (by rw [hW3]; exact blk_alloc HR2.out _)
        have hb3 : Hid (Below w.heap.size w W3) := Lib.hid (by rw [hW3]; exact below_alloc _ HB2.out)
        go_wp2_with (refine wpList_page rfl rfl ?_)
        rw [← hW3]
        have HQQ := Lib.hid hW3
        clear hW3
        cases hpe : pageEq (g p.2) fb p.1 with
        | false =>
          rw [hpe] at HNQ
          have hneq := HNQ.out
          refine upto_begin 6 (fun w' => Below W3.heap.size W3 w') (by kernel_rfl) ?_ (fun hU0 => ?_)
          · exact Below.drew (Below.refl _ _)
          first | refine upto_run 0 (v := ?_) hU0 (by kernel_rfl) rfl (by kernel_rfl) (by kernel_rfl) (by kernel_rfl) (by kernel_rfl) (fun _ _ _ h => h) (Or.inl ⟨by rfl, ?_⟩) ?_ | fail
          rotate_left
          · first | (intro w _; go_simp; with_reducible rfl) | (intro w _; go_simp; done) | fail
          try simp only [Act.put, List.setIfInBounds_toArray, List.set_cons_zero, List.set_cons_succ]
          first | refine upto_run 1 (v := ?_) hU0 (by kernel_rfl) rfl (by kernel_rfl) (by kernel_rfl) (by kernel_rfl) (by kernel_rfl) (fun _ _ _ h => h) (Or.inl ⟨by rfl, ?_⟩) ?_ | fail
          rotate_left
          · first | (intro w _; go_simp; with_reducible rfl) | (intro w _; go_simp; done) | fail
          try simp only [Act.put, List.setIfInBounds_toArray, List.set_cons_zero, List.set_cons_succ]
          first | refine upto_read 2 (v := ?_) hU0 (by kernel_rfl) rfl (by kernel_rfl) (by kernel_rfl) (by kernel_rfl) (by kernel_rfl) (by kernel_rfl) (fun _ _ _ h => h) (Or.inl ⟨by rfl, ?_⟩) ?_ | fail
          rotate_left
          · refine load_page (S := fun w' => Below W3.heap.size W3 w') ?lx2 ?lo2 p.2 ?lh2 csP hszP (fun w hw => blk_below HKP3.out hw)
            case lo2 => rfl
            case lh2 => rfl
          try simp only [Act.put, List.setIfInBounds_toArray, List.set_cons_zero, List.set_cons_succ]
          first | refine upto_run 3 (v := ?_) hU0 (by kernel_rfl) rfl (by kernel_rfl) (by kernel_rfl) (by kernel_rfl) (by kernel_rfl) (fun _ _ _ h => h) (Or.inl ⟨by rfl, ?_⟩) ?_ | fail
          rotate_left
          · first | (intro w _; go_simp; with_reducible rfl) | (intro w _; go_simp; done) | fail
          try simp only [Act.put, List.setIfInBounds_toArray, List.set_cons_zero, List.set_cons_succ]
          first | refine upto_run 4 (v := ?_) hU0 (by kernel_rfl) rfl (by kernel_rfl) (by kernel_rfl) (by kernel_rfl) (by kernel_rfl) (fun _ _ _ h => h) (Or.inl ⟨by rfl, ?_⟩) ?_ | fail
          rotate_left
          · first | (intro w _; go_simp; with_reducible rfl) | (intro w _; go_simp; done) | fail
          try simp only [Act.put, List.setIfInBounds_toArray, List.set_cons_zero, List.set_cons_succ]
          first | refine upto_read 5 (v := ?_) hU0 (by kernel_rfl) rfl (by kernel_rfl) (by kernel_rfl) (by kernel_rfl) (by kernel_rfl) (by kernel_rfl) (fun _ _ _ h => h) (Or.inl ⟨by rfl, ?_⟩) ?_ | fail
          rotate_left
          · refine load_page (S := fun w' => Below W3.heap.size W3 w') ?lx5 ?lo5 W2.heap.size ?lh5 zpage zpage_size (fun w hw => blk_below HKQ3.out hw)
            case lo5 => rfl
            case lh5 => rfl
          try simp only [Act.put, List.setIfInBounds_toArray, List.set_cons_zero, List.set_cons_succ]
          first | refine upto_next 6 rfl (by kernel_rfl) (fun K hK => ?_) | fail
          go_simp
          first | refine hK.out _ _ ?_ (fun hU1 => ?_) | (go_wp2_with fail; refine hK.out _ _ ?_ (fun hU1 => ?_)) | fail
          · exact Or.inl (by kernel_rfl)
          clear hK K
          clear hU0
          try simp only [Act.put, List.setIfInBounds_toArray, List.set_cons_zero, List.set_cons_succ]
          refine upto_done (by kernel_rfl) ?_ _
          go_wp2_with fail
          go_returns
          exact ⟨by rw [hbad.out hpe]; rfl, Below.drew hb3.out⟩
        | true =>
          rw [hpe] at HNQ
          have hneq := HNQ.out
          refine upto_begin 6 (fun w' => Below W3.heap.size W3 w') (by kernel_rfl) ?_ (fun hU0 => ?_)
          · exact Below.drew (Below.refl _ _)
          first | refine upto_run 0 (v := ?_) hU0 (by kernel_rfl) rfl (by kernel_rfl) (by kernel_rfl) (by kernel_rfl) (by kernel_rfl) (fun _ _ _ h => h) (Or.inl ⟨by rfl, ?_⟩) ?_ | fail
          rotate_left
          · first | (intro w _; go_simp; with_reducible rfl) | (intro w _; go_simp; done) | fail
          try simp only [Act.put, List.setIfInBounds_toArray, List.set_cons_zero, List.set_cons_succ]
          first | refine upto_run 1 (v := ?_) hU0 (by kernel_rfl) rfl (by kernel_rfl) (by kernel_rfl) (by kernel_rfl) (by kernel_rfl) (fun _ _ _ h => h) (Or.inl ⟨by rfl, ?_⟩) ?_ | fail
          rotate_left
          · first | (intro w _; go_simp; with_reducible rfl) | (intro w _; go_simp; done) | fail
          try simp only [Act.put, List.setIfInBounds_toArray, List.set_cons_zero, List.set_cons_succ]
          first | refine upto_read 2 (v := ?_) hU0 (by kernel_rfl) rfl (by kernel_rfl) (by kernel_rfl) (by kernel_rfl) (by kernel_rfl) (by kernel_rfl) (fun _ _ _ h => h) (Or.inl ⟨by rfl, ?_⟩) ?_ | fail
          rotate_left
          · refine load_page (S := fun w' => Below W3.heap.size W3 w') ?lx2 ?lo2 p.2 ?lh2 csP hszP (fun w hw => blk_below HKP3.out hw)
            case lo2 => rfl
            case lh2 => rfl
          try simp only [Act.put, List.setIfInBounds_toArray, List.set_cons_zero, List.set_cons_succ]
          first | refine upto_run 3 (v := ?_) hU0 (by kernel_rfl) rfl (by kernel_rfl) (by kernel_rfl) (by kernel_rfl) (by kernel_rfl) (fun _ _ _ h => h) (Or.inl ⟨by rfl, ?_⟩) ?_ | fail
          rotate_left
          · first | (intro w _; go_simp; with_reducible rfl) | (intro w _; go_simp; done) | fail
          try simp only [Act.put, List.setIfInBounds_toArray, List.set_cons_zero, List.set_cons_succ]
          first | refine upto_run 4 (v := ?_) hU0 (by kernel_rfl) rfl (by kernel_rfl) (by kernel_rfl) (by kernel_rfl) (by kernel_rfl) (fun _ _ _ h => h) (Or.inl ⟨by rfl, ?_⟩) ?_ | fail
          rotate_left
          · first | (intro w _; go_simp; with_reducible rfl) | (intro w _; go_simp; done) | fail
          try simp only [Act.put, List.setIfInBounds_toArray, List.set_cons_zero, List.set_cons_succ]
          first | refine upto_read 5 (v := ?_) hU0 (by kernel_rfl) rfl (by kernel_rfl) (by kernel_rfl) (by kernel_rfl) (by kernel_rfl) (by kernel_rfl) (fun _ _ _ h => h) (Or.inl ⟨by rfl, ?_⟩) ?_ | fail
          rotate_left
          · refine load_page (S := fun w' => Below W3.heap.size W3 w') ?lx5 ?lo5 W2.heap.size ?lh5 zpage zpage_size (fun w hw => blk_below HKQ3.out hw)
            case lo5 => rfl
            case lh5 => rfl
          try simp only [Act.put, List.setIfInBounds_toArray, List.set_cons_zero, List.set_cons_succ]
          first | refine upto_next 6 rfl (by kernel_rfl) (fun K hK => ?_) | fail
          go_simp
          first | refine hK.out _ _ ?_ (fun hU1 => ?_) | (go_wp2_with fail; refine hK.out _ _ ?_ (fun hU1 => ?_)) | fail
          · exact Or.inl (by kernel_rfl)
          clear hK K
          clear hU0
          try simp only [Act.put, List.setIfInBounds_toArray, List.set_cons_zero, List.set_cons_succ]
          refine upto_done (by kernel_rfl) ?_ _
          go_wp2_with fail
          go_roundw
          case rel => exact ⟨_, _, hr3.out, Nat.le_refl _, Below.drew hb3.out, hnew.out hpe⟩
          case measure => rw [hseen.out, hseen2.out W3.drew hr3.out]; exact hshr.out
      | some q =>
        rw [hfi] at hlk
        simp only [] at hlk
        have hqb := List.mem_of_find?_eq_some hfi
        obtain ⟨csQ, hcQ, hszQ, hatQ⟩ := hpb q hqb
        have hpq : ((List.range 4096).all fun j => g p.2 j == gb q.2 j) = pageEq (g p.2) fb p.1 := pageEq_congr (fun j hj => by rw [hfb, byteOf_at p.1 j hj, hfi])
        have hneq := fun W => run_neq_nums (P := Try.prog) W 46 5 4096 .u8 Try.underlying46 Try.underlying5 (fun w => by kernel_rfl) csP csQ (g p.2) (gb q.2) (fun i hi => (hatP i hi).1) (fun i hi => (hatQ i hi).1)
        simp only [hpq] at hneq
        have HNQ := Lib.hid hneq
        have HKQ3 := Lib.hid hcQ
        have HKP3 := HKP
        have hr3 := HR2
        have hb3 := HB2
        clear hneq hpq hb2 hr2 hcP hcP2 hbb hmb heb hpb hnb sbb smb spb hsb hfb htb hW2 hb1 hr1 hw1 hr hbl hin hm' hees hns hpl hk hv heL hatP hatQ hcQ hqb
        go_wp2_with fail
        cases hpe : pageEq (g p.2) fb p.1 with
        | false =>
          rw [hpe] at HNQ
          have hneq := HNQ.out
          refine upto_begin 6 (fun w' => Below W2.heap.size W2 w') (by kernel_rfl) ?_ (fun hU0 => ?_)
          · exact Below.drew (Below.refl _ _)
          first | refine upto_run 0 (v := ?_) hU0 (by kernel_rfl) rfl (by kernel_rfl) (by kernel_rfl) (by kernel_rfl) (by kernel_rfl) (fun _ _ _ h => h) (Or.inl ⟨by rfl, ?_⟩) ?_ | fail
          rotate_left
          · first | (intro w _; go_simp; with_reducible rfl) | (intro w _; go_simp; done) | fail
          try simp only [Act.put, List.setIfInBounds_toArray, List.set_cons_zero, List.set_cons_succ]
          first | refine upto_run 1 (v := ?_) hU0 (by kernel_rfl) rfl (by kernel_rfl) (by kernel_rfl) (by kernel_rfl) (by kernel_rfl) (fun _ _ _ h => h) (Or.inl ⟨by rfl, ?_⟩) ?_ | fail
          rotate_left
          · first | (intro w _; go_simp; with_reducible rfl) | (intro w _; go_simp; done) | fail
          try simp only [Act.put, List.setIfInBounds_toArray, List.set_cons_zero, List.set_cons_succ]
          first | refine upto_read 2 (v := ?_) hU0 (by kernel_rfl) rfl (by kernel_rfl) (by kernel_rfl) (by kernel_rfl) (by kernel_rfl) (by kernel_rfl) (fun _ _ _ h => h) (Or.inl ⟨by rfl, ?_⟩) ?_ | fail
          rotate_left
          · refine load_page (S := fun w' => Below W2.heap.size W2 w') ?lx2 ?lo2 p.2 ?lh2 csP hszP (fun w hw => blk_below HKP3.out hw)
            case lo2 => rfl
            case lh2 => rfl
          try simp only [Act.put, List.setIfInBounds_toArray, List.set_cons_zero, List.set_cons_succ]
          first | refine upto_run 3 (v := ?_) hU0 (by kernel_rfl) rfl (by kernel_rfl) (by kernel_rfl) (by kernel_rfl) (by kernel_rfl) (fun _ _ _ h => h) (Or.inl ⟨by rfl, ?_⟩) ?_ | fail
          rotate_left
          · first | (intro w _; go_simp; with_reducible rfl) | (intro w _; go_simp; done) | fail
          try simp only [Act.put, List.setIfInBounds_toArray, List.set_cons_zero, List.set_cons_succ]
          first | refine upto_run 4 (v := ?_) hU0 (by kernel_rfl) rfl (by kernel_rfl) (by kernel_rfl) (by kernel_rfl) (by kernel_rfl) (fun _ _ _ h => h) (Or.inl ⟨by rfl, ?_⟩) ?_ | fail
          rotate_left
          · first | (intro w _; go_simp; with_reducible rfl) | (intro w _; go_simp; done) | fail
          try simp only [Act.put, List.setIfInBounds_toArray, List.set_cons_zero, List.set_cons_succ]
          first | refine upto_read 5 (v := ?_) hU0 (by kernel_rfl) rfl (by kernel_rfl) (by kernel_rfl) (by kernel_rfl) (by kernel_rfl) (by kernel_rfl) (fun _ _ _ h => h) (Or.inl ⟨by rfl, ?_⟩) ?_ | fail
          rotate_left
          · refine load_page (S := fun w' => Below W2.heap.size W2 w') ?lx5 ?lo5 q.2 ?lh5 csQ hszQ (fun w hw => blk_below HKQ3.out hw)
            case lo5 => rfl
            case lh5 => rfl
          try simp only [Act.put, List.setIfInBounds_toArray, List.set_cons_zero, List.set_cons_succ]
          first | refine upto_next 6 rfl (by kernel_rfl) (fun K hK => ?_) | fail
          go_simp
          first | refine hK.out _ _ ?_ (fun hU1 => ?_) | (go_wp2_with fail; refine hK.out _ _ ?_ (fun hU1 => ?_)) | fail
          · exact Or.inl (by kernel_rfl)
          clear hK K
          clear hU0
          try simp only [Act.put, List.setIfInBounds_toArray, List.set_cons_zero, List.set_cons_succ]
          refine upto_done (by kernel_rfl) ?_ _
          go_wp2_with fail
          go_returns
          exact ⟨by rw [hbad.out hpe]; rfl, Below.drew hb3.out⟩
        | true =>
          rw [hpe] at HNQ
          have hneq := HNQ.out
          refine upto_begin 6 (fun w' => Below W2.heap.size W2 w') (by kernel_rfl) ?_ (fun hU0 => ?_)
          · exact Below.drew (Below.refl _ _)
          first | refine upto_run 0 (v := ?_) hU0 (by kernel_rfl) rfl (by kernel_rfl) (by kernel_rfl) (by kernel_rfl) (by kernel_rfl) (fun _ _ _ h => h) (Or.inl ⟨by rfl, ?_⟩) ?_ | fail
          rotate_left
          · first | (intro w _; go_simp; with_reducible rfl) | (intro w _; go_simp; done) | fail
          try simp only [Act.put, List.setIfInBounds_toArray, List.set_cons_zero, List.set_cons_succ]
          first | refine upto_run 1 (v := ?_) hU0 (by kernel_rfl) rfl (by kernel_rfl) (by kernel_rfl) (by kernel_rfl) (by kernel_rfl) (fun _ _ _ h => h) (Or.inl ⟨by rfl, ?_⟩) ?_ | fail
          rotate_left
          · first | (intro w _; go_simp; with_reducible rfl) | (intro w _; go_simp; done) | fail
          try simp only [Act.put, List.setIfInBounds_toArray, List.set_cons_zero, List.set_cons_succ]
          first | refine upto_read 2 (v := ?_) hU0 (by kernel_rfl) rfl (by kernel_rfl) (by kernel_rfl) (by kernel_rfl) (by kernel_rfl) (by kernel_rfl) (fun _ _ _ h => h) (Or.inl ⟨by rfl, ?_⟩) ?_ | fail
          rotate_left
          · refine load_page (S := fun w' => Below W2.heap.size W2 w') ?lx2 ?lo2 p.2 ?lh2 csP hszP (fun w hw => blk_below HKP3.out hw)
            case lo2 => rfl
            case lh2 => rfl
          try simp only [Act.put, List.setIfInBounds_toArray, List.set_cons_zero, List.set_cons_succ]
          first | refine upto_run 3 (v := ?_) hU0 (by kernel_rfl) rfl (by kernel_rfl) (by kernel_rfl) (by kernel_rfl) (by kernel_rfl) (fun _ _ _ h => h) (Or.inl ⟨by rfl, ?_⟩) ?_ | fail
          rotate_left
          · first | (intro w _; go_simp; with_reducible rfl) | (intro w _; go_simp; done) | fail
          try simp only [Act.put, List.setIfInBounds_toArray, List.set_cons_zero, List.set_cons_succ]
          first | refine upto_run 4 (v := ?_) hU0 (by kernel_rfl) rfl (by kernel_rfl) (by kernel_rfl) (by kernel_rfl) (by kernel_rfl) (fun _ _ _ h => h) (Or.inl ⟨by rfl, ?_⟩) ?_ | fail
          rotate_left
          · first | (intro w _; go_simp; with_reducible rfl) | (intro w _; go_simp; done) | fail
          try simp only [Act.put, List.setIfInBounds_toArray, List.set_cons_zero, List.set_cons_succ]
          first | refine upto_read 5 (v := ?_) hU0 (by kernel_rfl) rfl (by kernel_rfl) (by kernel_rfl) (by kernel_rfl) (by kernel_rfl) (by kernel_rfl) (fun _ _ _ h => h) (Or.inl ⟨by rfl, ?_⟩) ?_ | fail
          rotate_left
          · refine load_page (S := fun w' => Below W2.heap.size W2 w') ?lx5 ?lo5 q.2 ?lh5 csQ hszQ (fun w hw => blk_below HKQ3.out hw)
            case lo5 => rfl
            case lh5 => rfl
          try simp only [Act.put, List.setIfInBounds_toArray, List.set_cons_zero, List.set_cons_succ]
          first | refine upto_next 6 rfl (by kernel_rfl) (fun K hK => ?_) | fail
          go_simp
          first | refine hK.out _ _ ?_ (fun hU1 => ?_) | (go_wp2_with fail; refine hK.out _ _ ?_ (fun hU1 => ?_)) | fail
          · exact Or.inl (by kernel_rfl)
          clear hK K
          clear hU0
          try simp only [Act.put, List.setIfInBounds_toArray, List.set_cons_zero, List.set_cons_succ]
          refine upto_done (by kernel_rfl) ?_ _
          go_wp2_with fail
          go_roundw
          case rel => exact ⟨_, _, hr3.out, Nat.le_refl _, Below.drew hb3.out, hnew.out hpe⟩
          case measure => rw [hseen.out, hseen2.out W2.drew hr3.out]; exact hshr.out
/-- the same bytes, told by pages -/
theorem within_iff {la lb : List (Int × Nat)} {ga gb : Nat → Nat → Int} {fa fb : Int → Int} (ha : ∀ x, fa x = byteOf la ga x) (hb : ∀ x, fb x = byteOf lb gb x) (na : (la.map (·.1)).Nodup) (nb : (lb.map (·.1)).Nodup) :
    (withinB la ga fb = true ∧ withinB lb gb fa = true) ↔ ∀ x, fa x = fb x := by
  have key : ∀ {l : List (Int × Nat)} {g : Nat → Nat → Int} {f f' : Int → Int}, (∀ x, f x = byteOf l g x) → (l.map (·.1)).Nodup → ((∀ x, f x = f' x) → withinB l g f' = true) := by
    intro l g f f' hf hn H
    unfold withinB
    rw [List.all_eq_true]
    intro p hp
    unfold pageEq
    rw [List.all_eq_true]
    intro j hj
    have hj' : j < 4096 := List.mem_range.1 hj
    rw [← H, hf, byteOf_at p.1 j hj']
    have : l.find? (fun q => q.1 == p.1) = some p := find_fst hn hp
    rw [this]
    simp
  have get : ∀ {l : List (Int × Nat)} {g : Nat → Nat → Int} {f : Int → Int}, withinB l g f = true → ∀ x p, l.find? (fun p => p.1 == x / 4096) = some p → g p.2 (x % 4096).toNat = f x := by
    intro l g f h x p hp
    unfold withinB at h
    rw [List.all_eq_true] at h
    have h1 := h p (List.mem_of_find?_eq_some hp)
    unfold pageEq at h1
    rw [List.all_eq_true] at h1
    have h2 := h1 (x % 4096).toNat (List.mem_range.2 (by omega))
    have hk : p.1 = x / 4096 := by simpa using List.find?_some hp
    rw [hk] at h2
    have : x / 4096 * 4096 + ((x % 4096).toNat : Int) = x := by omega
    rw [this] at h2
    simpa using h2
  constructor
  · rintro ⟨h1, h2⟩ x
    cases hfa : la.find? (fun p => p.1 == x / 4096) with
    | some p => rw [← get h1 x p hfa, ha x]; unfold byteOf; rw [hfa]
    | none =>
      cases hfb : lb.find? (fun p => p.1 == x / 4096) with
      | some p => rw [← get h2 x p hfb, hb x]; unfold byteOf; rw [hfb]
      | none => rw [ha x, hb x]; unfold byteOf; rw [hfa, hfb]
  · intro H
    exact ⟨key ha na H, key hb nb (fun x => (H x).symm)⟩
set_option maxRecDepth 100000 in
theorem equal_any (w : World) (a b : Nat) (sa sb : Int) (fa fb : Int → Int) (Sa Sb : Nat → Prop) (hA : Mem w a sa fa Sa) (hB : Mem w b sb fb Sb) :
    Calls Try.prog 13 #[.pointer (some ⟨a, 0, none⟩), .pointer (some ⟨b, 0, none⟩)] w fun e w' => ∃ r : Bool, e = .returned (.bool r) ∧ (r = true ↔ sa = sb ∧ ∀ x, fa x = fb x) ∧ Below w.heap.size w w' := by
  have HA := Lib.hid hA
  have HB := Lib.hid hB
  obtain ⟨mpa, esa, cla, la, ga, hba, hma, hea, hpa, hna, sba, sma, spa, hsa, hfa, hta⟩ := hA
  obtain ⟨mpb, esb, clb, lb, gb, hbb, hmb, heb, hpb, hnb, sbb, smb, spb, hsb, hfb, htb⟩ := hB
  have HI := Lib.hid (within_iff hfa hfb hta.2.2 htb.2.2)
  have H1 := Lib.hid (fun W (h : Below w.heap.size w W) => within_any W a b sa sb fb Sb mpa cla esa la ga (blk_below hba h) (blk_below hma h) hea (fun p hp => (hpa p hp).keep (h.block _ (hpa p hp).lt)) hta (HB.out.below h))
  have H2 := Lib.hid (fun W (h : Below w.heap.size w W) => within_any W b a sb sa fa Sa mpb clb esb lb gb (blk_below hbb h) (blk_below hmb h) heb (fun p hp => (hpb p hp).keep (h.block _ (hpb p hp).lt)) htb (HA.out.below h))
  have ca : w.cell? ⟨a, 0, none⟩ = some (.int .u64 sa) := blk_cell hba rfl
  have cb : w.cell? ⟨b, 0, none⟩ = some (.int .u64 sb) := blk_cell hbb rfl
  have la' : a < w.heap.size := blk_lt hba
  have lb' : b < w.heap.size := blk_lt hbb
  clear hba hma hea hpa hna sba sma spa hsa hfa hta hbb hmb heb hpb hnb sbb smb spb hsb hfb htb HA HB
  obtain ⟨r1, hr1⟩ : ∃ r, withinB la ga fb = r := ⟨_, rfl⟩
  obtain ⟨r2, hr2⟩ : ∃ r, withinB lb gb fa = r := ⟨_, rfl⟩
  rw [hr1] at H1 HI
  rw [hr2] at H2 HI
  clear hr1 hr2
  by_cases hs : sa = sb
  · subst hs
    have hs : (sa == sa) = true := by simp
    cases r1 with
    | false =>
      have HF : Hid (false = true ↔ sa = sa ∧ ∀ x, fa x = fb x) := Lib.hid ⟨fun h => (by cases h), fun h => (by have := (HI.out.2 h.2).1; cases this)⟩
      go_enter Try.func13, Try.ntmps13
      go_wp2_with fail
      refine wp_region_over (by kernel_rfl) (by kernel_rfl) ?_
      repeat (go_big_quiet_step ((go_at_call 16; exact calls_over (by exact Nat.le_refl _) (H1.out _ (over_below _ _ _)))))
      refine wpQuiet_nil ?_
      intro w2 kb2
      go_wp2_with fail
      go_returns
      exact ⟨_, rfl, HF.out, kb2⟩
    | true =>
      have HF : Hid (r2 = true ↔ sa = sa ∧ ∀ x, fa x = fb x) := Lib.hid ⟨fun h => ⟨rfl, HI.out.1 ⟨rfl, h⟩⟩, fun h => (HI.out.2 h.2).2⟩
      go_enter Try.func13, Try.ntmps13
      go_wp2_with fail
      refine wp_region_over (by kernel_rfl) (by kernel_rfl) ?_
      repeat (go_big_quiet_step (fail))
      go_big_quiet_step ((go_at_call 16; exact calls_over (by exact Nat.le_refl _) (H1.out _ (over_below _ _ _))))
      repeat (go_big_quiet_step (fail))
      go_big_quiet_step ((go_at_call 16; exact calls_over (by exact Nat.le_refl _) (H2.out _ (over_below _ _ _))))
      repeat (go_big_quiet_step (fail))
      refine wpQuiet_nil ?_
      intro w2 kb2
      go_wp2_with fail
      all_goals go_returns
      all_goals exact ⟨_, rfl, HF.out, kb2⟩
  · have hs' : (sa == sb) = false := by simpa using hs
    have HF : Hid (false = true ↔ sa = sb ∧ ∀ x, fa x = fb x) := Lib.hid ⟨fun h => (by cases h), fun h => absurd h.1 hs⟩
    go_enter Try.func13, Try.ntmps13
    go_wp2_with fail
    refine wp_region_over (by kernel_rfl) (by kernel_rfl) ?_
    repeat (go_big_quiet_step (fail))
    refine wpQuiet_nil ?_
    intro w2 kb2
    go_wp2_with fail
    go_returns
    exact ⟨_, rfl, HF.out, kb2⟩
end Go.Proofs.Ythkaachgfiljmaa
