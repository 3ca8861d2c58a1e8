/- The machine's memory as it stands: a size, and pages in a map. No condition. -/
import Derived.Test.YthkaachgfiljmaaMap
import Derived.Test.YthkaachgfiljmaaChecked
namespace Go.Proofs.Ythkaachgfiljmaa
open Go.RowKit
set_option linter.unusedVariables false
/-- block g is a page: its bytes -/
def PageAt (w : World) (pb : Nat) (g : Nat → Int) : Prop :=
  ∃ cs : Array Value, w.heap[pb]? = some (.cells cs 46 (0, 0)) ∧ cs.size = 4096 ∧ ∀ j, j < 4096 → cs[j]? = some (.int .u8 (g j)) ∧ 0 ≤ g j ∧ g j ≤ 255
def pgs (l : List (Int × Nat)) : List (Int × Value) := l.map (fun p => (p.1, Value.pointer (some ⟨p.2, 0, none⟩)))
/-- the byte at an address -/
def byteOf (l : List (Int × Nat)) (g : Nat → Nat → Int) (a : Int) : Int :=
  match l.find? (fun p => p.1 == a / 4096) with
  | some p => g p.2 (a % 4096).toNat
  | none => 0
/-- no entry's stamp is new; no two have one stamp; no two pages one number -/
def Stamps (es : Array MapEntry) (clock : Nat) (l : List (Int × Nat)) : Prop := (∀ x ∈ es.toList, x.born < clock) ∧ (es.toList.map (·.born)).Nodup ∧ (l.map (·.1)).Nodup
theorem Stamps.push {es : Array MapEntry} {clock : Nat} {l : List (Int × Nat)} (h : Stamps es clock l) (k v : Value) (x : Int) (b : Nat) (hf : l.find? (fun p => p.1 == x) = none) :
    Stamps (es.push { key := k, val := v, born := clock }) (clock + 1) (l ++ [(x, b)]) := by
  obtain ⟨h1, h2, h3⟩ := h
  refine ⟨fun e he => ?_, ?_, ?_⟩
  · rw [Array.toList_push, List.mem_append] at he
    rcases he with he | he
    · have := h1 e he; omega
    · simp only [List.mem_singleton] at he; subst he; exact Nat.lt_succ_self _
  · rw [Array.toList_push, List.map_append, List.nodup_append]
    refine ⟨h2, by simp, ?_⟩
    intro y hy z hz
    simp only [List.map_cons, List.map_nil, List.mem_singleton] at hz
    obtain ⟨e, he, rfl⟩ := List.mem_map.1 hy
    have := h1 e he
    omega
  · rw [List.map_append, List.nodup_append]
    refine ⟨h3, by simp, ?_⟩
    intro y hy z hz
    simp only [List.map_cons, List.map_nil, List.mem_singleton] at hz
    obtain ⟨p, hp, rfl⟩ := List.mem_map.1 hy
    rintro e
    have := List.find?_eq_none.1 hf p hp
    simp [e, hz] at this
/-- the block behind a pointer is a memory of a size, with these bytes; its blocks are all in S -/
def Mem (w : World) (b : Nat) (size : Int) (f : Int → Int) (S : Nat → Prop) : Prop :=
  ∃ mp es clock l g, w.heap[b]? = some (.cells #[.int .u64 size, .map (some mp)] 42 (0, 0)) ∧ w.heap[mp]? = some (.map es clock) ∧ Ents .u64 es (pgs l) ∧
    (∀ p ∈ l, PageAt w p.2 (g p.2)) ∧ (l.map (·.2)).Nodup ∧ S b ∧ S mp ∧ (∀ p ∈ l, S p.2) ∧ (∀ k, S k → k < w.heap.size) ∧ (∀ a, f a = byteOf l g a) ∧ Stamps es clock l
theorem PageAt.keep {w w' : World} {pb : Nat} {g : Nat → Int} (h : PageAt w pb g) (he : w'.heap[pb]? = w.heap[pb]?) : PageAt w' pb g := by
  obtain ⟨cs, h1, h2⟩ := h
  exact ⟨cs, he.trans h1, h2⟩
theorem PageAt.lt {w : World} {pb : Nat} {g : Nat → Int} (h : PageAt w pb g) : pb < w.heap.size := by
  obtain ⟨cs, h1, _⟩ := h
  exact blk_lt h1
/-- what turns none of its blocks leaves a memory as it is -/
theorem Mem.keep {w w' : World} {b : Nat} {size : Int} {f : Int → Int} {S S' : Nat → Prop} (h : Mem w b size f S) (ho : Only S' w w') (hd : ∀ k, S k → ¬ S' k) : Mem w' b size f S := by
  obtain ⟨mp, es, clock, l, g, hb, hm, he, hp, hn, sb, sm, sp, hs, hf, ht⟩ := h
  exact ⟨mp, es, clock, l, g, blk_only hb ho (hd _ sb), blk_only hm ho (hd _ sm), he,
    fun p hp' => (hp p hp').keep (ho.block _ (hp p hp').lt (hd _ (sp p hp'))), hn, sb, sm, sp, fun k hk => Nat.lt_of_lt_of_le (hs k hk) ho.size, hf, ht⟩
theorem Mem.below {w w' : World} {b : Nat} {size : Int} {f : Int → Int} {S : Nat → Prop} (h : Mem w b size f S) (ho : Below w.heap.size w w') : Mem w' b size f S :=
  h.keep (S' := fun _ => False) (Only.of_below ho) (fun _ _ h => h)
theorem Mem.lt {w : World} {b : Nat} {size : Int} {f : Int → Int} {S : Nat → Prop} (h : Mem w b size f S) : ∀ k, S k → k < w.heap.size := by
  obtain ⟨mp, es, clock, l, g, hb, hm, he, hp, hn, sb, sm, sp, hs, hf, ht⟩ := h
  exact hs
theorem Mem.self {w : World} {b : Nat} {size : Int} {f : Int → Int} {S : Nat → Prop} (h : Mem w b size f S) : S b ∧ b < w.heap.size := by
  obtain ⟨mp, es, clock, l, g, hb, hm, he, hp, hn, sb, sm, sp, hs, hf, ht⟩ := h
  exact ⟨sb, blk_lt hb⟩
theorem look_pgs (l : List (Int × Nat)) (x : Int) : look (pgs l) x = (l.find? (fun p => p.1 == x)).map (fun p => Value.pointer (some ⟨p.2, 0, none⟩)) := by
  unfold look pgs
  rw [List.find?_map]
  cases h : l.find? ((fun p => p.1 == x) ∘ fun p : Int × Nat => (p.1, Value.pointer (some ⟨p.2, 0, none⟩))) with
  | none =>
    have : l.find? (fun p => p.1 == x) = none := h
    simp [this]
  | some p =>
    have : l.find? (fun p => p.1 == x) = some p := h
    simp [this]
theorem zeroP (w : World) : (zeroValue 45).run Try.prog w = .ok (.pointer none) w := by kernel_rfl
/-- the page of an address, or none: what the look-up answers -/
theorem Mem.look {w : World} {mp clock : Nat} {es : Array MapEntry} {l : List (Int × Nat)} (hm : w.heap[mp]? = some (.map es clock)) (he : Ents .u64 es (pgs l)) (x : Int) :
    (Instr.lookup 40 (.map (some mp)) (.int .u64 x) false).run Try.prog w =
      .ok (match l.find? (fun p => p.1 == x) with | some p => .pointer (some ⟨p.2, 0, none⟩) | none => .pointer none) w := by
  rw [run_look Try.underlying40 Try.underlying23 zeroP hm he x, look_pgs]
  cases l.find? (fun p => p.1 == x) <;> rfl
set_option maxHeartbeats 400000
theorem get_any (w : World) (b : Nat) (size : Int) (f : Int → Int) (S : Nat → Prop) (a : Int) (h : Mem w b size f S) (ha : InU64 a) :
    Calls Try.prog 15 #[.pointer (some ⟨b, 0, none⟩), .int .u64 a] w fun e w' => e = .returned (.int .u8 (f a)) ∧ w = w' := by
  obtain ⟨mp, es, clock, l, g, hb, hm, he, hp, hn, sb, sm, sp, hs, hf, ht⟩ := h
  obtain ⟨h1, h2⟩ := ha
  have c1 : w.cell? ⟨b, 1, none⟩ = some (.map (some mp)) := blk_cell hb rfl
  have hlk := Mem.look hm he (a / 4096)
  have hfa := hf a
  unfold byteOf at hfa
  clear hb hm he hn sb sm hf sp hs
  cases hfi : l.find? (fun p => p.1 == a / 4096) with
  | none =>
    rw [hfi] at hlk hfa
    simp only [] at hlk hfa
    rw [hfa]
    clear hfa hfi hp
    go_enter Try.func15, Try.ntmps15
    go_wp2
    go_returns
    exact ⟨rfl, rfl⟩
  | some p =>
    rw [hfi] at hlk hfa
    simp only [] at hlk hfa
    obtain ⟨cs, hc, hsz, hj⟩ := hp p (List.mem_of_find?_eq_some hfi)
    have hjj := hj (a % 4096).toNat (by omega)
    have c2 : w.cell? ⟨p.2, (a % 4096).toNat, none⟩ = some (.int .u8 (f a)) := by rw [hfa]; exact blk_cell hc hjj.1
    clear hfa hfi hp hc hsz hj hjj
    generalize f a = v at *
    go_enter Try.func15, Try.ntmps15
    go_wp2
    go_returns
    exact ⟨rfl, rfl⟩
/-- a page's zeros -/
def zpage : Array Value := Array.replicate 4096 (.int .u8 0)
theorem zpage_size : zpage.size = 4096 := by simp [zpage]
theorem zpage_at (j : Nat) (h : j < 4096) : zpage[j]? = some (.int .u8 0) := by simp [zpage, h]
theorem build_page (w : World) : (Instr.build 46 #[]).run Try.prog w = .ok (.agg zpage) w := by kernel_rfl
theorem exec_page (ρ : Operand → Value) (o : Oper) (ho : o.op = .build 46 #[]) (w : World) : (execOp ρ o).run Try.prog w = .ok (.value (.agg zpage)) w := by
  unfold execOp
  rw [ho]
  have := build_page w
  simp only [Array.map_empty, Sem.run_bind, this, Result.andThen]
  rfl
theorem wpList_page {ops : Array Oper} {rest : List Oper} {o : Oper} {a : Act} {w : World} {Q : Exit → Act → World → Prop} (hgd : o.guard = none) (ho : o.op = .build 46 #[])
    (h : wpList Try.prog ops Q rest (a.put o.dst (.agg zpage)) w) : wpList Try.prog ops Q (o :: rest) a w :=
  wpList_value hgd _ _ (exec_page _ o ho w) h
def upd (f : Int → Int) (a c x : Int) : Int := if x = a then c else f x
theorem div_mod_inj {a x : Int} (h1 : x / 4096 = a / 4096) (h2 : (x % 4096).toNat = (a % 4096).toNat) : x = a := by omega
theorem nodup_snd : ∀ {l : List (Int × Nat)}, (l.map (·.2)).Nodup → ∀ {p q : Int × Nat}, p ∈ l → q ∈ l → p.2 = q.2 → p = q
  | [], _, _, _, h, _, _ => by cases h
  | x :: l, hn, p, q, hp, hq, e => by
    simp only [List.map_cons, List.nodup_cons] at hn
    rcases List.mem_cons.1 hp with rfl | hp' <;> rcases List.mem_cons.1 hq with rfl | hq'
    · rfl
    · exact absurd (List.mem_map_of_mem (f := (·.2)) hq') (by rw [← e]; exact hn.1)
    · exact absurd (List.mem_map_of_mem (f := (·.2)) hp') (by rw [e]; exact hn.1)
    · exact nodup_snd hn.2 hp' hq' e
/-- a byte of a page that is there -/
theorem Mem.put_there {w : World} {b : Nat} {size : Int} {f : Int → Int} {S : Nat → Prop} {mp clock : Nat} {es : Array MapEntry} {l : List (Int × Nat)} {g : Nat → Nat → Int}
    (hb : w.heap[b]? = some (.cells #[.int .u64 size, .map (some mp)] 42 (0, 0))) (hm : w.heap[mp]? = some (.map es clock)) (he : Ents .u64 es (pgs l))
    (hp : ∀ p ∈ l, PageAt w p.2 (g p.2)) (hn : (l.map (·.2)).Nodup) (sb : S b) (sm : S mp) (sp : ∀ p ∈ l, S p.2) (hs : ∀ k, S k → k < w.heap.size) (hf : ∀ a, f a = byteOf l g a) (ht : Stamps es clock l)
    (a c : Int) (hc : 0 ≤ c ∧ c ≤ 255) (p : Int × Nat) (hfi : l.find? (fun p => p.1 == a / 4096) = some p) :
    Mem (w.setCell ⟨p.2, (a % 4096).toNat, none⟩ (.int .u8 c)) b size (upd f a c) S := by
  have hpl := List.mem_of_find?_eq_some hfi
  obtain ⟨cs, hcs, hsz, hj⟩ := hp p hpl
  have nb : b ≠ p.2 := by
    rintro rfl; rw [hcs] at hb; simp only [Option.some.injEq, Obj.cells.injEq] at hb
    have := congrArg Array.size hb.1; rw [hsz] at this; simp at this
  have nm : mp ≠ p.2 := by rintro rfl; rw [hcs] at hm; cases hm
  refine ⟨mp, es, clock, l, fun k j => if k = p.2 ∧ j = (a % 4096).toNat then c else g k j, blk_set hb nb _, blk_set hm nm _, he, ?_, hn, sb, sm, sp, fun k hk => by simpa [World.setCell] using hs k hk, ?_, ht⟩
  · intro q hq
    by_cases hqp : q.2 = p.2
    · rw [hqp]
      refine ⟨cs.setIfInBounds (a % 4096).toNat (.int .u8 c), blk_setCell hcs _, by simp [hsz], fun j hj4 => ?_⟩
      by_cases hja : j = (a % 4096).toNat
      · subst hja
        simp only [and_self, if_true]
        exact ⟨by rw [Array.getElem?_setIfInBounds_self_of_lt (by rw [hsz]; exact hj4)], hc⟩
      · simp only [hja, and_false, if_false]
        rw [Array.getElem?_setIfInBounds_ne (fun e => hja e.symm)]
        exact hj j hj4
    · obtain ⟨cq, h1, h2, h3⟩ := hp q hq
      refine ⟨cq, blk_set h1 hqp _, h2, fun j hj4 => ?_⟩
      simp only [hqp, false_and, if_false]
      exact h3 j hj4
  · intro x
    unfold upd
    by_cases hx : x = a
    · subst hx; rw [if_pos rfl]; unfold byteOf; rw [hfi]; simp
    · rw [if_neg hx, hf x]
      unfold byteOf
      cases hfx : l.find? (fun p => p.1 == x / 4096) with
      | none => rfl
      | some q =>
        simp only []
        rw [if_neg]
        rintro ⟨e1, e2⟩
        have hq := List.mem_of_find?_eq_some hfx
        have hqe : q = p := by
          have := List.pairwise_map.1 hn
          exact nodup_snd hn hq hpl e1
        subst hqe
        have k1 : q.1 = x / 4096 := by simpa using List.find?_some hfx
        have k2 : q.1 = a / 4096 := by simpa using List.find?_some hfi
        exact hx (div_mod_inj (by omega) e2)
/-- a world whose block mp is another object -/
def setBlk (w : World) (mp : Nat) (o : Obj) : World := { w with heap := w.heap.setIfInBounds mp o }
theorem setBlk_ne {w : World} {mp k : Nat} {o : Obj} (h : k ≠ mp) : (setBlk w mp o).heap[k]? = w.heap[k]? := by
  simp only [setBlk]; rw [Array.getElem?_setIfInBounds_ne (fun e => h e.symm)]
theorem setBlk_eq {w : World} {mp : Nat} {o : Obj} (h : mp < w.heap.size) : (setBlk w mp o).heap[mp]? = some o := by
  simp only [setBlk]; rw [Array.getElem?_setIfInBounds_self_of_lt h]
theorem setBlk_size {w : World} {mp : Nat} {o : Obj} : (setBlk w mp o).heap.size = w.heap.size := by simp [setBlk]
theorem Only.setBlk {S : Nat → Prop} {a b : World} (h : Only S a b) {mp : Nat} (hp : a.heap.size ≤ mp ∨ S mp) (o : Obj) : Only S a (setBlk b mp o) :=
  ⟨h.os, h.tape, h.output, by rw [setBlk_size]; exact h.size, fun k hk hn => by
    rw [setBlk_ne (by rintro rfl; rcases hp with hp | hp; · omega
                      · exact hn hp)]
    exact h.block k hk hn⟩
/-- a new page, of zeros: the same bytes -/
theorem Mem.new_page {w : World} {b : Nat} {size : Int} {f : Int → Int} {S : Nat → Prop} {mp clock : Nat} {es : Array MapEntry} {l : List (Int × Nat)} {g : Nat → Nat → Int}
    (hb : w.heap[b]? = some (.cells #[.int .u64 size, .map (some mp)] 42 (0, 0))) (hm : w.heap[mp]? = some (.map es clock)) (he : Ents .u64 es (pgs l))
    (hp : ∀ p ∈ l, PageAt w p.2 (g p.2)) (hn : (l.map (·.2)).Nodup) (sb : S b) (sm : S mp) (sp : ∀ p ∈ l, S p.2) (hs : ∀ k, S k → k < w.heap.size) (hf : ∀ a, f a = byteOf l g a) (ht : Stamps es clock l)
    (a : Int) (hfi : l.find? (fun p => p.1 == a / 4096) = none) :
    ∃ (es' : Array MapEntry) (l' : List (Int × Nat)) (g' : Nat → Nat → Int) (S' : Nat → Prop) (W : World), W = setBlk (w.alloc (.cells zpage 46)) mp (.map es' (clock + 1)) ∧
      es' = es.push { key := .int .u64 (a / 4096), val := .pointer (some ⟨w.heap.size, 0, none⟩), born := clock } ∧
      W.heap[b]? = some (.cells #[.int .u64 size, .map (some mp)] 42 (0, 0)) ∧ W.heap[mp]? = some (.map es' (clock + 1)) ∧ Ents .u64 es' (pgs l') ∧
      (∀ p ∈ l', PageAt W p.2 (g' p.2)) ∧ (l'.map (·.2)).Nodup ∧ S' b ∧ S' mp ∧ (∀ p ∈ l', S' p.2) ∧ (∀ k, S' k → k < W.heap.size) ∧ (∀ a, f a = byteOf l' g' a) ∧
      l'.find? (fun p => p.1 == a / 4096) = some (a / 4096, w.heap.size) ∧ (∀ k, S' k → S k ∨ w.heap.size ≤ k) ∧ W.heap[w.heap.size]? = some (.cells zpage 46 (0, 0)) ∧ Stamps es' (clock + 1) l' := by
  have hbl := blk_lt hb
  have hml := blk_lt hm
  have nb : b ≠ mp := by rintro rfl; rw [hm] at hb; cases hb
  refine ⟨_, l ++ [(a / 4096, w.heap.size)], fun k j => if k = w.heap.size then 0 else g k j, fun k => S k ∨ k = w.heap.size, _, rfl, rfl, ?_, ?_, ?_, ?_, ?_, Or.inl sb, Or.inl sm, ?_, ?_, ?_, ?_, ?_, ?_, ?_⟩
  · rw [setBlk_ne nb]; exact blk_alloc hb _
  · exact setBlk_eq (by simp; omega)
  · have := he.push (a / 4096) (.pointer (some ⟨w.heap.size, 0, none⟩)) clock
    simpa [pgs] using this
  · intro p hpm
    rcases List.mem_append.1 hpm with h | h
    · have hlt := (hp p h).lt
      obtain ⟨cs, h1, h2, h3⟩ := hp p h
      have nm : p.2 ≠ mp := by rintro e; rw [e, hm] at h1; cases h1
      refine ⟨cs, ?_, h2, fun j hj => ?_⟩
      · rw [setBlk_ne nm]; exact blk_alloc h1 _
      · simp only [show p.2 ≠ w.heap.size by omega, if_false]; exact h3 j hj
    · simp only [List.mem_singleton] at h
      subst h
      refine ⟨zpage, ?_, zpage_size, fun j hj => ?_⟩
      · rw [setBlk_ne (by show w.heap.size ≠ mp; omega)]; exact blk_new w _
      · simp only [if_true]; exact ⟨zpage_at j hj, by decide, by decide⟩
  · rw [List.map_append, List.nodup_append]
    refine ⟨hn, by simp, ?_⟩
    intro x hx y hy
    simp only [List.map_cons, List.map_nil, List.mem_singleton] at hy
    obtain ⟨p, hpm, rfl⟩ := List.mem_map.1 hx
    have := (hp p hpm).lt
    omega
  · intro p hpm
    rcases List.mem_append.1 hpm with h | h
    · exact Or.inl (sp p h)
    · simp only [List.mem_singleton] at h; subst h; exact Or.inr rfl
  · intro k hk
    rw [setBlk_size]
    simp only [World.size_alloc]
    rcases hk with hk | hk
    · have := hs k hk; omega
    · omega
  · intro x
    rw [hf x]
    unfold byteOf
    rw [List.find?_append]
    cases hfx : l.find? (fun p => p.1 == x / 4096) with
    | none =>
      simp only [Option.none_or, List.find?_cons]
      split
      · rename_i q hq
        split at hq
        · simp only [Option.some.injEq] at hq; subst hq; simp
        · simp at hq
      · rfl
    | some q =>
      have := (hp q (List.mem_of_find?_eq_some hfx)).lt
      simp only [Option.some_or, show q.2 ≠ w.heap.size by omega, if_false]
  · rw [List.find?_append, hfi]; simp
  · intro k hk; rcases hk with hk | hk
    · exact Or.inl hk
    · exact Or.inr (by omega)
  · rw [setBlk_ne (by show w.heap.size ≠ mp; omega)]; exact blk_new w _
  · exact ht.push _ _ _ _ hfi
end Go.Proofs.Ythkaachgfiljmaa
