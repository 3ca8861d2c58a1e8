/- Plain facts: liveness of registers over a function's blocks. Walks: Reads, Next. Walks: what is read, and in which memory it lies. Walks: may a global be? (only that it is answered). Plain facts: ways gone one block at a time. Plain facts: a function's graph of registers, bit by bit: who is apart from whom, who must lie in memory, how often each is used. pick's law: what it asks of lines that are laid, plain; lines in memory. No condition. -/
import Derived.Test.YtbogcompeefoaaaDoorQa
import Derived.Test.YtbogcompeefoaaaDoorQc
namespace Go.Proofs.YtbogcompeefoaaaDoor
set_option linter.unusedVariables false
/-! ### on words -/
def useL (l : List Nat) (al : List ArgD) : List Nat := al.foldl (fun l a => putL l a.reg) l
def backL (l : List Nat) (x : InsD) : List Nat := useL (outL l x.dst) (readsD x)
/-- behind the last j instructions taken back -/
def backsL (l : List Nat) : List InsD → List Nat
  | [] => l
  | x :: xs => backL (backsL l xs) x
def transL (k : BlockD) (l : List Nat) : List Nat := backsL (useL l (readsT k.term)) k.ins
theorem useL_length (al : List ArgD) : ∀ l, (useL l al).length = l.length := by
  induction al with
  | nil => intro l; rfl
  | cons a al ih => intro l; show (useL (putL l a.reg) al).length = _; rw [ih, putL_length]
theorem backL_length (l : List Nat) (x : InsD) : (backL l x).length = l.length := by unfold backL; rw [useL_length, outL_length]
theorem backsL_length (l : List Nat) : ∀ xs, (backsL l xs).length = l.length
  | [] => rfl
  | x :: xs => by unfold backsL; rw [backL_length, backsL_length l xs]
theorem transL_length (k : BlockD) (l : List Nat) : (transL k l).length = l.length := by unfold transL; rw [backsL_length, useL_length]
/-! ### bit by bit -/
def useB (f : Bool) (al : List ArgD) (r : Nat) : Bool := f || al.any fun a => decide (a.reg = (r : Int))
def backB (f : Bool) (x : InsD) (r : Nat) : Bool := useB (f && !decide (x.dst = (r : Int))) (readsD x) r
def backsB (f : Bool) (xs : List InsD) (r : Nat) : Bool := match xs with
  | [] => f
  | x :: xs => backB (backsB f xs r) x r
def transB (k : BlockD) (f : Bool) (r : Nat) : Bool := backsB (useB f (readsT k.term) r) k.ins r
theorem bit_use (r : Nat) (al : List ArgD) : ∀ (l : List Nat), r / 64 < l.length → bitL (useL l al) r = useB (bitL l r) al r := by
  induction al with
  | nil => intro l _; simp [useL, useB]
  | cons a al ih =>
    intro l hr
    show bitL (useL (putL l a.reg) al) r = _
    rw [ih _ (by rw [putL_length]; exact hr), bit_put]
    unfold useB
    rw [List.any_cons, Bool.or_assoc]
    have : decide (a.reg = (r : Int) ∧ r / 64 < l.length) = decide (a.reg = (r : Int)) := by rw [decide_eq_decide]; exact ⟨fun h => h.1, fun h => ⟨h, hr⟩⟩
    rw [this]
theorem bit_back (r : Nat) (l : List Nat) (x : InsD) (hr : r / 64 < l.length) : bitL (backL l x) r = backB (bitL l r) x r := by
  unfold backL backB
  rw [bit_use r _ _ (by rw [outL_length]; exact hr), bit_out]
theorem bit_backs (r : Nat) (l : List Nat) (hr : r / 64 < l.length) : ∀ xs, bitL (backsL l xs) r = backsB (bitL l r) xs r
  | [] => rfl
  | x :: xs => by unfold backsL backsB; rw [bit_back r _ x (by rw [backsL_length]; exact hr), bit_backs r l hr xs]
theorem bit_transL (r : Nat) (k : BlockD) (l : List Nat) (hr : r / 64 < l.length) : bitL (transL k l) r = transB k (bitL l r) r := by
  unfold transL transB
  rw [bit_backs r _ (by rw [useL_length]; exact hr), bit_use r _ _ hr]
theorem useB_mono {f g : Bool} {al : List ArgD} {r : Nat} (h : f = true → g = true) : useB f al r = true → useB g al r = true := by
  unfold useB
  cases f <;> cases g <;> simp_all
theorem backB_mono {f g : Bool} {x : InsD} {r : Nat} (h : f = true → g = true) : backB f x r = true → backB g x r = true := by
  unfold backB
  refine useB_mono ?_
  cases f <;> cases g <;> simp_all
theorem backsB_mono {f g : Bool} {r : Nat} (h : f = true → g = true) : ∀ xs, backsB f xs r = true → backsB g xs r = true
  | [] => h
  | x :: xs => backB_mono (backsB_mono h xs)
theorem transB_mono {f g : Bool} {k : BlockD} {r : Nat} (h : f = true → g = true) : transB k f r = true → transB k g r = true := backsB_mono (useB_mono h) _
theorem bit_high (l : List Nat) (r : Nat) (h : l.length ≤ r / 64) : bitL l r = false := bitL_out l r h
/-! ### the fixpoint -/
/-- a register is live at a block's beginning: what is read is led to -/
inductive LiveAt (blk : Nat → BlockD) (nx : Nat → List Int) (n r : Nat) : Nat → Prop
  | here {b : Nat} : b < n → transB (blk b) false r = true → LiveAt blk nx n r b
  | on {b k : Nat} : b < n → transB (blk b) true r = true → (k : Int) ∈ nx b → LiveAt blk nx n r k → LiveAt blk nx n r b
theorem joinK_bits {l o : List Nat} {k : Nat} (hk : k = min l.length o.length) (i : Nat) (h : l.length = o.length) : bitL (joinK l o k) i = (bitL l i || bitL o i) := by
  rw [bit_join l o k i hk]
  by_cases e : i / 64 < l.length
  · rw [decide_eq_true e]; simp
  · rw [bit_high l i (by omega), bit_high o i (by omega)]; simp
def updL (f : Nat → List Nat) (b : Nat) (l : List Nat) (x : Nat) : List Nat := if x = b then l else f x
theorem updL_same (f : Nat → List Nat) (b : Nat) (l : List Nat) : updL f b l b = l := by unfold updL; rw [if_pos rfl]
theorem updL_other (f : Nat → List Nat) {b x : Nat} (l : List Nat) (h : x ≠ b) : updL f b l x = f x := by unfold updL; rw [if_neg h]
/-- I, O: what is live at beginnings and ends; K words each -/
structure LInv (blk : Nat → BlockD) (nx : Nat → List Int) (n K : Nat) (I O : Nat → List Nat) : Prop where
  li : ∀ b, b < n → (I b).length = K
  lo : ∀ b, b < n → (O b).length = K
  j1 : ∀ b r, b < n → bitL (O b) r = true → ∃ k : Nat, (k : Int) ∈ nx b ∧ bitL (I k) r = true
  j2 : ∀ b r, b < n → r < 64 * K → bitL (I b) r = true → transB (blk b) (bitL (O b) r) r = true
  j3 : ∀ b r, b < n → bitL (I b) r = true → LiveAt blk nx n r b
section
variable {blk : Nat → BlockD} {nx : Nat → List Int} {n K : Nat} {I O : Nat → List Nat}
theorem LInv.start (blk : Nat → BlockD) (nx : Nat → List Int) (n K : Nat) : LInv blk nx n K (fun _ => List.replicate K 0) (fun _ => List.replicate K 0) := by
  have z : ∀ r, bitL (List.replicate K 0) r = false := fun r => by
    unfold bitL
    rw [List.getD_eq_getElem?_getD, List.getElem?_replicate]
    split <;> simp
  have nz : ∀ {p : Prop} r, bitL (List.replicate K 0) r = true → p := fun r h => by rw [z] at h; cases h
  exact ⟨fun _ _ => by simp, fun _ _ => by simp, fun b r _ h => nz r h, fun b r _ _ h => nz r h, fun b r _ h => nz r h⟩
/-- an end takes what is live behind it -/
theorem LInv.out (h : LInv blk nx n K I O) (hnx : ∀ i k, i < n → k ∈ nx i → 0 ≤ k ∧ k < n) {b k : Nat} (hb : b < n) (hk : (k : Int) ∈ nx b) : LInv blk nx n K I (updL O b (joinK (O b) (I k) K)) := by
  have hkn : k < n := by have := hnx b k hb hk; omega
  have hm : K = min (O b).length (I k).length := by rw [h.lo b hb, h.li k hkn]; simp
  have hl : (O b).length = (I k).length := by rw [h.lo b hb, h.li k hkn]
  refine ⟨h.li, fun x hx => ?_, fun x r hx hr => ?_, fun x r hx hrK hr => ?_, h.j3⟩
  · by_cases e : x = b
    · subst e; rw [updL_same, joinK_length]; exact h.lo x hx
    · rw [updL_other _ _ e]; exact h.lo x hx
  · by_cases e : x = b
    · subst e
      rw [updL_same, joinK_bits hm r hl, Bool.or_eq_true] at hr
      rcases hr with hr | hr
      · exact h.j1 x r hx hr
      · exact ⟨k, hk, hr⟩
    · rw [updL_other _ _ e] at hr; exact h.j1 x r hx hr
  · by_cases e : x = b
    · subst e
      rw [updL_same, joinK_bits hm r hl]
      exact transB_mono (fun h => by rw [h]; rfl) (h.j2 x r hx hrK hr)
    · rw [updL_other _ _ e]; exact h.j2 x r hx hrK hr
/-- a beginning takes what is live ahead of its block -/
theorem LInv.in_ (h : LInv blk nx n K I O) (hnx : ∀ i k, i < n → k ∈ nx i → 0 ≤ k ∧ k < n) {b : Nat} (hb : b < n) : LInv blk nx n K (updL I b (joinK (I b) (transL (blk b) (O b)) K)) O := by
  have hm : K = min (I b).length (transL (blk b) (O b)).length := by rw [transL_length, h.lo b hb, h.li b hb]; simp
  have hl : (I b).length = (transL (blk b) (O b)).length := by rw [transL_length, h.lo b hb, h.li b hb]
  have grow : ∀ x r, x < n → bitL (I x) r = true → bitL (updL I b (joinK (I b) (transL (blk b) (O b)) K) x) r = true := by
    intro x r hx hr
    by_cases e : x = b
    · subst e; rw [updL_same, joinK_bits hm r hl, hr]; rfl
    · rw [updL_other _ _ e]; exact hr
  have new : ∀ x r, x < n → bitL (updL I b (joinK (I b) (transL (blk b) (O b)) K) x) r = true → bitL (I x) r = true ∨ (x = b ∧ r < 64 * K ∧ transB (blk b) (bitL (O b) r) r = true) := by
    intro x r hx hr
    by_cases e : x = b
    · subst e
      rw [updL_same, joinK_bits hm r hl, Bool.or_eq_true] at hr
      rcases hr with hr | hr
      · exact Or.inl hr
      · by_cases hrK : r / 64 < (O x).length
        · rw [bit_transL r _ _ hrK] at hr
          have := h.lo x hx
          exact Or.inr ⟨rfl, by omega, hr⟩
        · rw [bit_high _ r (by rw [transL_length]; omega)] at hr; cases hr
    · rw [updL_other _ _ e] at hr; exact Or.inl hr
  refine ⟨fun x hx => ?_, h.lo, fun x r hx hr => ?_, fun x r hx hrK hr => ?_, fun x r hx hr => ?_⟩
  · by_cases e : x = b
    · subst e; rw [updL_same, joinK_length]; exact h.li x hx
    · rw [updL_other _ _ e]; exact h.li x hx
  · obtain ⟨k, hk, hr⟩ := h.j1 x r hx hr
    exact ⟨k, hk, grow k r (by have := hnx x k hx hk; omega) hr⟩
  · rcases new x r hx hr with hr | ⟨rfl, _, hr⟩
    · exact h.j2 x r hx hrK hr
    · exact hr
  · rcases new x r hx hr with hr | ⟨rfl, _, hr⟩
    · exact h.j3 x r hx hr
    · cases e : bitL (O x) r with
      | false => rw [e] at hr; exact .here hx hr
      | true =>
        rw [e] at hr
        obtain ⟨k, hk, hk2⟩ := h.j1 x r hx e
        exact .on hx hr hk (h.j3 k r (by have := hnx x k hx hk; omega) hk2)
/-- the blocks from number i on have all that they should -/
def LDone (blk : Nat → BlockD) (nx : Nat → List Int) (n K : Nat) (I O : Nat → List Nat) (i : Nat) : Prop :=
  ∀ b, i ≤ b → b < n → (∀ k : Nat, (k : Int) ∈ nx b → ∀ r, bitL (I k) r = true → bitL (O b) r = true) ∧ (∀ r, r < 64 * K → transB (blk b) (bitL (O b) r) r = true → bitL (I b) r = true)
theorem LInv.done (h : LInv blk nx n K I O) (hd : LDone blk nx n K I O 0) {r : Nat} (hr : r < 64 * K) {b : Nat} (hb : b < n) : bitL (I b) r = true ↔ LiveAt blk nx n r b := by
  refine ⟨h.j3 b r hb, fun hl => ?_⟩
  induction hl with
  | here hb ht => exact (hd _ (Nat.zero_le _) hb).2 r hr (transB_mono (fun h => by cases h) ht)
  | @on b k hb ht hk hkl ih =>
    have hkn : k < n := by cases hkl <;> assumption
    have := (hd b (Nat.zero_le _) hb).1 k hk r (ih hkn)
    refine (hd b (Nat.zero_le _) hb).2 r hr ?_
    rw [this]; exact ht
theorem LInv.done_out (h : LInv blk nx n K I O) (hd : LDone blk nx n K I O 0) (hnx : ∀ i k, i < n → k ∈ nx i → 0 ≤ k ∧ k < n) {r : Nat} (hr : r < 64 * K) {b : Nat} (hb : b < n) : bitL (O b) r = true ↔ ∃ k : Nat, (k : Int) ∈ nx b ∧ LiveAt blk nx n r k := by
  constructor
  · intro e
    obtain ⟨k, hk, h1⟩ := h.j1 b r hb e
    exact ⟨k, hk, h.j3 k r (by have := hnx b k hb hk; omega) h1⟩
  · rintro ⟨k, hk, hl⟩
    exact (hd b (Nat.zero_le _) hb).1 k hk r ((h.done hd hr (by have := hnx b k hb hk; omega)).2 hl)
/-- the same bits -/
theorem LDone.congr {I' O' : Nat → List Nat} {i : Nat} (h : LDone blk nx n K I O i) (hI : ∀ b r, bitL (I' b) r = bitL (I b) r) (hO : ∀ b, i ≤ b → b < n → O' b = O b) : LDone blk nx n K I' O' i := fun b h1 h2 => by
  rw [hO b h1 h2]
  refine ⟨fun k hk r hr => (h b h1 h2).1 k hk r (by rw [← hI]; exact hr), fun r hr ht => by rw [hI]; exact (h b h1 h2).2 r hr ht⟩
/-- how much is live -/
def tot (K : Nat) (I : Nat → List Nat) : Nat → Nat
  | 0 => 0
  | n + 1 => tot K I n + cnt (bitL (I n)) (64 * K)
theorem tot_le (K : Nat) (I : Nat → List Nat) : ∀ n, tot K I n ≤ n * (64 * K)
  | 0 => by simp [tot]
  | n + 1 => by have := tot_le K I n; have := cnt_le (bitL (I n)) (64 * K); have h3 : (n + 1) * (64 * K) = n * (64 * K) + 64 * K := Nat.succ_mul n (64 * K); show tot K I n + cnt (bitL (I n)) (64 * K) ≤ _; omega
theorem tot_congr {K : Nat} {I I' : Nat → List Nat} : ∀ n, (∀ b, b < n → ∀ r, bitL (I' b) r = bitL (I b) r) → tot K I' n = tot K I n
  | 0, _ => rfl
  | n + 1, h => by
    show tot K I' n + cnt (bitL (I' n)) (64 * K) = tot K I n + cnt (bitL (I n)) (64 * K)
    rw [tot_congr n (fun b hb => h b (by omega)), show bitL (I' n) = bitL (I n) from funext (h n (by omega))]
theorem tot_more {K : Nat} {I I' : Nat → List Nat} : ∀ n b, b < n → (∀ x, x ≠ b → I' x = I x) → cnt (bitL (I b)) (64 * K) < cnt (bitL (I' b)) (64 * K) → tot K I n < tot K I' n
  | 0, b, hb, _, _ => by omega
  | n + 1, b, hb, h, hc => by
    show tot K I n + cnt (bitL (I n)) (64 * K) < tot K I' n + cnt (bitL (I' n)) (64 * K)
    by_cases e : b = n
    · subst e
      have := tot_congr (K := K) (I := I) (I' := I') b (fun x hx r => by rw [h x (by omega)])
      omega
    · have := tot_more n b (by omega) h hc
      rw [h n (fun e2 => e e2.symm)]; omega
theorem more_none {b : Nat} {s : List Nat} (hl : (I b).length = K) (hs : s.length = K) (h1 : ∀ x ∈ I b, x < 2 ^ 64) (h2 : ∀ x ∈ s, x < 2 ^ 64) (hm : moreK (I b) s (min (I b).length s.length) = false) (x r : Nat) : bitL (updL I b (joinK (I b) s (min (I b).length s.length)) x) r = bitL (I x) r := by
  by_cases e : x = b
  · subst e
    rw [updL_same, joinK_bits rfl r (hl.trans hs.symm)]
    cases e1 : bitL s r
    · simp
    · cases e2 : bitL (I x) r
      · have hlt : r / 64 < (I x).length := by
          rcases Nat.lt_or_ge (r / 64) (I x).length with h | h
          · exact h
          · rw [bit_high s r (by omega)] at e1; cases e1
        have : moreK (I x) s (min (I x).length s.length) = true := (moreK_iff _ _ _ h1 h2 rfl).2 ⟨r, hlt, e1, e2⟩
        rw [this] at hm; cases hm
      · rfl
  · rw [updL_other _ _ e]
theorem more_some {b : Nat} {s : List Nat} (hb : b < n) (hl : (I b).length = K) (hs : s.length = K) (h1 : ∀ x ∈ I b, x < 2 ^ 64) (h2 : ∀ x ∈ s, x < 2 ^ 64) (hm : moreK (I b) s (min (I b).length s.length) = true) : tot K I n < tot K (updL I b (joinK (I b) s (min (I b).length s.length))) n := by
  obtain ⟨r, e0, e1, e2⟩ := (moreK_iff _ _ _ h1 h2 rfl).1 hm
  refine tot_more n b hb (fun x hx => updL_other _ _ hx) ?_
  rw [updL_same]
  refine cnt_lt _ (fun i _ hi => ?_) ⟨r, by omega, ?_, e2⟩
  · rw [joinK_bits rfl i (hl.trans hs.symm), hi]; rfl
  · rw [joinK_bits rfl r (hl.trans hs.symm), e1]; simp
theorem done_step {I' O' : Nat → List Nat} {b : Nat} (hI : ∀ x r, bitL (I' x) r = bitL (I x) r) (hO : ∀ x, b < x → x < n → O' x = O x) (hd : LDone blk nx n K I O (b + 1))
    (h1 : ∀ k : Nat, (k : Int) ∈ nx b → ∀ r, bitL (I k) r = true → bitL (O' b) r = true) (h2 : ∀ r, r < 64 * K → transB (blk b) (bitL (O' b) r) r = true → bitL (I' b) r = true) : LDone blk nx n K I' O' b := by
  intro x hx hxn
  by_cases e : x = b
  · subst e
    exact ⟨fun k hk r hr => h1 k hk r (by rw [← hI]; exact hr), h2⟩
  · rw [hO x (by omega) hxn]
    refine ⟨fun k hk r hr => (hd x (by omega) hxn).1 k hk r (by rw [← hI]; exact hr), fun r hr ht => by rw [hI]; exact (hd x (by omega) hxn).2 r hr ht⟩
theorem in_has {b r : Nat} {k : BlockD} {o : List Nat} (hl : (I b).length = K) (ho : o.length = K) (hr : r < 64 * K) (ht : transB k (bitL o r) r = true) : bitL (updL I b (joinK (I b) (transL k o) (min (I b).length (transL k o).length)) b) r = true := by
  rw [updL_same, joinK_bits rfl r (by rw [transL_length, hl, ho]), bit_transL r k o (by omega), ht]; simp
end
end Go.Proofs.YtbogcompeefoaaaDoor
namespace Go.Proofs.YtbogcompeefoaaaDoor
open Go.RowKit
set_option linter.unusedVariables false
set_option maxHeartbeats 1000000
theorem wpList_append_run' {P : Program} (w : World) {ops : Array Oper} {rest : List Oper} {o : Oper} {a : Act} {Q : Exit → Act → World → Prop} (hgd : o.guard = none) (s x : Operand) (t : TypeId)
    (ho : o.op = .call { callee := .builtin .append, args := #[s, x], argTypes := #[t, t] }) (v u v' : Value) (w' : World) (hs : a.eval s = v) (hx : a.eval x = u)
    (hr : (Builtin.append_ #[t, t] o.type #[v, u]).run P w = .ok v' w') (h : wpList P ops Q rest (a.put o.dst v') w') : wpList P ops Q (o :: rest) a w :=
  wpList_plain hgd fun _ hK => by
    unfold Oper.wp execOp
    simp only [ho, resolve, invoke, builtin, Sem.run_bind, Sem.run_pure, Result.andThen_ok, List.map_toArray, List.map_cons, List.map_nil, hs, hx, hr]
    exact hK _ _ h
theorem own_slI {w : World} {base n : Nat} {e : TypeId} {v : Value} {l : List Int} (h : w.ownsRow base e 1 v n (l.map (Value.int .i64))) (hn : n = l.length) (hin : ∀ x ∈ l, In64 x) : SlR w 1 IntR v l := by
  subst hn
  rcases h.2 with ⟨rfl, h0⟩ | ⟨g, cap, cur, rfl, _, h2, h3, h4, h5, h6⟩
  · exact ⟨none, 0, by rw [h0], by omega, by decide, fun i x hi => by
      have := (List.getElem?_eq_some_iff.1 hi).1
      omega⟩
  · refine ⟨some ⟨g, 0, none⟩, cap, rfl, h3, h4, fun i x hi => ?_⟩
    have hlt := (List.getElem?_eq_some_iff.1 hi).1
    refine ⟨g, 0, [.int .i64 x], rfl, rfl, fun j hj => ?_, rfl, hin x (List.mem_of_getElem? hi)⟩
    obtain rfl : j = 0 := by omega
    rw [Nat.add_zero, Nat.zero_add, Nat.mul_one, h.cellAt _ (by omega), List.getElem?_map, hi]; rfl
theorem lit_i (w : World) (g : Nat) (cs : Array Value) (l : List Int) (T : TypeId) (hg : g = w.heap.size) (hc : cs.toList = l.map (Value.int .i64)) (hl : l.length ≤ maxLen) (hin : ∀ x ∈ l, In64 x) :
    SlR (w.alloc (.cells cs T)) 1 IntR (.slice (some ⟨g, 0, none⟩) l.length l.length) l := by
  subst hg
  have hs : cs.size = l.length * 1 := by rw [← Array.length_toList, hc]; simp
  refine own_slI (base := w.heap.size) (n := l.length) (e := T) ?_ rfl hin
  rw [← hc]
  exact World.ownsRow_lit (size := 1) w cs l.length (Nat.le_refl _) hl hs
/-- a slice of ints comes back -/
def Ints (w : World) (l : List Int) (e : Ending) (w' : World) : Prop := ∃ v, e = .returned v ∧ SlR w' 1 IntR v l ∧ Below w.heap.size w w'
theorem next_any (w : World) (t : TermD) (h1 : In64 t.to_) (h2 : In64 t.els) : Calls Tryd.prog 33 #[termV t] w (Ints w (nextT t)) := by
  unfold nextT
  by_cases k1 : t.kind = 1
  · rw [if_pos k1]
    go_enter Tryd.func33, Tryd.ntmps33
    go_wp2
    go_returns
    exact ⟨_, rfl, lit_i _ _ _ [t.to_] _ (by simp) rfl (by simp [maxLen]) (fun x hx => by simp at hx; subst hx; exact h1), below_alloc _ (below_alloc _ (Below.refl _ _))⟩
  · rw [if_neg k1]
    have b1 : (t.kind == 1) = false := by simpa using k1
    by_cases k2 : t.kind = 2
    · rw [if_pos k2]
      clear b1 k1
      go_enter Tryd.func33, Tryd.ntmps33
      go_wp2
      go_returns
      exact ⟨_, rfl, lit_i _ _ _ [t.to_, t.els] _ (by simp) rfl (by simp [maxLen]) (fun x hx => by
        rcases List.mem_cons.1 hx with rfl | hx
        · exact h1
        · simp at hx; subst hx; exact h2), below_alloc _ (below_alloc _ (Below.refl _ _))⟩
    · rw [if_neg k2]
      have b2 : (t.kind == 2) = false := by simpa using k2
      clear k1 k2
      go_enter Tryd.func33, Tryd.ntmps33
      go_wp2
      go_returns
      exact ⟨_, rfl, nil_lit _ _ _, below_alloc _ (Below.refl _ _)⟩
theorem treads_any (w : World) (t : TermD) (ha : In64 t.a.reg ∧ In64 t.a.num) (hb : In64 t.b.reg ∧ In64 t.b.num) : Calls Tryd.prog 32 #[termV t] w (Args w (readsT t)) := by
  unfold readsT
  by_cases k1 : t.kind = 2
  · rw [if_pos k1]
    go_enter Tryd.func32, Tryd.ntmps32
    go_wp2
    go_returns
    exact ⟨_, rfl, two_lit _ _ t.a t.b _ (by simp) ha hb, below_alloc _ (below_alloc _ (Below.refl _ _))⟩
  · rw [if_neg k1]
    have b1 : (t.kind == 2) = false := by simpa using k1
    by_cases k2 : t.kind = 3
    · rw [if_pos k2]
      clear b1 k1
      go_enter Tryd.func32, Tryd.ntmps32
      go_wp2
      go_returns
      exact ⟨_, rfl, one_lit _ _ t.a _ (by simp) ha, below_alloc _ (below_alloc _ (Below.refl _ _))⟩
    · rw [if_neg k2]
      have b2 : (t.kind == 3) = false := by simpa using k2
      clear k1 k2
      go_enter Tryd.func32, Tryd.ntmps32
      go_wp2
      go_returns
      exact ⟨_, rfl, nil_lit _ _ _, below_alloc _ (Below.refl _ _)⟩
theorem ireads_any (w : World) (x : InsD) (va : Value) (hop : In64 x.op) (ha : In64 x.a.reg ∧ In64 x.a.num) (hb : In64 x.b.reg ∧ In64 x.b.num) (hs : SlR w 2 ArgR va x.args) (hl : x.args.length ≤ 1000000) :
    Calls Tryd.prog 30 #[insV x va] w (Args w (readsD x)) := by
  unfold readsD
  have HS := Lib.hid hs
  obtain ⟨o1, o2⟩ := hop
  by_cases k1 : x.op = 28
  · rw [if_pos k1]
    clear hs o1 o2
    go_enter Tryd.func30, Tryd.ntmps30
    go_wp2
    go_returns
    exact ⟨_, rfl, HS.out.later (by decide) (below_alloc _ (Below.refl _ _)), below_alloc _ (Below.refl _ _)⟩
  rw [if_neg k1]
  have b1 : (x.op == 28) = false := by simpa using k1
  by_cases k2 : x.op = 29
  · rw [if_pos k2]
    clear b1 k1 o1 o2
    obtain ⟨v', w', hr, g1, g2⟩ := append_args ((w.alloc (.cells #[.int .i64 x.op, .int .i64 x.dst, .int .i64 x.a.reg, .int .i64 x.a.num, .int .i64 x.b.reg, .int .i64 x.b.num, .int .i64 x.size, .bool x.signed, .bool x.secret, .int .i64 x.ref, .int .i64 x.off, va] 74)).alloc (.cells #[.int .i64 x.a.reg, .int .i64 x.a.num] 52))
      x.a ha (w.heap.size + 1) (by have := blk_new (w.alloc (.cells #[.int .i64 x.op, .int .i64 x.dst, .int .i64 x.a.reg, .int .i64 x.a.num, .int .i64 x.b.reg, .int .i64 x.b.num, .int .i64 x.size, .bool x.signed, .bool x.secret, .int .i64 x.ref, .int .i64 x.off, va] 74)) (.cells #[.int .i64 x.a.reg, .int .i64 x.a.num] 52); simpa using this)
      va x.args (hs.later (by decide) (below_alloc _ (below_alloc _ (Below.refl _ _)))) hl
    rw [k2] at hr
    have HG := Lib.hid g1
    have HB := Lib.hid (show Below w.heap.size w w' from ⟨g2.os, g2.tape, g2.output, by have := g2.size; simp at this; omega, fun k hk => (g2.block k (by simp; omega) (by intro e; have := Option.some.inj e; omega)).trans ((below_alloc _ (below_alloc _ (Below.refl _ _))).block k hk)⟩)
    clear g1 g2 hs
    go_enter Tryd.func30, Tryd.ntmps30
    go_wp2_with (at_builtin; refine wpList_append_run' _ rfl _ _ _ rfl _ _ _ _ rfl rfl hr ?_)
    go_returns
    exact ⟨_, rfl, HG.out, HB.out⟩
  rw [if_neg k2]
  have b2 : (x.op == 29) = false := by simpa using k2
  have HT := Lib.hid (fun w => two_any w x.op ⟨o1, o2⟩)
  clear hs
  by_cases k3 : 3 ≤ x.op ∧ x.op ≤ 21
  · rw [if_pos (Or.inl k3)]
    rw [decide_eq_true k3] at HT
    clear k1 k2 k3 o1 o2
    go_enter Tryd.func30, Tryd.ntmps30
    go_wp2_with (go_at_call 61; refine (HT.out _).mono ?_; rintro e w' ⟨rfl, rfl⟩)
    go_returns
    exact ⟨_, rfl, two_lit _ _ x.a x.b _ (by simp) ha hb, below_alloc _ (below_alloc _ (Below.refl _ _))⟩
  rw [decide_eq_false k3] at HT
  by_cases k4 : x.op = 27
  · rw [if_pos (Or.inr k4)]
    rw [k4] at HT
    clear k1 k2 k3 o1 o2 b1 b2
    go_enter Tryd.func30, Tryd.ntmps30
    go_wp2_with (go_at_call 61; refine (HT.out _).mono ?_; rintro e w' ⟨rfl, rfl⟩)
    go_returns
    exact ⟨_, rfl, two_lit _ _ x.a x.b _ (by simp) ha hb, below_alloc _ (below_alloc _ (Below.refl _ _))⟩
  rw [if_neg (by intro h; rcases h with h | h; exact k3 h; exact k4 h)]
  have b4 : (x.op == 27) = false := by simpa using k4
  have hf : ∀ w', w' = (w.alloc (.cells #[.int .i64 x.op, .int .i64 x.dst, .int .i64 x.a.reg, .int .i64 x.a.num, .int .i64 x.b.reg, .int .i64 x.b.num, .int .i64 x.size, .bool x.signed, .bool x.secret, .int .i64 x.ref, .int .i64 x.off, va] 74)) → Below w.heap.size w w' := by
    rintro w' rfl; exact below_alloc _ (Below.refl _ _)
  clear hf
  by_cases k5 : x.op = 23
  · rw [if_pos (Or.inl k5)]
    rw [k5] at HT
    clear k1 k2 k3 k4 o1 o2 b1 b2 b4
    go_enter Tryd.func30, Tryd.ntmps30
    go_wp2_with (go_at_call 61; refine (HT.out _).mono ?_; rintro e w' ⟨rfl, rfl⟩)
    go_returns
    exact ⟨_, rfl, nil_lit _ _ _, below_alloc _ (Below.refl _ _)⟩
  have b5 : (x.op == 23) = false := by simpa using k5
  by_cases k6 : x.op = 24
  · rw [if_pos (Or.inr (Or.inl k6))]
    rw [k6] at HT
    clear k1 k2 k3 k4 k5 o1 o2 b1 b2 b4 b5
    go_enter Tryd.func30, Tryd.ntmps30
    go_wp2_with (go_at_call 61; refine (HT.out _).mono ?_; rintro e w' ⟨rfl, rfl⟩)
    go_returns
    exact ⟨_, rfl, nil_lit _ _ _, below_alloc _ (Below.refl _ _)⟩
  have b6 : (x.op == 24) = false := by simpa using k6
  by_cases k7 : x.op = 25
  · rw [if_pos (Or.inr (Or.inr k7))]
    rw [k7] at HT
    clear k1 k2 k3 k4 k5 k6 o1 o2 b1 b2 b4 b5 b6
    go_enter Tryd.func30, Tryd.ntmps30
    go_wp2_with (go_at_call 61; refine (HT.out _).mono ?_; rintro e w' ⟨rfl, rfl⟩)
    go_returns
    exact ⟨_, rfl, nil_lit _ _ _, below_alloc _ (Below.refl _ _)⟩
  rw [if_neg (by intro h; rcases h with h | h | h; exact k5 h; exact k6 h; exact k7 h)]
  have b7 : (x.op == 25) = false := by simpa using k7
  clear k1 k2 k3 k4 k5 k6 k7 o1 o2
  go_enter Tryd.func30, Tryd.ntmps30
  go_wp2_with (go_at_call 61; refine (HT.out _).mono ?_; rintro e w' ⟨rfl, rfl⟩)
  go_returns
  exact ⟨_, rfl, one_lit _ _ x.a _ (by simp) ha, below_alloc _ (below_alloc _ (Below.refl _ _))⟩
end Go.Proofs.YtbogcompeefoaaaDoor
namespace Go.Proofs.YtbogcompeefoaaaDoor
open Go.RowKit
set_option linter.unusedVariables false
set_option maxHeartbeats 1000000
theorem lit_arg (w : World) (g : Nat) (cs : Array Value) (n : Nat) (hg : g = w.heap.size) (hs : cs.size = n * 2) (hm : n ≤ maxLen) :
    ∃ B m xs, (w.alloc (.cells cs 52)).ownsRow B 52 2 (.slice (some ⟨g, 0, none⟩) n n) m xs := by
  subst hg
  exact ⟨0, n, _, World.ownsRow_lit (size := 2) w cs n (Nat.zero_le _) hm hs⟩
/-- a slice of arguments comes back: va, or one in memory of its own -/
def ArgsN (w : World) (va : Value) (l : List ArgD) (e : Ending) (w' : World) : Prop := ∃ v, e = .returned v ∧ SlR w' 2 ArgR v l ∧ Below w.heap.size w w' ∧ (v = va ∨ ∃ B n xs, w'.ownsRow B 52 2 v n xs)
/-- append to a row of the call's own -/
theorem append_args_own (w : World) (a : ArgD) (ha : In64 a.reg ∧ In64 a.num) (g : Nat) (hg : w.heap[g]? = some (.cells #[.int .i64 a.reg, .int .i64 a.num] 52 (0, 0))) (v : Value) (l : List ArgD) (h : SlR w 2 ArgR v l) (hl : l.length ≤ 1000000) :
    ∃ v' w', (Builtin.append_ #[72, 72] 72 #[.slice (some ⟨g, 0, none⟩) 1 1, v]).run Tryd.prog w = .ok v' w' ∧ SlR w' 2 ArgR v' (a :: l) ∧ w.grownBy w' (some g) ∧ ∃ B n xs, w'.ownsRow B 52 2 v' n xs := by
  obtain ⟨i0, hi, hz0, hz1, hz2⟩ := info_parts Tryd.infoArg
  have hown : w.ownsRow g 52 2 (.slice (some ⟨g, 0, none⟩) 1 1) 1 (flatA [a]) :=
    ⟨rfl, .inr ⟨g, 1, _, rfl, Nat.le_refl _, hg, Nat.le_refl _, by decide, rfl, rfl⟩⟩
  have hin : ArgsIn (a :: l) := fun x hx => by
    rcases List.mem_cons.1 hx with rfl | hx
    · exact ha
    · exact h.argsIn x hx
  by_cases h0 : l.length = 0
  · have : l = [] := List.length_eq_zero_iff.1 h0
    subst this
    obtain ⟨A, cap, rfl, _⟩ := h
    refine ⟨.slice (some ⟨g, 0, none⟩) 1 1, w, ?_, own_slR hown rfl hin, ⟨rfl, rfl, rfl, Nat.le_refl _, fun _ _ _ => rfl⟩, g, 1, _, hown⟩
    cases A with
    | none => simp [Builtin.append_, run_underlying Tryd.underlying72, sizeOf, typeInfo, hi, Builtin.lenOf, Builtin.firstCells, storeCells]
    | some ad => simp [Builtin.append_, run_underlying Tryd.underlying72, sizeOf, typeInfo, hi, Builtin.lenOf, Builtin.firstCells, storeCells, loadCells, loadCellsFrom]
  · obtain ⟨A, cap, rfl, h1, h2, _⟩ := id h
    obtain ⟨b, o, rfl, hnews⟩ := h.news (by omega)
    obtain ⟨v', w', hr, g1, g2, _⟩ := run_append_own (P := Tryd.prog) w g 72 72 52 i0 _ 2 16 Tryd.underlying72 hi hz0 hz1 hz2 rfl (by decide) _ 1 (flatA [a]) hown ⟨b, o, none⟩ l.length cap (flatA l) (flatA_length l) hnews
      (fun u hu => by
        obtain ⟨x, _, hx⟩ := List.mem_flatMap.1 hu
        rcases List.mem_cons.1 hx with rfl | hx
        · rfl
        · rcases List.mem_cons.1 hx with rfl | hx
          · rfl
          · cases hx) (by unfold maxLen; omega) (by omega) (Nat.le_of_lt (blk_lt hg))
    exact ⟨v', w', hr, own_slR (e := 52) (l := a :: l) g1 (by simp; omega) hin, g2, g, _, _, g1⟩
theorem treads_new (w : World) (t : TermD) (ha : In64 t.a.reg ∧ In64 t.a.num) (hb : In64 t.b.reg ∧ In64 t.b.num) : Calls Tryd.prog 32 #[termV t] w (ArgsN w (.slice none 0 0) (readsT t)) := by
  unfold readsT
  by_cases k1 : t.kind = 2
  · rw [if_pos k1]
    go_enter Tryd.func32, Tryd.ntmps32
    go_wp2
    go_returns
    exact ⟨_, rfl, two_lit _ _ t.a t.b _ (by simp) ha hb, below_alloc _ (below_alloc _ (Below.refl _ _)), Or.inr (lit_arg _ _ _ 2 (by simp) rfl (by decide))⟩
  · rw [if_neg k1]
    have b1 : (t.kind == 2) = false := by simpa using k1
    by_cases k2 : t.kind = 3
    · rw [if_pos k2]
      clear b1 k1
      go_enter Tryd.func32, Tryd.ntmps32
      go_wp2
      go_returns
      exact ⟨_, rfl, one_lit _ _ t.a _ (by simp) ha, below_alloc _ (below_alloc _ (Below.refl _ _)), Or.inr (lit_arg _ _ _ 1 (by simp) rfl (by decide))⟩
    · rw [if_neg k2]
      have b2 : (t.kind == 3) = false := by simpa using k2
      clear k1 k2
      go_enter Tryd.func32, Tryd.ntmps32
      go_wp2
      go_returns
      exact ⟨_, rfl, nil_lit _ _ _, below_alloc _ (Below.refl _ _), Or.inr ⟨0, 0, [], World.ownsRow_nil _ _ _ _⟩⟩
theorem ireads_new (w : World) (x : InsD) (va : Value) (hop : In64 x.op) (ha : In64 x.a.reg ∧ In64 x.a.num) (hb : In64 x.b.reg ∧ In64 x.b.num) (hs : SlR w 2 ArgR va x.args) (hl : x.args.length ≤ 1000000) :
    Calls Tryd.prog 30 #[insV x va] w (ArgsN w va (readsD x)) := by
  unfold readsD
  have HS := Lib.hid hs
  obtain ⟨o1, o2⟩ := hop
  by_cases k1 : x.op = 28
  · rw [if_pos k1]
    clear hs o1 o2
    go_enter Tryd.func30, Tryd.ntmps30
    go_wp2
    go_returns
    exact ⟨_, rfl, HS.out.later (by decide) (below_alloc _ (Below.refl _ _)), below_alloc _ (Below.refl _ _), Or.inl rfl⟩
  rw [if_neg k1]
  have b1 : (x.op == 28) = false := by simpa using k1
  by_cases k2 : x.op = 29
  · rw [if_pos k2]
    clear b1 k1 o1 o2
    obtain ⟨v', w', hr, g1, g2, how⟩ := append_args_own ((w.alloc (.cells #[.int .i64 x.op, .int .i64 x.dst, .int .i64 x.a.reg, .int .i64 x.a.num, .int .i64 x.b.reg, .int .i64 x.b.num, .int .i64 x.size, .bool x.signed, .bool x.secret, .int .i64 x.ref, .int .i64 x.off, va] 74)).alloc (.cells #[.int .i64 x.a.reg, .int .i64 x.a.num] 52))
      x.a ha (w.heap.size + 1) (by have := blk_new (w.alloc (.cells #[.int .i64 x.op, .int .i64 x.dst, .int .i64 x.a.reg, .int .i64 x.a.num, .int .i64 x.b.reg, .int .i64 x.b.num, .int .i64 x.size, .bool x.signed, .bool x.secret, .int .i64 x.ref, .int .i64 x.off, va] 74)) (.cells #[.int .i64 x.a.reg, .int .i64 x.a.num] 52); simpa using this)
      va x.args (hs.later (by decide) (below_alloc _ (below_alloc _ (Below.refl _ _)))) hl
    rw [k2] at hr
    have HG := Lib.hid g1
    have HOW := Lib.hid how
    have HB := Lib.hid (show Below w.heap.size w w' from ⟨g2.os, g2.tape, g2.output, by have := g2.size; simp at this; omega, fun k hk => (g2.block k (by simp; omega) (by intro e; have := Option.some.inj e; omega)).trans ((below_alloc _ (below_alloc _ (Below.refl _ _))).block k hk)⟩)
    clear g1 g2 hs how
    go_enter Tryd.func30, Tryd.ntmps30
    go_wp2_with (at_builtin; refine wpList_append_run' _ rfl _ _ _ rfl _ _ _ _ rfl rfl hr ?_)
    go_returns
    exact ⟨_, rfl, HG.out, HB.out, Or.inr HOW.out⟩
  rw [if_neg k2]
  have b2 : (x.op == 29) = false := by simpa using k2
  have HT := Lib.hid (fun w => two_any w x.op ⟨o1, o2⟩)
  clear hs
  by_cases k3 : 3 ≤ x.op ∧ x.op ≤ 21
  · rw [if_pos (Or.inl k3)]
    rw [decide_eq_true k3] at HT
    clear k1 k2 k3 o1 o2
    go_enter Tryd.func30, Tryd.ntmps30
    go_wp2_with (go_at_call 61; refine (HT.out _).mono ?_; rintro e w' ⟨rfl, rfl⟩)
    go_returns
    exact ⟨_, rfl, two_lit _ _ x.a x.b _ (by simp) ha hb, below_alloc _ (below_alloc _ (Below.refl _ _)), Or.inr (lit_arg _ _ _ 2 (by simp) rfl (by decide))⟩
  rw [decide_eq_false k3] at HT
  by_cases k4 : x.op = 27
  · rw [if_pos (Or.inr k4)]
    rw [k4] at HT
    clear k1 k2 k3 o1 o2 b1 b2
    go_enter Tryd.func30, Tryd.ntmps30
    go_wp2_with (go_at_call 61; refine (HT.out _).mono ?_; rintro e w' ⟨rfl, rfl⟩)
    go_returns
    exact ⟨_, rfl, two_lit _ _ x.a x.b _ (by simp) ha hb, below_alloc _ (below_alloc _ (Below.refl _ _)), Or.inr (lit_arg _ _ _ 2 (by simp) rfl (by decide))⟩
  rw [if_neg (by intro h; rcases h with h | h; exact k3 h; exact k4 h)]
  have b4 : (x.op == 27) = false := by simpa using k4
  have hf : ∀ w', w' = (w.alloc (.cells #[.int .i64 x.op, .int .i64 x.dst, .int .i64 x.a.reg, .int .i64 x.a.num, .int .i64 x.b.reg, .int .i64 x.b.num, .int .i64 x.size, .bool x.signed, .bool x.secret, .int .i64 x.ref, .int .i64 x.off, va] 74)) → Below w.heap.size w w' := by
    rintro w' rfl; exact below_alloc _ (Below.refl _ _)
  clear hf
  by_cases k5 : x.op = 23
  · rw [if_pos (Or.inl k5)]
    rw [k5] at HT
    clear k1 k2 k3 k4 o1 o2 b1 b2 b4
    go_enter Tryd.func30, Tryd.ntmps30
    go_wp2_with (go_at_call 61; refine (HT.out _).mono ?_; rintro e w' ⟨rfl, rfl⟩)
    go_returns
    exact ⟨_, rfl, nil_lit _ _ _, below_alloc _ (Below.refl _ _), Or.inr ⟨0, 0, [], World.ownsRow_nil _ _ _ _⟩⟩
  have b5 : (x.op == 23) = false := by simpa using k5
  by_cases k6 : x.op = 24
  · rw [if_pos (Or.inr (Or.inl k6))]
    rw [k6] at HT
    clear k1 k2 k3 k4 k5 o1 o2 b1 b2 b4 b5
    go_enter Tryd.func30, Tryd.ntmps30
    go_wp2_with (go_at_call 61; refine (HT.out _).mono ?_; rintro e w' ⟨rfl, rfl⟩)
    go_returns
    exact ⟨_, rfl, nil_lit _ _ _, below_alloc _ (Below.refl _ _), Or.inr ⟨0, 0, [], World.ownsRow_nil _ _ _ _⟩⟩
  have b6 : (x.op == 24) = false := by simpa using k6
  by_cases k7 : x.op = 25
  · rw [if_pos (Or.inr (Or.inr k7))]
    rw [k7] at HT
    clear k1 k2 k3 k4 k5 k6 o1 o2 b1 b2 b4 b5 b6
    go_enter Tryd.func30, Tryd.ntmps30
    go_wp2_with (go_at_call 61; refine (HT.out _).mono ?_; rintro e w' ⟨rfl, rfl⟩)
    go_returns
    exact ⟨_, rfl, nil_lit _ _ _, below_alloc _ (Below.refl _ _), Or.inr ⟨0, 0, [], World.ownsRow_nil _ _ _ _⟩⟩
  rw [if_neg (by intro h; rcases h with h | h | h; exact k5 h; exact k6 h; exact k7 h)]
  have b7 : (x.op == 25) = false := by simpa using k7
  clear k1 k2 k3 k4 k5 k6 k7 o1 o2
  go_enter Tryd.func30, Tryd.ntmps30
  go_wp2_with (go_at_call 61; refine (HT.out _).mono ?_; rintro e w' ⟨rfl, rfl⟩)
  go_returns
  exact ⟨_, rfl, one_lit _ _ x.a _ (by simp) ha, below_alloc _ (below_alloc _ (Below.refl _ _)), Or.inr (lit_arg _ _ _ 1 (by simp) rfl (by decide))⟩
end Go.Proofs.YtbogcompeefoaaaDoor
namespace Go.Proofs.YtbogcompeefoaaaDoor
open Go.RowKit
set_option linter.unusedVariables false
set_option maxHeartbeats 2000000
def SomeB (w : World) (e : Ending) (w' : World) : Prop := ∃ b : Bool, e = .returned (.bool b) ∧ Below w.heap.size w w'
theorem someB {w w' : World} (b : Bool) (h : Below w.heap.size w w') : SomeB w (.returned (.bool b)) w' := ⟨b, rfl, h⟩
set_option maxRecDepth 100000 in
theorem placed_any (W0 w : World) (h0 : Below W0.heap.size W0 w) (pb : Nat) (g : GlobD) (vp : Value) (data : Int) (vf : Value) (fs : List FuncD) (c0 : w.cell? ⟨pb, 0, none⟩ = some vf) (c2 : w.cell? ⟨pb, 2, none⟩ = some (.int .i64 data)) (hd : In64 data)
    (hf : SlR W0 6 (FuncR W0) vf fs) (hat : In64 g.at_) (hsz : In64 g.size) (hp : SlR W0 3 (PartR W0) vp g.parts) (hpl : g.parts.length ≤ 140737488351232) :
    Calls Tryd.prog 17 #[.pointer (some ⟨pb, 0, none⟩), .agg #[.string g.name, .int .i64 g.at_, .int .i64 g.size, vp]] w (SomeB w) := by
  obtain ⟨A, cap, rfl, l1, l2, l3⟩ := hp
  obtain ⟨A2, cap2, rfl, m1, m2, _⟩ := hf
  have hln : fs.length ≤ 9223372036854775807 := by unfold maxLen at m2; omega
  have HL := Lib.hid l3
  have H0 := Lib.hid h0
  obtain ⟨q1, q2⟩ := hat
  obtain ⟨q3, q4⟩ := hsz
  obtain ⟨q5, q6⟩ := hd
  have K0 := Lib.hid c0
  have b0 := World.block_lt_of_cell? _ _ c0
  have hcase : (decide (g.at_ < 0) = true) ∨ (decide (g.at_ < 0) = false ∧ decide (g.size < 0) = true) ∨ (decide (g.at_ < 0) = false ∧ decide (g.size < 0) = false ∧ decide (data < g.size) = true) ∨
      (0 ≤ g.size ∧ g.size ≤ data ∧ decide (g.at_ < 0) = false ∧ decide (g.size < 0) = false ∧ decide (data < g.size) = false ∧ decide (data - g.size < g.at_) = true) ∨ (0 ≤ g.size ∧ g.size ≤ data ∧ decide (g.at_ < 0) = false ∧ decide (g.size < 0) = false ∧ decide (data < g.size) = false ∧ decide (data - g.size < g.at_) = false) := by
    by_cases h1 : g.at_ < 0
    · exact Or.inl (decide_eq_true h1)
    · by_cases h2 : g.size < 0
      · exact Or.inr (Or.inl ⟨decide_eq_false h1, decide_eq_true h2⟩)
      · by_cases h3 : data < g.size
        · exact Or.inr (Or.inr (Or.inl ⟨decide_eq_false h1, decide_eq_false h2, decide_eq_true h3⟩))
        · by_cases h4 : data - g.size < g.at_
          · exact Or.inr (Or.inr (Or.inr (Or.inl ⟨by omega, by omega, decide_eq_false h1, decide_eq_false h2, decide_eq_false h3, decide_eq_true h4⟩)))
          · exact Or.inr (Or.inr (Or.inr (Or.inr ⟨by omega, by omega, decide_eq_false h1, decide_eq_false h2, decide_eq_false h3, decide_eq_false h4⟩)))
  clear l3 h0 l1 m1
  rcases hcase with d1 | ⟨d1, d2⟩ | ⟨d1, d2, d3⟩ | ⟨s1, s2, d1, d2, d3, d4⟩ | ⟨s1, s2, d1, d2, d3, d4⟩
  · go_enter Tryd.func17, Tryd.ntmps17
    go_wp2_with fail
    go_quiet (fail)
    go_wp2_with fail
    go_returns
    exact someB _ (below_drewN (below_alloc _ (Below.refl _ _)) _)
  · go_enter Tryd.func17, Tryd.ntmps17
    go_wp2_with fail
    go_quiet (fail)
    go_wp2_with fail
    go_returns
    exact someB _ (below_drewN (below_alloc _ (Below.refl _ _)) _)
  · go_enter Tryd.func17, Tryd.ntmps17
    go_wp2_with fail
    go_quiet (fail)
    go_wp2_with fail
    go_returns
    exact someB _ (below_drewN (below_alloc _ (Below.refl _ _)) _)
  · have hw := IntWalk.i64_in (data - g.size) (by omega)
    go_enter Tryd.func17, Tryd.ntmps17
    go_wp2_with fail
    go_quiet (fail)
    go_wp2_with fail
    go_returns
    exact someB _ (below_drewN (below_alloc _ (Below.refl _ _)) _)
  · have hw := IntWalk.i64_in (data - g.size) (by omega)
    go_enter Tryd.func17, Tryd.ntmps17
    go_wp2_with fail
    go_quiet (fail)
    clear hw
    obtain ⟨n, hn⟩ : ∃ n, n = g.parts.length := ⟨_, rfl⟩
    rw [← hn] at hpl ⊢
    have HN := Lib.hid hn
    clear hn
    go_wp2_with fail
    go_loopw [5, 43] (fun l i wr => ∃ (k : Nat) (x : Int), k ≤ n ∧ i = .int .i64 k ∧ l = .int .i64 x ∧ Below w.heap.size w wr) (fun _ i _ => n - (intOf i).toNat)
    case atStart => exact ⟨0, g.size, by omega, rfl, rfl, below_drewN (below_alloc _ (Below.refl _ _)) _⟩
    case round =>
      obtain ⟨k, x, hk, rfl, rfl, hb⟩ := hrel
      have HB := Lib.hid hb
      have k0 := later K0.out hb
      have b1 := World.block_lt_of_cell? _ _ k0
      clear hb
      by_cases hlt : k < n
      · obtain ⟨y, hy⟩ : ∃ y, g.parts[k]? = some y := ⟨_, List.getElem?_eq_getElem (by rw [← HN.out]; exact hlt)⟩
        obtain ⟨lb, lo, cs, rfl, e1, e2, vd, e3, n1, n2, n3, n4⟩ := HL.out k y hy
        subst e3
        have HB0 := Lib.hid (H0.out.trans (HB.out.mono H0.out.size))
        have r0 := later (e2 0 (by omega)) HB0.out
        have r1 := later (e2 1 (by omega)) HB0.out
        have r2 := later (e2 2 (by omega)) HB0.out
        rw [Nat.add_zero] at r0
        obtain ⟨A3, cap3, rfl, z1, z2, _⟩ := n2
        have hdl : y.data.length ≤ 9223372036854775807 := by omega
        clear e1 e2 hy
        go_wp2_with fail
        all_goals first
          | (go_returns; exact someB _ (below_alloc _ HB.out))
          | (go_roundw
             case rel => exact ⟨k + 1, _, by omega, by go_num, rfl, below_alloc _ HB.out⟩
             case measure => simp [intOf]; omega)
      · have e : k = n := by omega
        subst e
        go_wp2_with fail
        go_returns
        exact someB _ HB.out
end Go.Proofs.YtbogcompeefoaaaDoor
namespace Go.Proofs.YtbogcompeefoaaaDoor
set_option linter.unusedVariables false
/-- is r live ahead of number i of a block, if it is (f) at the block's end -/
def ptB (k : BlockD) (i : Nat) (f : Bool) (r : Nat) : Bool := backsB (useB f (readsT k.term) r) (k.ins.drop i) r
theorem ptB_zero (k : BlockD) (f : Bool) (r : Nat) : ptB k 0 f r = transB k f r := rfl
theorem ptB_step {k : BlockD} {i : Nat} {x : InsD} (h : k.ins[i]? = some x) (f : Bool) (r : Nat) : ptB k i f r = backB (ptB k (i + 1) f r) x r := by
  have hi : i < k.ins.length := (List.getElem?_eq_some_iff.1 h).1
  rw [List.getElem?_eq_getElem hi] at h
  unfold ptB
  rw [List.drop_eq_getElem_cons hi, Option.some.inj h]
  rfl
theorem ptB_end (k : BlockD) (f : Bool) (r : Nat) : ptB k k.ins.length f r = useB f (readsT k.term) r := by unfold ptB; rw [List.drop_length]; rfl
def readB (as_ : List ArgD) (r : Nat) : Bool := as_.any fun a => decide (a.reg = (r : Int))
theorem ptB_read {k : BlockD} {i : Nat} {x : InsD} (h : k.ins[i]? = some x) {r : Nat} (hr : readB (readsD x) r = true) (f : Bool) : ptB k i f r = true := by
  rw [ptB_step h]; unfold backB useB; unfold readB at hr; rw [hr]; simp
theorem ptB_kill {k : BlockD} {i : Nat} {x : InsD} (h : k.ins[i]? = some x) {r : Nat} (hr : readB (readsD x) r = false) (hd : x.dst = (r : Int)) (f : Bool) : ptB k i f r = false := by
  rw [ptB_step h]; unfold backB useB; unfold readB at hr; rw [hr, decide_eq_true hd]; simp
theorem ptB_pass {k : BlockD} {i : Nat} {x : InsD} (h : k.ins[i]? = some x) {r : Nat} (hr : readB (readsD x) r = false) (hd : x.dst ≠ (r : Int)) (f : Bool) : ptB k i f r = ptB k (i + 1) f r := by
  rw [ptB_step h]; unfold backB useB; unfold readB at hr; rw [hr, decide_eq_false hd]; simp
theorem readB_take {as_ : List ArgD} {j : Nat} {a : ArgD} (h : as_[j]? = some a) (r : Nat) : readB (as_.take (j + 1)) r = (readB (as_.take j) r || decide (a.reg = (r : Int))) := by
  unfold readB; rw [List.take_add_one, h]; simp
theorem readB_yes {as_ : List ArgD} {j : Nat} {a : ArgD} (h : as_[j]? = some a) {r : Nat} (e : a.reg = (r : Int)) : readB as_ r = true := by
  unfold readB; rw [List.any_eq_true]; exact ⟨a, List.mem_of_getElem? h, decide_eq_true e⟩
section
variable {blk : Nat → BlockD} {nx : Nat → List Int} {n r : Nat}
def LivePt (blk : Nat → BlockD) (nx : Nat → List Int) (n r b i : Nat) : Prop := ptB (blk b) i false r = true ∨ (ptB (blk b) i true r = true ∧ ∃ k : Nat, (k : Int) ∈ nx b ∧ LiveAt blk nx n r k)
/-- from here no way that is not in S leads on -/
def ShutPt (blk : Nat → BlockD) (nx : Nat → List Int) (r b i : Nat) (S : List Bool) : Prop := ptB (blk b) i false r = false ∧ (ptB (blk b) i true r = true → ∀ k : Nat, (k : Int) ∈ nx b → S[k]? = some true)
def More (S S' : List Bool) : Prop := ∀ k : Nat, S[k]? = some true → S'[k]? = some true
theorem ShutPt.mono {b i : Nat} {S S' : List Bool} (h : ShutPt blk nx r b i S) (hm : More S S') : ShutPt blk nx r b i S' := ⟨h.1, fun ht k hk => hm k (h.2 ht k hk)⟩
theorem LiveAt.pt {b : Nat} (hb : b < n) (h : LivePt blk nx n r b 0) : LiveAt blk nx n r b := by
  rcases h with h | ⟨h, k, hk, hl⟩
  · exact .here hb h
  · exact .on hb h hk hl
theorem LivePt.at_ {b : Nat} (h : LiveAt blk nx n r b) : LivePt blk nx n r b 0 := by
  cases h with
  | here hb h => exact Or.inl h
  | on hb h hk hl => exact Or.inr ⟨h, _, hk, hl⟩
/-- what has been gone through since S -/
def New (blk : Nat → BlockD) (nx : Nat → List Int) (r : Nat) (S S' : List Bool) : Prop := ∀ k : Nat, S'[k]? = some true → S[k]? ≠ some true → ShutPt blk nx r k 0 S'
theorem shut_top {S : List Bool} (h : ∀ k : Nat, S[k]? = some true → ShutPt blk nx r k 0 S) : ∀ k, LiveAt blk nx n r k → S[k]? = some true → False := by
  intro k hl
  induction hl with
  | here hb ht => intro hs; have := (h _ hs).1; rw [ptB_zero, ht] at this; cases this
  | on hb ht hk _ ih => intro hs; exact ih ((h _ hs).2 ht _ hk)
theorem top_no {S S' : List Bool} {b i : Nat} (h0 : ∀ k : Nat, S[k]? ≠ some true) (hn : New blk nx r S S') (hs : ShutPt blk nx r b i S') : ¬ LivePt blk nx n r b i := by
  have ht := shut_top (n := n) (fun k hk => hn k hk (h0 k))
  rintro (h | ⟨h, k, hk, hl⟩)
  · rw [hs.1] at h; cases h
  · exact ht k hl (hs.2 h k hk)
theorem More.set {S : List Bool} {k : Nat} : More S (S.set k true) := fun j hj => by
  by_cases e : k = j
  · subst e; rw [List.getElem?_set_self (List.getElem?_eq_some_iff.1 hj).1]
  · rw [List.getElem?_set_ne e]; exact hj
theorem More.refl (S : List Bool) : More S S := fun _ h => h
theorem More.trans {S S' S'' : List Bool} (h : More S S') (k : More S' S'') : More S S'' := fun j hj => k j (h j hj)
/-- a block is gone into, nothing is found -/
theorem New.step {S S1 S2 : List Bool} {k : Nat} (h : New blk nx r S S1) (hm : More (S1.set k true) S2) (h2 : New blk nx r (S1.set k true) S2) (hs : ShutPt blk nx r k 0 S2) : New blk nx r S S2 := fun j hj hno => by
  by_cases e : j = k
  · subst e; exact hs
  · by_cases h1 : S1[j]? = some true
    · exact (h j h1 hno).mono (More.trans More.set hm)
    · refine h2 j hj ?_
      rw [List.getElem?_set_ne (Ne.symm e)]; exact h1
def beenB (S : List Bool) (k : Nat) : Bool := S.getD k false
theorem cnt_been {S : List Bool} {k n : Nat} (hl : S.length = n) (hk : k < n) (h : S[k]? = some false) : cnt (beenB S) n < cnt (beenB (S.set k true)) n := by
  refine cnt_lt n (fun i _ hi => ?_) ⟨k, hk, ?_, ?_⟩
  · unfold beenB at *
    rw [List.getD_eq_getElem?_getD] at *
    by_cases e : k = i
    · subst e; rw [List.getElem?_set_self (by omega)]; rfl
    · rw [List.getElem?_set_ne e]; exact hi
  · unfold beenB; rw [List.getD_eq_getElem?_getD, List.getElem?_set_self (by omega)]; rfl
  · unfold beenB; rw [List.getD_eq_getElem?_getD, h]; rfl
theorem cnt_more {S S' : List Bool} {n : Nat} (h : More S S') : cnt (beenB S) n ≤ cnt (beenB S') n :=
  cnt_mono n fun i _ hi => by
    unfold beenB at *
    rw [List.getD_eq_getElem?_getD] at *
    cases e : S[i]? with
    | none => rw [e] at hi; cases hi
    | some x =>
      rw [e] at hi
      have : x = true := hi
      subst this
      rw [h i e]; rfl
end
end Go.Proofs.YtbogcompeefoaaaDoor
namespace Go.Proofs.YtbogcompeefoaaaDoor
set_option linter.unusedVariables false
/-- live behind an instruction, and not what it writes, nor what it copies -/
def evB (S : Nat → Bool) (x : InsD) (r : Nat) : Bool := S r && !decide (x.dst = (r : Int)) && !(decide (x.op = 2) && decide (x.a.reg = (r : Int)))
/-- the first m registers gone through -/
def insEk (m : Nat) (S : Nat → Bool) (x : InsD) (E : Nat → Nat → Bool) (a b : Nat) : Bool :=
  E a b || (decide (x.dst = (a : Int)) && decide (b < m) && evB S x b) || (decide (x.dst = (b : Int)) && decide (a < m) && evB S x a)
def callB (x : InsD) : Bool := decide (x.op = 28) || decide (x.op = 29)
def insM (S : Nat → Bool) (x : InsD) (M : Nat → Bool) (r : Nat) : Bool := M r || (callB x && (S r && !decide (x.dst = (r : Int))))
def backF (S : Nat → Bool) (x : InsD) (r : Nat) : Bool := backB (S r) x r
def useF (S : Nat → Bool) (al : List ArgD) (r : Nat) : Bool := useB (S r) al r
/-- .. over instructions, from the last one on -/
def bsS (S : Nat → Bool) : List InsD → Nat → Bool
  | [] => S
  | x :: xs => backF (bsS S xs) x
def bsE (R : Nat) (S : Nat → Bool) (E : Nat → Nat → Bool) : List InsD → Nat → Nat → Bool
  | [] => E
  | x :: xs => insEk R (bsS S xs) x (bsE R S E xs)
def bsM (S : Nat → Bool) (M : Nat → Bool) : List InsD → Nat → Bool
  | [] => M
  | x :: xs => insM (bsS S xs) x (bsM S M xs)
def addU (us : List Int) (r : Int) : List Int := if 0 ≤ r then us.set r.toNat (us.getD r.toNat 0 + 1) else us
def readU (us : List Int) (al : List ArgD) : List Int := al.foldl (fun u a => addU u a.reg) us
def insU (us : List Int) (x : InsD) : List Int := readU (addU us x.dst) (readsD x)
def bsU (us : List Int) : List InsD → List Int
  | [] => us
  | x :: xs => insU (bsU us xs) x
def isCp (x : InsD) : Bool := decide (0 ≤ x.dst) && decide (x.op = 2) && decide (0 ≤ x.a.reg) && !decide (x.a.reg = x.dst)
def insC (cp : List (Int × Int)) (x : InsD) : List (Int × Int) := if isCp x then cp ++ [(x.dst, x.a.reg)] else cp
def bsC (cp : List (Int × Int)) : List InsD → List (Int × Int)
  | [] => cp
  | x :: xs => insC (bsC cp xs) x
theorem bsS_backs (S : Nat → Bool) (r : Nat) : ∀ xs, bsS S xs r = backsB (S r) xs r
  | [] => rfl
  | x :: xs => by show backB (bsS S xs r) x r = backB (backsB (S r) xs r) x r; rw [bsS_backs S r xs]
theorem drop_cons {l : List InsD} {q : Nat} {x : InsD} (h : l[q]? = some x) : l.drop q = x :: l.drop (q + 1) := by
  have hq := (List.getElem?_eq_some_iff.1 h).1
  rw [List.drop_eq_getElem_cons hq, (List.getElem?_eq_some_iff.1 h).2]
/-! ### over the blocks -/
section
variable (R : Nat) (blk : Nat → BlockD) (O : Nat → Nat → Bool)
/-- live behind the last instruction of block i -/
def endS (i : Nat) : Nat → Bool := useF (O i) (readsT (blk i).term)
def blE : Nat → Nat → Nat → Bool
  | 0 => fun _ _ => false
  | i + 1 => bsE R (endS blk O i) (blE i) (blk i).ins
def blM : Nat → Nat → Bool
  | 0 => fun _ => false
  | i + 1 => bsM (endS blk O i) (blM i) (blk i).ins
def blU : Nat → List Int
  | 0 => List.replicate R 0
  | i + 1 => bsU (readU (blU i) (readsT (blk i).term)) (blk i).ins
def blC : Nat → List (Int × Int)
  | 0 => []
  | i + 1 => bsC (blC i) (blk i).ins
end
/-- parameters that are there at once: the first ones up to a, of a the first ones up to b -/
def parE (I : Nat → Bool) (E : Nat → Nat → Bool) (a b x y : Nat) : Bool :=
  E x y || ((I x || I y) && !decide (x = y) && ((decide (x < a) && decide (y < a)) || (decide (x = a) && decide (y < b)) || (decide (y = a) && decide (x < b))))
/-! ### how often -/
def one (p : Prop) [Decidable p] : Int := if p then 1 else 0
theorem addU_length (us : List Int) (r : Int) : (addU us r).length = us.length := by unfold addU; split <;> simp
theorem readU_length (al : List ArgD) : ∀ us : List Int, (readU us al).length = us.length := by
  induction al with
  | nil => intro us; rfl
  | cons a al ih => intro us; show (readU (addU us a.reg) al).length = _; rw [ih, addU_length]
theorem insU_length (us : List Int) (x : InsD) : (insU us x).length = us.length := by unfold insU; rw [readU_length, addU_length]
theorem bsU_length (us : List Int) : ∀ xs, (bsU us xs).length = us.length
  | [] => rfl
  | x :: xs => by show (insU (bsU us xs) x).length = _; rw [insU_length, bsU_length us xs]
theorem addU_at (us : List Int) (r : Int) (k : Nat) (hk : k < us.length) : (addU us r).getD k 0 = us.getD k 0 + one (r = (k : Int)) := by
  unfold addU one
  by_cases h : 0 ≤ r
  · rw [if_pos h, List.getD_eq_getElem?_getD, List.getD_eq_getElem?_getD, List.getD_eq_getElem?_getD, List.getElem?_set]
    by_cases e : r.toNat = k
    · subst e
      rw [if_pos rfl, if_pos hk, if_pos (by omega)]; rfl
    · rw [if_neg e, if_neg (by omega)]; simp
  · rw [if_neg h, if_neg (by omega)]; simp
def readsN (al : List ArgD) (k : Nat) : Int := (al.map fun a => one (a.reg = (k : Int))).sum
theorem readU_at (al : List ArgD) (k : Nat) : ∀ us : List Int, k < us.length → (readU us al).getD k 0 = us.getD k 0 + readsN al k := by
  induction al with
  | nil => intro us _; simp [readU, readsN]
  | cons a al ih =>
    intro us hk
    show (readU (addU us a.reg) al).getD k 0 = _
    rw [ih _ (by rw [addU_length]; exact hk), addU_at _ _ _ hk]
    unfold readsN
    rw [List.map_cons, List.sum_cons]
    omega
def insN (x : InsD) (k : Nat) : Int := one (x.dst = (k : Int)) + readsN (readsD x) k
theorem insU_at (us : List Int) (x : InsD) (k : Nat) (hk : k < us.length) : (insU us x).getD k 0 = us.getD k 0 + insN x k := by
  unfold insU insN
  rw [readU_at _ _ _ (by rw [addU_length]; exact hk), addU_at _ _ _ hk]
  omega
def bsN (xs : List InsD) (k : Nat) : Int := (xs.map fun x => insN x k).sum
theorem bsU_at (us : List Int) (k : Nat) (hk : k < us.length) : ∀ xs, (bsU us xs).getD k 0 = us.getD k 0 + bsN xs k
  | [] => by simp [bsU, bsN]
  | x :: xs => by
    show (insU (bsU us xs) x).getD k 0 = _
    rw [insU_at _ _ _ (by rw [bsU_length]; exact hk), bsU_at us k hk xs]
    unfold bsN
    rw [List.map_cons, List.sum_cons]
    omega
theorem readsN_nonneg (al : List ArgD) (k : Nat) : 0 ≤ readsN al k ∧ readsN al k ≤ al.length := by
  unfold readsN
  induction al with
  | nil => simp
  | cons a al ih =>
    rw [List.map_cons, List.sum_cons, List.length_cons]
    unfold one at *
    split <;> omega
theorem readU_take (us : List Int) {al : List ArgD} {k : Nat} {a : ArgD} (h : al[k]? = some a) : readU us (al.take (k + 1)) = addU (readU us (al.take k)) a.reg := by
  unfold readU
  rw [List.take_add_one, h]
  simp
theorem useF_take (S : Nat → Bool) {al : List ArgD} {k : Nat} {a : ArgD} (h : al[k]? = some a) : useF S (al.take (k + 1)) = fun r => useF S (al.take k) r || decide (a.reg = (r : Int)) := by
  funext r
  unfold useF useB
  rw [List.take_add_one, h]
  simp [Bool.or_assoc]
/-- which one is copied: -1: none -/
def cpd (x : InsD) : Int := if x.op = 2 then x.a.reg else -1
theorem evB_cpd (S : Nat → Bool) (x : InsD) (r : Nat) : evB S x r = (S r && !decide (x.dst = (r : Int)) && !decide (cpd x = (r : Int))) := by
  unfold evB cpd
  by_cases h : x.op = 2
  · rw [if_pos h, decide_eq_true h]; simp
  · rw [if_neg h, decide_eq_false h, decide_eq_false (show ¬ ((-1 : Int) = (r : Int)) by omega)]; simp
theorem insEk_zero (S : Nat → Bool) (x : InsD) (E : Nat → Nat → Bool) (a b : Nat) : insEk 0 S x E a b = E a b := by unfold insEk; simp
theorem lt_succ_dec (b k : Nat) : decide (b < k + 1) = (decide (b < k) || decide (b = k)) := by
  rw [Bool.eq_iff_iff]; simp; omega
theorem insEk_no (k : Nat) (S : Nat → Bool) (x : InsD) (E : Nat → Nat → Bool) (h : evB S x k = false) (a b : Nat) : insEk (k + 1) S x E a b = insEk k S x E a b := by
  unfold insEk
  rw [lt_succ_dec, lt_succ_dec]
  by_cases e1 : b = k
  · subst e1
    by_cases e2 : a = b
    · subst e2; rw [h]; simp
    · rw [h]; simp [e2]
  · by_cases e2 : a = k
    · subst e2; rw [h]; simp [e1]
    · simp [e1, e2]
def edgeE (E : Nat → Nat → Bool) (a b x y : Nat) : Bool := E x y || (!decide (a = b) && ((decide (x = a) && decide (y = b)) || (decide (x = b) && decide (y = a))))
theorem insEk_yes (k d : Nat) (S : Nat → Bool) (x : InsD) (E : Nat → Nat → Bool) (hd : x.dst = (d : Int)) (h1 : S k = true) (h2 : cpd x ≠ (k : Int)) (a b : Nat) : edgeE (insEk k S x E) d k a b = insEk (k + 1) S x E a b := by
  have ec : decide (cpd x = (k : Int)) = false := decide_eq_false h2
  have ei : ∀ u v : Nat, decide ((u : Int) = (v : Int)) = decide (u = v) := fun u v => by rw [decide_eq_decide]; omega
  unfold edgeE insEk
  rw [lt_succ_dec, lt_succ_dec]
  rw [hd, ei, ei]
  by_cases e1 : b = k
  · subst e1
    rw [evB_cpd S x b, h1, ec, hd, ei]
    by_cases e2 : a = b
    · subst e2
      rw [evB_cpd S x a, h1, ec, hd, ei]
      by_cases e3 : a = d
      · subst e3; simp
      · simp [e3, Ne.symm e3]
    · by_cases e3 : d = a
      · subst e3
        simp [e2]
      · by_cases e4 : d = b
        · subst e4; simp [e2, Ne.symm e2]
        · simp [e2, e3, e4, Ne.symm e3, Ne.symm e4]
  · by_cases e2 : a = k
    · subst e2
      rw [evB_cpd S x a, h1, ec, hd, ei]
      by_cases e3 : d = b
      · subst e3
        simp [e1, Ne.symm e1]
      · by_cases e4 : d = a
        · subst e4; simp [e1]
        · simp [e1, e3, e4, Ne.symm e3, Ne.symm e4]
    · simp [e1, e2]
/-! ### bounds -/
def Ub (us : List Int) (c : Int) : Prop := ∀ x ∈ us, 0 ≤ x ∧ x ≤ c
theorem Ub.mono {us : List Int} {c d : Int} (h : Ub us c) (hd : c ≤ d) : Ub us d := fun x hx => ⟨(h x hx).1, by have := (h x hx).2; omega⟩
theorem Ub.add {us : List Int} {c : Int} (h : Ub us c) (r : Int) (hc : 0 ≤ c) : Ub (addU us r) (c + 1) := by
  unfold addU
  split
  · intro x hx
    rcases List.mem_or_eq_of_mem_set hx with h1 | h1
    · have := h x h1; omega
    · subst h1
      have : us.getD r.toNat 0 = 0 ∨ us.getD r.toNat 0 ∈ us := by
        rw [List.getD_eq_getElem?_getD]
        cases e : us[r.toNat]? with
        | none => exact Or.inl rfl
        | some y => exact Or.inr (List.mem_of_getElem? e)
      rcases this with e | e
      · rw [e]; omega
      · have := h _ e; omega
  · exact h.mono (by omega)
theorem Ub.reads : ∀ (al : List ArgD) {us : List Int} {c : Int}, Ub us c → 0 ≤ c → Ub (readU us al) (c + al.length)
  | [], us, c, h, _ => by simpa [readU] using h
  | a :: al, us, c, h, hc => by
    have := Ub.reads al (h.add a.reg hc) (by omega)
    rw [List.length_cons]
    exact this.mono (by omega)
theorem Ub.ins {us : List Int} {c : Int} (h : Ub us c) (x : InsD) (hc : 0 ≤ c) (hl : x.args.length ≤ 1000000) : Ub (insU us x) (c + 1000003) := by
  have hlen : (readsD x).length ≤ 1000002 := by
    unfold readsD
    split
    · omega
    · split
      · simp; omega
      · split
        · simp
        · split <;> simp
  exact (Ub.reads _ (h.add x.dst hc) (by omega)).mono (by omega)
theorem insC_len (cp : List (Int × Int)) (x : InsD) : (insC cp x).length ≤ cp.length + 1 := by unfold insC; split <;> simp
theorem bsC_len (cp : List (Int × Int)) : ∀ xs, (bsC cp xs).length ≤ cp.length + xs.length
  | [] => Nat.le_refl _
  | x :: xs => by have := insC_len (bsC cp xs) x; have := bsC_len cp xs; show (insC (bsC cp xs) x).length ≤ _; rw [List.length_cons]; omega
/-! ### parameters -/
theorem parE_zero (I : Nat → Bool) (E : Nat → Nat → Bool) (x y : Nat) : parE I E 0 0 x y = E x y := by unfold parE; simp
theorem parE_next (I : Nat → Bool) (E : Nat → Nat → Bool) (a x y : Nat) : parE I E a a x y = parE I E (a + 1) 0 x y := by
  unfold parE
  rw [lt_succ_dec, lt_succ_dec]
  by_cases e : x = y
  · simp [e]
  · by_cases e1 : x = a
    · subst e1
      simp [Ne.symm e]
    · by_cases e2 : y = a
      · subst e2; simp [e1]
      · simp [e1, e2]
theorem parE_no (I : Nat → Bool) (E : Nat → Nat → Bool) (a b x y : Nat) (h : (I a || I b) = false) : parE I E a b x y = parE I E a (b + 1) x y := by
  rw [Bool.or_eq_false_iff] at h
  unfold parE
  rw [lt_succ_dec, lt_succ_dec]
  by_cases e1 : x = a
  · by_cases e2 : y = b
    · subst e1 e2; simp [h.1, h.2]
    · simp [e1, e2]
      by_cases e3 : a = b
      · subst e3; simp [e2]
      · simp [e3]
  · by_cases e2 : y = a
    · by_cases e3 : x = b
      · subst e2 e3; simp [h.1, h.2]
      · simp [e1, e2, e3]
    · simp [e1, e2]
theorem parE_yes (I : Nat → Bool) (E : Nat → Nat → Bool) (a b x y : Nat) (hab : b < a) (h : (I a || I b) = true) : edgeE (parE I E a b) a b x y = parE I E a (b + 1) x y := by
  have hne : a ≠ b := by omega
  unfold edgeE parE
  rw [lt_succ_dec, lt_succ_dec, decide_eq_false hne]
  by_cases e1 : x = a
  · by_cases e2 : y = b
    · subst e1 e2; simp [h, hne]
    · subst e1; simp [e2, hne]
  · by_cases e2 : y = a
    · by_cases e3 : x = b
      · subst e2 e3
        rw [Bool.or_comm] at h
        simp [h, Ne.symm hne]
      · subst e2; simp [e1, e3, hne, Ne.symm hne]
    · simp [e1, e2]
theorem Ub.zero (n : Nat) : Ub (List.replicate n 0) 0 := fun x hx => by rw [List.eq_of_mem_replicate hx]; omega
theorem Ub.at_ {us : List Int} {c : Int} (h : Ub us c) {k : Nat} {x : Int} (hk : us[k]? = some x) : 0 ≤ x ∧ x ≤ c := h x (List.mem_of_getElem? hk)
end Go.Proofs.YtbogcompeefoaaaDoor
namespace Go.Proofs.YtbogcompeefoaaaDoor
open Go.RowKit
set_option linter.unusedVariables false
/-- the labels of lines -/
def labs (l : List LineD) : List (List UInt8) := (l.map (·.label)).filter (fun s => !s.isEmpty)
theorem mem_labs {l : List LineD} {s : List UInt8} : s ∈ labs l ↔ s ≠ [] ∧ ∃ x ∈ l, x.label = s := by
  unfold labs
  rw [List.mem_filter, List.mem_map]
  constructor
  · rintro ⟨h1, h2⟩
    exact ⟨fun e => by subst e; simp at h2, h1⟩
  · rintro ⟨h1, h2⟩
    refine ⟨h2, ?_⟩
    cases s with
    | nil => exact absurd rfl h1
    | cons a r => rfl
theorem labs_snoc {ls : List LineD} {k : Nat} {l : LineD} (h : ls[k]? = some l) (hn : l.label ≠ []) : labs (ls.take (k + 1)) = labs (ls.take k) ++ [l.label] := by
  unfold labs
  rw [List.take_add_one, h, List.map_append, List.filter_append]
  congr 1
  cases hl : l.label with
  | nil => exact absurd hl hn
  | cons a r => simp [hl]
theorem labs_same {ls : List LineD} {k : Nat} {l : LineD} (h : ls[k]? = some l) (hn : l.label = []) : labs (ls.take (k + 1)) = labs (ls.take k) := by
  unfold labs
  rw [List.take_add_one, h, List.map_append, List.filter_append]
  simp [hn]
theorem Laid.fresh {nm : List UInt8} {num nb i : Nat} {ls : List LineD} (h : Laid nm num nb i ls) {k : Nat} {l : LineD} (hk : ls[k]? = some l) (hn : l.label ≠ []) : l.label ∉ labs (ls.take k) := by
  intro hm
  obtain ⟨_, x, hx, he⟩ := mem_labs.1 hm
  obtain ⟨j, hj⟩ := List.mem_iff_getElem?.1 hx
  have hjk := (List.getElem?_eq_some_iff.1 hj).1
  rw [List.length_take] at hjk
  rw [List.getElem?_take_of_lt (by omega)] at hj
  have := h.uniq j k x l hj hk (by rw [he]; exact hn) he
  omega
theorem Laid.dot {nm : List UInt8} {num nb i : Nat} {ls : List LineD} (h : Laid nm num nb i ls) {k : Nat} {l : LineD} (hk : ls[k]? = some l) (hn : l.label ≠ []) (h0 : 0 < k) : ∃ t, l.label = 46 :: 76 :: t := by
  rcases (h.lab k l hk hn).2 with ⟨e, _⟩ | ⟨_, b, _, e⟩
  · omega
  · rw [e]; exact ⟨_, rfl⟩
theorem Laid.goes {nm : List UInt8} {num nb : Nat} {ls : List LineD} (h : Laid nm num nb nb ls) {k : Nat} {l : LineD} (hk : ls[k]? = some l) (ho : l.op = 33 ∨ l.op = 34) : l.to_ ∈ labs ls := by
  have hn : l.label = [] := by
    by_cases e : l.label = []
    · exact e
    · have := (h.lab k l hk e).1
      omega
  obtain ⟨_, _, q⟩ := h.ins k l hk hn
  obtain ⟨b, hb, e⟩ := q ho
  rw [e]
  exact mem_labs.2 ⟨labB_ne _ _, h.has b hb⟩
theorem flat_at : ∀ (ls : List LineD) (j c : Nat) (l : LineD), ls[j]? = some l → c < 11 → (flatL ls)[j * 11 + c]? = (lineC l)[c]?
  | [], j, c, l, h, _ => by simp at h
  | x :: ls, 0, c, l, h, hc => by
    obtain rfl := Option.some.inj h
    rw [flatL, List.flatMap_cons, Nat.zero_mul, Nat.zero_add, List.getElem?_append_left (show c < (lineC x).length from hc)]
  | x :: ls, j + 1, c, l, h, hc => by
    have ih := flat_at ls j c l (by simpa using h) hc
    rw [flatL, List.flatMap_cons, List.getElem?_append_right (show (lineC x).length ≤ (j + 1) * 11 + c by show 11 ≤ _; omega), show (j + 1) * 11 + c - (lineC x).length = j * 11 + c by show _ - 11 = _; omega]
    exact ih
/-- lines in memory -/
def LinR (w : World) (g : Nat) (ls : List LineD) : Prop := ∀ (j : Nat) (l : LineD) (c : Nat) (v : Value), ls[j]? = some l → (lineC l)[c]? = some v → w.cell? ⟨g, j * 11 + c, none⟩ = some v
theorem linR_of {w : World} {B g c : Nat} {ls : List LineD} (h : w.ownsRow B 46 11 (.slice (some ⟨g, 0, none⟩) ls.length c) ls.length (flatL ls)) : LinR w g ls := by
  intro j l c v hj hv
  have hc : c < 11 := (List.getElem?_eq_some_iff.1 hv).1
  have hlt := (List.getElem?_eq_some_iff.1 hj).1
  rw [h.cellAt (j * 11 + c) (by omega), flat_at ls j c l hj hc, hv]
theorem LinR.later {w w' : World} {g : Nat} {ls : List LineD} (h : LinR w g ls) (hb : Below w.heap.size w w') : LinR w' g ls := fun j l c v h1 h2 => Go.Proofs.YtbogcompeefoaaaDoor.later (h j l c v h1 h2) hb
end Go.Proofs.YtbogcompeefoaaaDoor
