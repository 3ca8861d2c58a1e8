/- Lines of unlike instructions are unlike. No condition. -/
import Derived.Test.YtpkbkmppkgeklaaDoorShK
namespace Go.Proofs.YtpkbkmppkgeklaaDoor
open Go.RowKit
set_option linter.unusedVariables false
set_option linter.unusedSimpArgs false
set_option maxHeartbeats 8000000
set_option maxRecDepth 20000
theorem digit_val {a : Nat} (h : a < 10) : (UInt8.ofNat (48 + a)).toNat = 48 + a := by
  rw [UInt8.toNat_ofNat']; omega
def undec (l : List UInt8) : Nat := l.foldl (fun a c => a * 10 + (c.toNat - 48)) 0
theorem undec_dec : ∀ u : Nat, undec (Lib.decDigits u) = u := by
  intro u
  induction u using Nat.strongRecOn with
  | ind u ih =>
    rw [Lib.decDigits]
    split
    · rename_i h
      simp only [undec, List.foldl_cons, List.foldl_nil, digit_val h]; omega
    · rename_i h
      have := ih (u / 10) (by omega)
      unfold undec at this ⊢
      rw [List.foldl_append, this]
      simp only [List.foldl_cons, List.foldl_nil, digit_val (Nat.mod_lt u (by decide))]; omega
theorem dec_chars : ∀ (u : Nat), ∀ c ∈ Lib.decDigits u, 48 ≤ c.toNat ∧ c.toNat ≤ 57 := by
  intro u
  induction u using Nat.strongRecOn with
  | ind u ih =>
    intro c hc
    rw [Lib.decDigits] at hc
    split at hc
    · rename_i h
      simp only [List.mem_singleton] at hc
      subst hc
      rw [digit_val h]; omega
    · rename_i h
      rcases List.mem_append.1 hc with hc | hc
      · exact ih (u / 10) (by omega) c hc
      · simp only [List.mem_singleton] at hc
        subst hc
        rw [digit_val (Nat.mod_lt u (by decide))]; omega
theorem dec_full (u : Nat) : Lib.decDigits u ≠ [] := by
  rw [Lib.decDigits]; split <;> simp
theorem dec_inj {u v : Nat} (h : Lib.decDigits u = Lib.decDigits v) : u = v := by
  have := congrArg undec h
  rwa [undec_dec, undec_dec] at this
theorem itoa_chars (n : Int) : ∀ c ∈ Lib.itoa n, c.toNat = 45 ∨ (48 ≤ c.toNat ∧ c.toNat ≤ 57) := by
  intro c hc
  unfold Lib.itoa at hc
  split at hc
  · rcases List.mem_cons.1 hc with rfl | hc
    · exact Or.inl rfl
    · exact Or.inr (dec_chars _ c hc)
  · exact Or.inr (dec_chars _ c hc)
theorem itoa_full (n : Int) : Lib.itoa n ≠ [] := by
  unfold Lib.itoa
  split
  · simp
  · exact dec_full _
theorem itoa_inj {m n : Int} (h : Lib.itoa m = Lib.itoa n) : m = n := by
  have key : ∀ (a b : Nat), Lib.decDigits a ≠ 45 :: Lib.decDigits b := by
    intro a b e
    have := dec_chars a 45 (by rw [e]; exact List.mem_cons_self)
    exact absurd this (by decide)
  unfold Lib.itoa at h
  split at h <;> split at h
  · simp only [List.cons.injEq, true_and] at h
    have := dec_inj h; omega
  · exact absurd h.symm (key _ _)
  · exact absurd h (key _ _)
  · have := dec_inj h; omega
theorem sep_inj {x : UInt8} : ∀ {a b s t : List UInt8}, (∀ c ∈ a, c ≠ x) → (∀ c ∈ b, c ≠ x) → a ++ x :: s = b ++ x :: t → a = b ∧ s = t
  | [], [], s, t, _, _, h => by simpa using h
  | [], c :: b, s, t, _, hb, h => by simp at h; exact absurd h.1.symm (hb c List.mem_cons_self)
  | c :: a, [], s, t, ha, _, h => by simp at h; exact absurd h.1 (ha c List.mem_cons_self)
  | c :: a, d :: b, s, t, ha, hb, h => by
    simp only [List.cons_append, List.cons.injEq] at h
    obtain ⟨h1, h2⟩ := sep_inj (fun e he => ha e (List.mem_cons_of_mem _ he)) (fun e he => hb e (List.mem_cons_of_mem _ he)) h.2
    exact ⟨by rw [h.1, h1], h2⟩
theorem sep_no {x : UInt8} {a b t : List UInt8} (ha : ∀ c ∈ a, c ≠ x) (h : a = b ++ x :: t) : False := ha x (by rw [h]; simp) rfl
/-- a word and its operands zs a line -/
def uForm (W : List UInt8) : List (List UInt8) → List UInt8
  | [] => W
  | [a] => W ++ 32 :: a
  | a :: b :: _ => W ++ 32 :: (a ++ 44 :: 32 :: b)
def NoC (x : UInt8) (l : List UInt8) : Prop := ∀ c ∈ l, c ≠ x
theorem form_inj {W W' : List UInt8} {zs bs : List (List UInt8)} (hW : NoC 32 W) (hW' : NoC 32 W') (ha : ∀ a ∈ zs, NoC 44 a) (hb : ∀ b ∈ bs, NoC 44 b) (la : zs.length ≤ 2) (lb : bs.length ≤ 2) (h : uForm W zs = uForm W' bs) : W = W' ∧ zs = bs := by
  match zs, bs, la, lb with
  | [], [], _, _ => exact ⟨h, rfl⟩
  | [], [b], _, _ => exact (sep_no hW h).elim
  | [], [b, b'], _, _ => exact (sep_no hW h).elim
  | [a], [], _, _ => exact (sep_no hW' h.symm).elim
  | [a, a'], [], _, _ => exact (sep_no hW' h.symm).elim
  | [a], [b], _, _ =>
    obtain ⟨h1, h2⟩ := sep_inj hW hW' h
    exact ⟨h1, by rw [h2]⟩
  | [a], [b, b'], _, _ =>
    obtain ⟨h1, h2⟩ := sep_inj hW hW' h
    exact (sep_no (ha a (by simp)) h2).elim
  | [a, a'], [b], _, _ =>
    obtain ⟨h1, h2⟩ := sep_inj hW hW' h
    exact (sep_no (hb b (by simp)) h2.symm).elim
  | [a, a'], [b, b'], _, _ =>
    obtain ⟨h1, h2⟩ := sep_inj hW hW' h
    obtain ⟨h3, h4⟩ := sep_inj (ha a (by simp)) (hb b (by simp)) h2
    simp only [List.cons.injEq, true_and] at h4
    exact ⟨h1, by rw [h3, h4]⟩
def uCls : List UInt8 → Nat
  | [] => 9
  | c :: _ => if c = 37 then 0 else if c = 36 then 1 else if c = 42 then 2 else if c.toNat = 45 ∨ (48 ≤ c.toNat ∧ c.toNat ≤ 57) ∨ c = 40 then 3 else 4
theorem cls_r (l : List UInt8) : uCls (37 :: l) = 0 := rfl
theorem cls_i (n : Int) : uCls (36 :: Lib.itoa n) = 1 := rfl
theorem cls_s (l : List UInt8) : uCls (42 :: l) = 2 := rfl
theorem cls_num {c : UInt8} (l : List UInt8) (h : c.toNat = 45 ∨ (48 ≤ c.toNat ∧ c.toNat ≤ 57)) : uCls (c :: l) = 3 := by
  unfold uCls
  have h1 : ¬ c = 37 := by rintro rfl; revert h; decide
  have h2 : ¬ c = 36 := by rintro rfl; revert h; decide
  have h3 : ¬ c = 42 := by rintro rfl; revert h; decide
  simp only [if_neg h1, if_neg h2, if_neg h3]
  rw [if_pos]
  rcases h with h | h
  · exact Or.inl h
  · exact Or.inr (Or.inl h)
theorem cls_at (b off : Int) : uCls (atL b off) = 3 := by
  unfold atL
  split
  · rfl
  · cases h : Lib.itoa off with
    | nil => exact absurd h (itoa_full off)
    | cons c l => exact cls_num _ (itoa_chars off c (by rw [h]; exact List.mem_cons_self))
theorem named_chars {tl : List UInt8} (h : namedB ⟨⟨tl⟩⟩ = true) : tl ≠ [] ∧ (∀ c ∈ tl, (wordN c.toNat || digN c.toNat) = true) ∧ (∀ c l, tl = c :: l → wordN c.toNat = true) := by
  unfold namedB at h
  simp only [Bool.and_eq_true, decide_eq_true_eq] at h
  obtain ⟨⟨h0, _⟩, h2⟩ := h
  have hs : (⟨⟨tl⟩⟩ : ByteArray).size = tl.length := rfl
  rw [hs] at h0 h2
  refine ⟨by rintro rfl; simp at h0, ?_, ?_⟩
  · intro c hc
    obtain ⟨j, hj, rfl⟩ := List.mem_iff_getElem.1 hc
    have := h2 j hj hj
    unfold okAt at this
    have e : ((⟨⟨tl⟩⟩ : ByteArray)[j]'hj) = tl[j] := rfl
    rw [e] at this
    cases hw : wordN tl[j].toNat with
    | true => rfl
    | false => rw [hw] at this; simp at this; simp [this.2]
  · rintro c l rfl
    have hp : 0 < (c :: l).length := by simp
    have := h2 0 hp hp
    have e : ((⟨⟨c :: l⟩⟩ : ByteArray)[0]'hp) = c := rfl
    unfold okAt at this
    rw [e] at this
    simpa using this
theorem word_not {c : UInt8} (h : wordN c.toNat = true) : ¬ c = 37 ∧ ¬ c = 36 ∧ ¬ c = 42 ∧ ¬ (c.toNat = 45 ∨ (48 ≤ c.toNat ∧ c.toNat ≤ 57) ∨ c = 40) := by
  refine ⟨?_, ?_, ?_, ?_⟩
  · rintro rfl; revert h; decide
  · rintro rfl; revert h; decide
  · rintro rfl; revert h; decide
  · rintro (hh | hh | rfl)
    · rw [hh] at h; revert h; decide
    · unfold wordN at h
      simp at h; omega
    · revert h; decide
theorem cls_word {tl : List UInt8} (s : List UInt8) (h : namedB ⟨⟨tl⟩⟩ = true) : uCls (tl ++ s) = 4 := by
  obtain ⟨h1, _, h3⟩ := named_chars h
  cases tl with
  | nil => exact absurd rfl h1
  | cons c l =>
    obtain ⟨a, b, d, e⟩ := word_not (h3 c l rfl)
    simp only [List.cons_append, uCls, if_neg a, if_neg b, if_neg d, if_neg e]
theorem cls_t {tl : List UInt8} (h : namedB ⟨⟨tl⟩⟩ = true) : uCls tl = 4 := by
  have := cls_word [] h
  rwa [List.append_nil] at this
theorem cls_q {tl : List UInt8} (h : namedB ⟨⟨tl⟩⟩ = true) : uCls (tl ++ [40, 37, 114, 105, 112, 41]) = 4 := cls_word _ h
theorem noC_lit (x : UInt8) (l : List UInt8) (h : ∀ c ∈ l, c ≠ x) : NoC x l := h
theorem noC_app {x : UInt8} {a b : List UInt8} (ha : NoC x a) (hb : NoC x b) : NoC x (a ++ b) := fun c hc => (List.mem_append.1 hc).elim (ha c) (hb c)
theorem noC_cons {x c : UInt8} {l : List UInt8} (h : c ≠ x) (hl : NoC x l) : NoC x (c :: l) := fun d hd => (List.mem_cons.1 hd).elim (fun e => e ▸ h) (hl d)
theorem noC_reg (r k : Nat) : NoC 44 (regN r k) := by
  have hall : (regT.all fun l => l.all fun c => c != 44) = true := by kernel_rfl
  unfold regN
  rw [List.getD_eq_getElem?_getD]
  cases h : regT[r * 4 + k]? with
  | none => intro c hc; cases hc
  | some l =>
    intro c hc
    rw [List.all_eq_true] at hall
    have := hall l (List.mem_of_getElem? h)
    rw [List.all_eq_true] at this
    simpa using this c hc
theorem noC_want (r n : Int) : NoC 44 (wantF r n) := by
  unfold wantF
  split
  · split
    · exact noC_reg _ _
    · split
      · exact noC_reg _ _
      · split
        · exact noC_reg _ _
        · split
          · exact noC_reg _ _
          · intro c hc; cases hc
  · intro c hc; cases hc
theorem noC_r (r n : Int) : NoC 44 (37 :: wantF r n) := noC_cons (by decide) (noC_want r n)
theorem noC_s (r : Int) : NoC 44 (42 :: 37 :: wantF r 8) := noC_cons (by decide) (noC_r r 8)
theorem noC_itoa (x : UInt8) (hx : ¬ (x.toNat = 45 ∨ (48 ≤ x.toNat ∧ x.toNat ≤ 57))) (n : Int) : NoC x (Lib.itoa n) := fun c hc e => hx (e ▸ itoa_chars n c hc)
theorem noC_i (n : Int) : NoC 44 (36 :: Lib.itoa n) := noC_cons (by decide) (noC_itoa 44 (by decide) n)
theorem noC_pre (x : UInt8) (hx : ¬ (x.toNat = 45 ∨ (48 ≤ x.toNat ∧ x.toNat ≤ 57))) (n : Int) : NoC x (if n = 0 then [] else Lib.itoa n) := by
  split
  · intro c hc; cases hc
  · exact noC_itoa x hx n
theorem noC_at (b off : Int) : NoC 44 (atL b off) := noC_app (noC_app (noC_pre 44 (by decide) off) (noC_cons (by decide) (noC_r b 8))) (noC_lit _ _ (by decide))
theorem named_noC {tl : List UInt8} (h : namedB ⟨⟨tl⟩⟩ = true) : NoC 44 tl := by
  intro c hc e
  subst e
  have := (named_chars h).2.1 _ hc
  revert this; decide
theorem noC_q {tl : List UInt8} (h : NoC 44 tl) : NoC 44 (tl ++ [40, 37, 114, 105, 112, 41]) := noC_app h (noC_lit _ _ (by decide))
theorem cons_tail {c : UInt8} {a b : List UInt8} (h : c :: a = c :: b) : a = b := by simpa using h
theorem reg_inj : ((List.range 16).all fun r => (List.range 16).all fun s => (List.range 4).all fun j => (regN r j != regN s j) || r == s) = true := by kernel_rfl
theorem regN_inj {r s j : Nat} (hr : r < 16) (hs : s < 16) (hj : j < 4) (h : regN r j = regN s j) : r = s := by
  have := reg_inj
  rw [List.all_eq_true] at this
  have := this r (List.mem_range.2 hr)
  rw [List.all_eq_true] at this
  have := this s (List.mem_range.2 hs)
  rw [List.all_eq_true] at this
  have := this j (List.mem_range.2 hj)
  simpa [h] using this
theorem want_inj {r s n : Int} (hr : 0 ≤ r ∧ r ≤ 15) (hs : 0 ≤ s ∧ s ≤ 15) (hn : n = 8 ∨ n = 4 ∨ n = 2 ∨ n = 1) (h : wantF r n = wantF s n) : r = s := by
  unfold wantF at h
  rw [if_pos hr, if_pos hs] at h
  have key : ∀ j, j < 4 → regN r.toNat j = regN s.toNat j → r = s := fun j hj e => by
    have := regN_inj (by omega) (by omega) hj e; omega
  rcases hn with rfl | rfl | rfl | rfl
  · exact key 3 (by decide) h
  · exact key 2 (by decide) h
  · exact key 1 (by decide) h
  · exact key 0 (by decide) h
theorem pre_inj {m n : Int} (h : (if m = 0 then [] else Lib.itoa m) = (if n = 0 then [] else Lib.itoa n)) : m = n := by
  split at h <;> split at h
  · omega
  · exact absurd h.symm (itoa_full _)
  · exact absurd h (itoa_full _)
  · exact itoa_inj h
theorem at_inj {b off b1 off1 : Int} (hb : 0 ≤ b ∧ b ≤ 15) (hb1 : 0 ≤ b1 ∧ b1 ≤ 15) (h : atL b off = atL b1 off1) : off = off1 ∧ b = b1 := by
  unfold atL at h
  rw [List.append_assoc, List.append_assoc, List.cons_append, List.cons_append, List.cons_append, List.cons_append] at h
  obtain ⟨h1, h2⟩ := sep_inj (noC_pre 40 (by decide) off) (noC_pre 40 (by decide) off1) h
  exact ⟨pre_inj h1, want_inj hb hb1 (Or.inl rfl) (List.append_cancel_right (cons_tail h2))⟩
theorem mv_size (k : Nat) (g : Bool) : mvN k g = 8 ∨ mvN k g = 4 ∨ mvN k g = 2 ∨ mvN k g = 1 := by
  unfold mvN moveF
  split <;> simp
def USame (dst src imm size : Int) (g : Bool) (cond : Int) (tl : List UInt8) (dst1 src1 imm1 size1 : Int) (g1 : Bool) (cond1 : Int) (tl1 : List UInt8) : Prop := dst = dst1 ∧ src = src1 ∧ imm = imm1 ∧ size = size1 ∧ g = g1 ∧ cond = cond1 ∧ tl = tl1
theorem kOf_inj {a b : Int} (ha : a = 1 ∨ a = 2 ∨ a = 4 ∨ a = 8) (hb : b = 1 ∨ b = 2 ∨ b = 4 ∨ b = 8) (h : kOf a = kOf b) : a = b := by
  rcases ha with rfl | rfl | rfl | rfl <;> rcases hb with rfl | rfl | rfl | rfl <;> first | rfl | (revert h; decide)
section
variable {op dst src imm size cond : Int} {g : Bool} {tl : List UInt8}
theorem rq_dst (h : RQ op dst src imm size g cond tl) : 0 ≤ dst ∧ dst ≤ 15 := by unfold RQ RP at h; omega
theorem rq_src (h : RQ op dst src imm size g cond tl) : 0 ≤ src ∧ src ≤ 15 := by unfold RQ RP at h; omega
theorem rq_size (h : RQ op dst src imm size g cond tl) (ho : op = 3 ∨ op = 4 ∨ op = 30) : size = 1 ∨ size = 2 ∨ size = 4 ∨ size = 8 := by unfold RQ RP lZ at h; omega
theorem rq_size4 (h : RQ op dst src imm size g cond tl) (ho : op = 3 ∨ op = 4 ∨ op = 30) : size = 8 ∨ size = 4 ∨ size = 2 ∨ size = 1 := by have := rq_size h ho; omega
theorem rq_g (h : RQ op dst src imm size g cond tl) (ho : ¬ (op = 3 ∨ op = 30)) : g = false := by
  have : ¬ one g = 1 := by unfold RQ RP lG at h; omega
  cases g with
  | false => rfl
  | true => exact absurd rfl this
theorem rq_emp (h : RQ op dst src imm size g cond tl) (ho : ¬ (op = 6 ∨ op = 33 ∨ op = 34 ∨ op = 35)) : tl = [] := by
  have : emp tl = 1 := by unfold RQ RP lT at h; omega
  cases tl with
  | nil => rfl
  | cons c l => revert this; simp [emp]
theorem c_ok (h : RQ op dst src imm size g cond tl) (ho : op = 31 ∨ op = 32 ∨ op = 34) : 0 ≤ cond ∧ cond ≤ 9 := by unfold RQ RP lC at h; omega
theorem kg_ok (h : RQ op dst src imm size g cond tl) (ho : op = 3 ∨ op = 30) : ¬ (kOf size = 3 ∧ g = true) := by
  rintro ⟨h1, rfl⟩
  have hz := rq_size h (by omega)
  have h8 : size = 8 := by
    rcases hz with rfl | rfl | rfl | rfl
    · revert h1; decide
    · revert h1; decide
    · revert h1; decide
    · rfl
  have : one true = 1 := rfl
  unfold RQ RP at h; omega
theorem k30_ok (h : RQ 30 dst src imm size g cond tl) : kOf size < 3 := by
  have hz : size = 1 ∨ size = 2 ∨ size = 4 := by unfold RQ RP lZ at h; omega
  rcases hz with rfl | rfl | rfl <;> decide
end
def uTab : List (List UInt8 × List Nat × (Nat × Nat × Bool × Nat)) := [([109, 111, 118, 113], [0, 0], (1, 0, false, 0)), ([109, 111, 118, 113], [1, 0], (2, 0, false, 0)), ([109, 111, 118, 97, 98, 115, 113], [1, 0], (2, 0, false, 0)), ([109, 111, 118, 122, 98, 113], [3, 0], (3, 0, false, 0)), ([109, 111, 118, 115, 98, 113], [3, 0], (3, 0, true, 0)), ([109, 111, 118, 122, 119, 113], [3, 0], (3, 1, false, 0)), ([109, 111, 118, 115, 119, 113], [3, 0], (3, 1, true, 0)), ([109, 111, 118, 108], [3, 0], (3, 2, false, 0)), ([109, 111, 118, 115, 108, 113], [3, 0], (3, 2, true, 0)), ([109, 111, 118, 113], [3, 0], (3, 3, false, 0)), ([109, 111, 118, 98], [0, 3], (4, 0, false, 0)), ([109, 111, 118, 119], [0, 3], (4, 1, false, 0)), ([109, 111, 118, 108], [0, 3], (4, 2, false, 0)), ([109, 111, 118, 113], [0, 3], (4, 3, false, 0)), ([108, 101, 97, 113], [3, 0], (5, 0, false, 0)), ([108, 101, 97, 113], [4, 0], (6, 0, false, 0)), ([97, 100, 100, 113], [0, 0], (7, 0, false, 0)), ([115, 117, 98, 113], [0, 0], (8, 0, false, 0)), ([97, 110, 100, 113], [0, 0], (9, 0, false, 0)), ([111, 114, 113], [0, 0], (10, 0, false, 0)), ([120, 111, 114, 113], [0, 0], (11, 0, false, 0)), ([105, 109, 117, 108, 113], [0, 0], (12, 0, false, 0)), ([99, 109, 112, 113], [0, 0], (13, 0, false, 0)), ([97, 100, 100, 113], [1, 0], (14, 0, false, 0)), ([115, 117, 98, 113], [1, 0], (15, 0, false, 0)), ([97, 110, 100, 113], [1, 0], (16, 0, false, 0)), ([111, 114, 113], [1, 0], (17, 0, false, 0)), ([120, 111, 114, 113], [1, 0], (18, 0, false, 0)), ([105, 109, 117, 108, 113], [1, 0], (19, 0, false, 0)), ([99, 109, 112, 113], [1, 0], (20, 0, false, 0)), ([115, 104, 108, 113], [0, 0], (21, 0, false, 0)), ([115, 97, 114, 113], [0, 0], (22, 0, false, 0)), ([115, 104, 114, 113], [0, 0], (23, 0, false, 0)), ([115, 104, 108, 113], [1, 0], (24, 0, false, 0)), ([115, 97, 114, 113], [1, 0], (25, 0, false, 0)), ([115, 104, 114, 113], [1, 0], (26, 0, false, 0)), ([99, 113, 116, 111], [], (27, 0, false, 0)), ([105, 100, 105, 118, 113], [0], (28, 0, false, 0)), ([100, 105, 118, 113], [0], (29, 0, false, 0)), ([109, 111, 118, 122, 98, 113], [0, 0], (30, 0, false, 0)), ([109, 111, 118, 115, 98, 113], [0, 0], (30, 0, true, 0)), ([109, 111, 118, 122, 119, 113], [0, 0], (30, 1, false, 0)), ([109, 111, 118, 115, 119, 113], [0, 0], (30, 1, true, 0)), ([109, 111, 118, 108], [0, 0], (30, 2, false, 0)), ([109, 111, 118, 115, 108, 113], [0, 0], (30, 2, true, 0)), ([115, 101, 116, 101], [0], (31, 0, false, 0)), ([115, 101, 116, 110, 101], [0], (31, 0, false, 1)), ([115, 101, 116, 108], [0], (31, 0, false, 2)), ([115, 101, 116, 108, 101], [0], (31, 0, false, 3)), ([115, 101, 116, 103], [0], (31, 0, false, 4)), ([115, 101, 116, 103, 101], [0], (31, 0, false, 5)), ([115, 101, 116, 98], [0], (31, 0, false, 6)), ([115, 101, 116, 98, 101], [0], (31, 0, false, 7)), ([115, 101, 116, 97], [0], (31, 0, false, 8)), ([115, 101, 116, 97, 101], [0], (31, 0, false, 9)), ([99, 109, 111, 118, 101, 113], [0, 0], (32, 0, false, 0)), ([99, 109, 111, 118, 110, 101, 113], [0, 0], (32, 0, false, 1)), ([99, 109, 111, 118, 108, 113], [0, 0], (32, 0, false, 2)), ([99, 109, 111, 118, 108, 101, 113], [0, 0], (32, 0, false, 3)), ([99, 109, 111, 118, 103, 113], [0, 0], (32, 0, false, 4)), ([99, 109, 111, 118, 103, 101, 113], [0, 0], (32, 0, false, 5)), ([99, 109, 111, 118, 98, 113], [0, 0], (32, 0, false, 6)), ([99, 109, 111, 118, 98, 101, 113], [0, 0], (32, 0, false, 7)), ([99, 109, 111, 118, 97, 113], [0, 0], (32, 0, false, 8)), ([99, 109, 111, 118, 97, 101, 113], [0, 0], (32, 0, false, 9)), ([106, 109, 112], [4], (33, 0, false, 0)), ([106, 101], [4], (34, 0, false, 0)), ([106, 110, 101], [4], (34, 0, false, 1)), ([106, 108], [4], (34, 0, false, 2)), ([106, 108, 101], [4], (34, 0, false, 3)), ([106, 103], [4], (34, 0, false, 4)), ([106, 103, 101], [4], (34, 0, false, 5)), ([106, 98], [4], (34, 0, false, 6)), ([106, 98, 101], [4], (34, 0, false, 7)), ([106, 97], [4], (34, 0, false, 8)), ([106, 97, 101], [4], (34, 0, false, 9)), ([99, 97, 108, 108], [4], (35, 0, false, 0)), ([99, 97, 108, 108], [2], (36, 0, false, 0)), ([106, 109, 112], [2], (37, 0, false, 0)), ([114, 101, 116], [], (38, 0, false, 0)), ([108, 102, 101, 110, 99, 101], [], (39, 0, false, 0)), ([111, 117, 116, 113], [0], (40, 0, false, 0)), ([104, 108, 116], [], (41, 0, false, 0))]
def uDec (W : List UInt8) (cs : List Nat) : Option (Nat × Nat × Bool × Nat) := (uTab.find? fun e => e.1 == W && e.2.1 == cs).map (·.2.2)
def UKey (line : List UInt8) (i K : Nat) (G : Bool) (C : Nat) (zs : List (List UInt8)) : Prop := ∃ W, line = uForm W zs ∧ NoC 32 W ∧ (∀ a ∈ zs, NoC 44 a) ∧ zs.length ≤ 2 ∧ uDec W (zs.map uCls) = some (i, K, G, C)
theorem key_uniq {l : List UInt8} {i K : Nat} {G : Bool} {C : Nat} {zs : List (List UInt8)} {i' K' : Nat} {G' : Bool} {C' : Nat} {zs' : List (List UInt8)} (h : UKey l i K G C zs) (h' : UKey l i' K' G' C' zs') : i = i' ∧ K = K' ∧ G = G' ∧ C = C' ∧ zs = zs' := by
  obtain ⟨W, e, h1, h2, h3, h4⟩ := h
  obtain ⟨W', e', h1', h2', h3', h4'⟩ := h'
  obtain ⟨rfl, rfl⟩ := form_inj h1 h1' h2 h2' h3 h3' (e.symm.trans e')
  rw [h4] at h4'
  simp only [Option.some.injEq, Prod.mk.injEq] at h4'
  exact ⟨h4'.1, h4'.2.1, h4'.2.2.1, h4'.2.2.2, rfl⟩
def asOf (op : Nat) (dst src imm size : Int) (k : Nat) (g : Bool) (tl : List UInt8) : List (List UInt8) := match op with
  | 1 => [(37 :: wantF src 8), (37 :: wantF dst 8)]
  | 2 => [(36 :: Lib.itoa imm), (37 :: wantF dst 8)]
  | 3 => [(atL src imm), (37 :: wantF dst (mvN k g))]
  | 4 => [(37 :: wantF src size), (atL dst imm)]
  | 5 => [(atL src imm), (37 :: wantF dst 8)]
  | 6 => [(tl ++ [40, 37, 114, 105, 112, 41]), (37 :: wantF dst 8)]
  | 7 => [(37 :: wantF src 8), (37 :: wantF dst 8)]
  | 8 => [(37 :: wantF src 8), (37 :: wantF dst 8)]
  | 9 => [(37 :: wantF src 8), (37 :: wantF dst 8)]
  | 10 => [(37 :: wantF src 8), (37 :: wantF dst 8)]
  | 11 => [(37 :: wantF src 8), (37 :: wantF dst 8)]
  | 12 => [(37 :: wantF src 8), (37 :: wantF dst 8)]
  | 13 => [(37 :: wantF src 8), (37 :: wantF dst 8)]
  | 14 => [(36 :: Lib.itoa imm), (37 :: wantF dst 8)]
  | 15 => [(36 :: Lib.itoa imm), (37 :: wantF dst 8)]
  | 16 => [(36 :: Lib.itoa imm), (37 :: wantF dst 8)]
  | 17 => [(36 :: Lib.itoa imm), (37 :: wantF dst 8)]
  | 18 => [(36 :: Lib.itoa imm), (37 :: wantF dst 8)]
  | 19 => [(36 :: Lib.itoa imm), (37 :: wantF dst 8)]
  | 20 => [(36 :: Lib.itoa imm), (37 :: wantF dst 8)]
  | 21 => [[37, 99, 108], (37 :: wantF dst 8)]
  | 22 => [[37, 99, 108], (37 :: wantF dst 8)]
  | 23 => [[37, 99, 108], (37 :: wantF dst 8)]
  | 24 => [(36 :: Lib.itoa imm), (37 :: wantF dst 8)]
  | 25 => [(36 :: Lib.itoa imm), (37 :: wantF dst 8)]
  | 26 => [(36 :: Lib.itoa imm), (37 :: wantF dst 8)]
  | 27 => []
  | 28 => [(37 :: wantF dst 8)]
  | 29 => [(37 :: wantF dst 8)]
  | 30 => [(37 :: wantF src size), (37 :: wantF dst (mvN k g))]
  | 31 => [(37 :: wantF dst 1)]
  | 32 => [(37 :: wantF src 8), (37 :: wantF dst 8)]
  | 33 => [tl]
  | 34 => [tl]
  | 35 => [tl]
  | 36 => [(42 :: 37 :: wantF dst 8)]
  | 37 => [(42 :: 37 :: wantF dst 8)]
  | 38 => []
  | 39 => []
  | 40 => [(37 :: wantF dst 8)]
  | 41 => []
  | _ => []
theorem key_1 (dst src imm size cond : Int) (k : Nat) (g : Bool) (tl : List UInt8) : UKey (showL 1 dst src imm size k g cond tl) 1 0 false 0 (asOf 1 dst src imm size k g tl) := by
  have hm : ∀ a ∈ asOf 1 dst src imm size k g tl, NoC 44 a := by
    intro a ha
    simp only [asOf, List.mem_cons, List.mem_nil_iff, or_false] at ha
    rcases ha with rfl | rfl
    · exact noC_r _ _
    · exact noC_r _ _
  have hcl : (asOf 1 dst src imm size k g tl).map uCls = [0, 0] := by
    simp only [asOf, List.map_cons, List.map_nil, cls_r _]
  exact ⟨[109, 111, 118, 113], by simp [showL, uForm, asOf], by unfold NoC; decide, hm, by simp [asOf], by rw [hcl]; kernel_rfl⟩
theorem key_2 (dst src imm size cond : Int) (k : Nat) (g : Bool) (tl : List UInt8) : UKey (showL 2 dst src imm size k g cond tl) 2 0 false 0 (asOf 2 dst src imm size k g tl) := by
  have hm : ∀ a ∈ asOf 2 dst src imm size k g tl, NoC 44 a := by
    intro a ha
    simp only [asOf, List.mem_cons, List.mem_nil_iff, or_false] at ha
    rcases ha with rfl | rfl
    · exact noC_i _
    · exact noC_r _ _
  have hcl : (asOf 2 dst src imm size k g tl).map uCls = [1, 0] := by
    simp only [asOf, List.map_cons, List.map_nil, cls_i _, cls_r _]
  by_cases hs : smallI imm = true
  · exact ⟨[109, 111, 118, 113], by simp [showL, uForm, asOf, hs], by unfold NoC; decide, hm, by simp [asOf], by rw [hcl]; kernel_rfl⟩
  · exact ⟨[109, 111, 118, 97, 98, 115, 113], by simp [showL, uForm, asOf, hs], by unfold NoC; decide, hm, by simp [asOf], by rw [hcl]; kernel_rfl⟩
theorem key_3 (dst src imm size cond : Int) (k : Nat) (g : Bool) (tl : List UInt8) (hk : k < 4) (hkg : ¬ (k = 3 ∧ g = true)) : UKey (showL 3 dst src imm size k g cond tl) 3 k g 0 (asOf 3 dst src imm size k g tl) := by
  have hm : ∀ a ∈ asOf 3 dst src imm size k g tl, NoC 44 a := by
    intro a ha
    simp only [asOf, List.mem_cons, List.mem_nil_iff, or_false] at ha
    rcases ha with rfl | rfl
    · exact noC_at _ _
    · exact noC_r _ _
  have hcl : (asOf 3 dst src imm size k g tl).map uCls = [3, 0] := by
    simp only [asOf, List.map_cons, List.map_nil, cls_at _ _, cls_r _]
  match k, g, hk, hkg, hm, hcl with
  | 0, false, hk, hkg, hm, hcl => exact ⟨[109, 111, 118, 122, 98, 113], by simp [showL, uForm, asOf, moveF], by unfold NoC; decide, hm, by simp [asOf], by rw [hcl]; kernel_rfl⟩
  | 0, true, hk, hkg, hm, hcl => exact ⟨[109, 111, 118, 115, 98, 113], by simp [showL, uForm, asOf, moveF], by unfold NoC; decide, hm, by simp [asOf], by rw [hcl]; kernel_rfl⟩
  | 1, false, hk, hkg, hm, hcl => exact ⟨[109, 111, 118, 122, 119, 113], by simp [showL, uForm, asOf, moveF], by unfold NoC; decide, hm, by simp [asOf], by rw [hcl]; kernel_rfl⟩
  | 1, true, hk, hkg, hm, hcl => exact ⟨[109, 111, 118, 115, 119, 113], by simp [showL, uForm, asOf, moveF], by unfold NoC; decide, hm, by simp [asOf], by rw [hcl]; kernel_rfl⟩
  | 2, false, hk, hkg, hm, hcl => exact ⟨[109, 111, 118, 108], by simp [showL, uForm, asOf, moveF], by unfold NoC; decide, hm, by simp [asOf], by rw [hcl]; kernel_rfl⟩
  | 2, true, hk, hkg, hm, hcl => exact ⟨[109, 111, 118, 115, 108, 113], by simp [showL, uForm, asOf, moveF], by unfold NoC; decide, hm, by simp [asOf], by rw [hcl]; kernel_rfl⟩
  | 3, false, hk, hkg, hm, hcl => exact ⟨[109, 111, 118, 113], by simp [showL, uForm, asOf, moveF], by unfold NoC; decide, hm, by simp [asOf], by rw [hcl]; kernel_rfl⟩
  | 3, true, hk, hkg, hm, hcl => exact absurd ⟨rfl, rfl⟩ hkg
theorem key_4 (dst src imm size cond : Int) (k : Nat) (g : Bool) (tl : List UInt8) (hk : k < 4) : UKey (showL 4 dst src imm size k g cond tl) 4 k false 0 (asOf 4 dst src imm size k g tl) := by
  have hm : ∀ a ∈ asOf 4 dst src imm size k g tl, NoC 44 a := by
    intro a ha
    simp only [asOf, List.mem_cons, List.mem_nil_iff, or_false] at ha
    rcases ha with rfl | rfl
    · exact noC_r _ _
    · exact noC_at _ _
  have hcl : (asOf 4 dst src imm size k g tl).map uCls = [0, 3] := by
    simp only [asOf, List.map_cons, List.map_nil, cls_r _, cls_at _ _]
  match k, hk, hm, hcl with
  | 0, hk, hm, hcl => exact ⟨[109, 111, 118, 98], by simp [showL, uForm, asOf, leL], by unfold NoC; decide, hm, by simp [asOf], by rw [hcl]; kernel_rfl⟩
  | 1, hk, hm, hcl => exact ⟨[109, 111, 118, 119], by simp [showL, uForm, asOf, leL], by unfold NoC; decide, hm, by simp [asOf], by rw [hcl]; kernel_rfl⟩
  | 2, hk, hm, hcl => exact ⟨[109, 111, 118, 108], by simp [showL, uForm, asOf, leL], by unfold NoC; decide, hm, by simp [asOf], by rw [hcl]; kernel_rfl⟩
  | 3, hk, hm, hcl => exact ⟨[109, 111, 118, 113], by simp [showL, uForm, asOf, leL], by unfold NoC; decide, hm, by simp [asOf], by rw [hcl]; kernel_rfl⟩
theorem key_5 (dst src imm size cond : Int) (k : Nat) (g : Bool) (tl : List UInt8) : UKey (showL 5 dst src imm size k g cond tl) 5 0 false 0 (asOf 5 dst src imm size k g tl) := by
  have hm : ∀ a ∈ asOf 5 dst src imm size k g tl, NoC 44 a := by
    intro a ha
    simp only [asOf, List.mem_cons, List.mem_nil_iff, or_false] at ha
    rcases ha with rfl | rfl
    · exact noC_at _ _
    · exact noC_r _ _
  have hcl : (asOf 5 dst src imm size k g tl).map uCls = [3, 0] := by
    simp only [asOf, List.map_cons, List.map_nil, cls_at _ _, cls_r _]
  exact ⟨[108, 101, 97, 113], by simp [showL, uForm, asOf], by unfold NoC; decide, hm, by simp [asOf], by rw [hcl]; kernel_rfl⟩
theorem key_6 (dst src imm size cond : Int) (k : Nat) (g : Bool) (tl : List UInt8) (ht : namedB ⟨⟨tl⟩⟩ = true) : UKey (showL 6 dst src imm size k g cond tl) 6 0 false 0 (asOf 6 dst src imm size k g tl) := by
  have hm : ∀ a ∈ asOf 6 dst src imm size k g tl, NoC 44 a := by
    intro a ha
    simp only [asOf, List.mem_cons, List.mem_nil_iff, or_false] at ha
    rcases ha with rfl | rfl
    · exact noC_q (named_noC ht)
    · exact noC_r _ _
  have hcl : (asOf 6 dst src imm size k g tl).map uCls = [4, 0] := by
    simp only [asOf, List.map_cons, List.map_nil, cls_q ht, cls_r _]
  exact ⟨[108, 101, 97, 113], by simp [showL, uForm, asOf], by unfold NoC; decide, hm, by simp [asOf], by rw [hcl]; kernel_rfl⟩
theorem key_7 (dst src imm size cond : Int) (k : Nat) (g : Bool) (tl : List UInt8) : UKey (showL 7 dst src imm size k g cond tl) 7 0 false 0 (asOf 7 dst src imm size k g tl) := by
  have hm : ∀ a ∈ asOf 7 dst src imm size k g tl, NoC 44 a := by
    intro a ha
    simp only [asOf, List.mem_cons, List.mem_nil_iff, or_false] at ha
    rcases ha with rfl | rfl
    · exact noC_r _ _
    · exact noC_r _ _
  have hcl : (asOf 7 dst src imm size k g tl).map uCls = [0, 0] := by
    simp only [asOf, List.map_cons, List.map_nil, cls_r _]
  exact ⟨[97, 100, 100, 113], by simp [showL, uForm, asOf], by unfold NoC; decide, hm, by simp [asOf], by rw [hcl]; kernel_rfl⟩
theorem key_8 (dst src imm size cond : Int) (k : Nat) (g : Bool) (tl : List UInt8) : UKey (showL 8 dst src imm size k g cond tl) 8 0 false 0 (asOf 8 dst src imm size k g tl) := by
  have hm : ∀ a ∈ asOf 8 dst src imm size k g tl, NoC 44 a := by
    intro a ha
    simp only [asOf, List.mem_cons, List.mem_nil_iff, or_false] at ha
    rcases ha with rfl | rfl
    · exact noC_r _ _
    · exact noC_r _ _
  have hcl : (asOf 8 dst src imm size k g tl).map uCls = [0, 0] := by
    simp only [asOf, List.map_cons, List.map_nil, cls_r _]
  exact ⟨[115, 117, 98, 113], by simp [showL, uForm, asOf], by unfold NoC; decide, hm, by simp [asOf], by rw [hcl]; kernel_rfl⟩
theorem key_9 (dst src imm size cond : Int) (k : Nat) (g : Bool) (tl : List UInt8) : UKey (showL 9 dst src imm size k g cond tl) 9 0 false 0 (asOf 9 dst src imm size k g tl) := by
  have hm : ∀ a ∈ asOf 9 dst src imm size k g tl, NoC 44 a := by
    intro a ha
    simp only [asOf, List.mem_cons, List.mem_nil_iff, or_false] at ha
    rcases ha with rfl | rfl
    · exact noC_r _ _
    · exact noC_r _ _
  have hcl : (asOf 9 dst src imm size k g tl).map uCls = [0, 0] := by
    simp only [asOf, List.map_cons, List.map_nil, cls_r _]
  exact ⟨[97, 110, 100, 113], by simp [showL, uForm, asOf], by unfold NoC; decide, hm, by simp [asOf], by rw [hcl]; kernel_rfl⟩
theorem key_10 (dst src imm size cond : Int) (k : Nat) (g : Bool) (tl : List UInt8) : UKey (showL 10 dst src imm size k g cond tl) 10 0 false 0 (asOf 10 dst src imm size k g tl) := by
  have hm : ∀ a ∈ asOf 10 dst src imm size k g tl, NoC 44 a := by
    intro a ha
    simp only [asOf, List.mem_cons, List.mem_nil_iff, or_false] at ha
    rcases ha with rfl | rfl
    · exact noC_r _ _
    · exact noC_r _ _
  have hcl : (asOf 10 dst src imm size k g tl).map uCls = [0, 0] := by
    simp only [asOf, List.map_cons, List.map_nil, cls_r _]
  exact ⟨[111, 114, 113], by simp [showL, uForm, asOf], by unfold NoC; decide, hm, by simp [asOf], by rw [hcl]; kernel_rfl⟩
theorem key_11 (dst src imm size cond : Int) (k : Nat) (g : Bool) (tl : List UInt8) : UKey (showL 11 dst src imm size k g cond tl) 11 0 false 0 (asOf 11 dst src imm size k g tl) := by
  have hm : ∀ a ∈ asOf 11 dst src imm size k g tl, NoC 44 a := by
    intro a ha
    simp only [asOf, List.mem_cons, List.mem_nil_iff, or_false] at ha
    rcases ha with rfl | rfl
    · exact noC_r _ _
    · exact noC_r _ _
  have hcl : (asOf 11 dst src imm size k g tl).map uCls = [0, 0] := by
    simp only [asOf, List.map_cons, List.map_nil, cls_r _]
  exact ⟨[120, 111, 114, 113], by simp [showL, uForm, asOf], by unfold NoC; decide, hm, by simp [asOf], by rw [hcl]; kernel_rfl⟩
theorem key_12 (dst src imm size cond : Int) (k : Nat) (g : Bool) (tl : List UInt8) : UKey (showL 12 dst src imm size k g cond tl) 12 0 false 0 (asOf 12 dst src imm size k g tl) := by
  have hm : ∀ a ∈ asOf 12 dst src imm size k g tl, NoC 44 a := by
    intro a ha
    simp only [asOf, List.mem_cons, List.mem_nil_iff, or_false] at ha
    rcases ha with rfl | rfl
    · exact noC_r _ _
    · exact noC_r _ _
  have hcl : (asOf 12 dst src imm size k g tl).map uCls = [0, 0] := by
    simp only [asOf, List.map_cons, List.map_nil, cls_r _]
  exact ⟨[105, 109, 117, 108, 113], by simp [showL, uForm, asOf], by unfold NoC; decide, hm, by simp [asOf], by rw [hcl]; kernel_rfl⟩
theorem key_13 (dst src imm size cond : Int) (k : Nat) (g : Bool) (tl : List UInt8) : UKey (showL 13 dst src imm size k g cond tl) 13 0 false 0 (asOf 13 dst src imm size k g tl) := by
  have hm : ∀ a ∈ asOf 13 dst src imm size k g tl, NoC 44 a := by
    intro a ha
    simp only [asOf, List.mem_cons, List.mem_nil_iff, or_false] at ha
    rcases ha with rfl | rfl
    · exact noC_r _ _
    · exact noC_r _ _
  have hcl : (asOf 13 dst src imm size k g tl).map uCls = [0, 0] := by
    simp only [asOf, List.map_cons, List.map_nil, cls_r _]
  exact ⟨[99, 109, 112, 113], by simp [showL, uForm, asOf], by unfold NoC; decide, hm, by simp [asOf], by rw [hcl]; kernel_rfl⟩
theorem key_14 (dst src imm size cond : Int) (k : Nat) (g : Bool) (tl : List UInt8) : UKey (showL 14 dst src imm size k g cond tl) 14 0 false 0 (asOf 14 dst src imm size k g tl) := by
  have hm : ∀ a ∈ asOf 14 dst src imm size k g tl, NoC 44 a := by
    intro a ha
    simp only [asOf, List.mem_cons, List.mem_nil_iff, or_false] at ha
    rcases ha with rfl | rfl
    · exact noC_i _
    · exact noC_r _ _
  have hcl : (asOf 14 dst src imm size k g tl).map uCls = [1, 0] := by
    simp only [asOf, List.map_cons, List.map_nil, cls_i _, cls_r _]
  exact ⟨[97, 100, 100, 113], by simp [showL, uForm, asOf], by unfold NoC; decide, hm, by simp [asOf], by rw [hcl]; kernel_rfl⟩
theorem key_15 (dst src imm size cond : Int) (k : Nat) (g : Bool) (tl : List UInt8) : UKey (showL 15 dst src imm size k g cond tl) 15 0 false 0 (asOf 15 dst src imm size k g tl) := by
  have hm : ∀ a ∈ asOf 15 dst src imm size k g tl, NoC 44 a := by
    intro a ha
    simp only [asOf, List.mem_cons, List.mem_nil_iff, or_false] at ha
    rcases ha with rfl | rfl
    · exact noC_i _
    · exact noC_r _ _
  have hcl : (asOf 15 dst src imm size k g tl).map uCls = [1, 0] := by
    simp only [asOf, List.map_cons, List.map_nil, cls_i _, cls_r _]
  exact ⟨[115, 117, 98, 113], by simp [showL, uForm, asOf], by unfold NoC; decide, hm, by simp [asOf], by rw [hcl]; kernel_rfl⟩
theorem key_16 (dst src imm size cond : Int) (k : Nat) (g : Bool) (tl : List UInt8) : UKey (showL 16 dst src imm size k g cond tl) 16 0 false 0 (asOf 16 dst src imm size k g tl) := by
  have hm : ∀ a ∈ asOf 16 dst src imm size k g tl, NoC 44 a := by
    intro a ha
    simp only [asOf, List.mem_cons, List.mem_nil_iff, or_false] at ha
    rcases ha with rfl | rfl
    · exact noC_i _
    · exact noC_r _ _
  have hcl : (asOf 16 dst src imm size k g tl).map uCls = [1, 0] := by
    simp only [asOf, List.map_cons, List.map_nil, cls_i _, cls_r _]
  exact ⟨[97, 110, 100, 113], by simp [showL, uForm, asOf], by unfold NoC; decide, hm, by simp [asOf], by rw [hcl]; kernel_rfl⟩
theorem key_17 (dst src imm size cond : Int) (k : Nat) (g : Bool) (tl : List UInt8) : UKey (showL 17 dst src imm size k g cond tl) 17 0 false 0 (asOf 17 dst src imm size k g tl) := by
  have hm : ∀ a ∈ asOf 17 dst src imm size k g tl, NoC 44 a := by
    intro a ha
    simp only [asOf, List.mem_cons, List.mem_nil_iff, or_false] at ha
    rcases ha with rfl | rfl
    · exact noC_i _
    · exact noC_r _ _
  have hcl : (asOf 17 dst src imm size k g tl).map uCls = [1, 0] := by
    simp only [asOf, List.map_cons, List.map_nil, cls_i _, cls_r _]
  exact ⟨[111, 114, 113], by simp [showL, uForm, asOf], by unfold NoC; decide, hm, by simp [asOf], by rw [hcl]; kernel_rfl⟩
theorem key_18 (dst src imm size cond : Int) (k : Nat) (g : Bool) (tl : List UInt8) : UKey (showL 18 dst src imm size k g cond tl) 18 0 false 0 (asOf 18 dst src imm size k g tl) := by
  have hm : ∀ a ∈ asOf 18 dst src imm size k g tl, NoC 44 a := by
    intro a ha
    simp only [asOf, List.mem_cons, List.mem_nil_iff, or_false] at ha
    rcases ha with rfl | rfl
    · exact noC_i _
    · exact noC_r _ _
  have hcl : (asOf 18 dst src imm size k g tl).map uCls = [1, 0] := by
    simp only [asOf, List.map_cons, List.map_nil, cls_i _, cls_r _]
  exact ⟨[120, 111, 114, 113], by simp [showL, uForm, asOf], by unfold NoC; decide, hm, by simp [asOf], by rw [hcl]; kernel_rfl⟩
theorem key_19 (dst src imm size cond : Int) (k : Nat) (g : Bool) (tl : List UInt8) : UKey (showL 19 dst src imm size k g cond tl) 19 0 false 0 (asOf 19 dst src imm size k g tl) := by
  have hm : ∀ a ∈ asOf 19 dst src imm size k g tl, NoC 44 a := by
    intro a ha
    simp only [asOf, List.mem_cons, List.mem_nil_iff, or_false] at ha
    rcases ha with rfl | rfl
    · exact noC_i _
    · exact noC_r _ _
  have hcl : (asOf 19 dst src imm size k g tl).map uCls = [1, 0] := by
    simp only [asOf, List.map_cons, List.map_nil, cls_i _, cls_r _]
  exact ⟨[105, 109, 117, 108, 113], by simp [showL, uForm, asOf], by unfold NoC; decide, hm, by simp [asOf], by rw [hcl]; kernel_rfl⟩
theorem key_20 (dst src imm size cond : Int) (k : Nat) (g : Bool) (tl : List UInt8) : UKey (showL 20 dst src imm size k g cond tl) 20 0 false 0 (asOf 20 dst src imm size k g tl) := by
  have hm : ∀ a ∈ asOf 20 dst src imm size k g tl, NoC 44 a := by
    intro a ha
    simp only [asOf, List.mem_cons, List.mem_nil_iff, or_false] at ha
    rcases ha with rfl | rfl
    · exact noC_i _
    · exact noC_r _ _
  have hcl : (asOf 20 dst src imm size k g tl).map uCls = [1, 0] := by
    simp only [asOf, List.map_cons, List.map_nil, cls_i _, cls_r _]
  exact ⟨[99, 109, 112, 113], by simp [showL, uForm, asOf], by unfold NoC; decide, hm, by simp [asOf], by rw [hcl]; kernel_rfl⟩
theorem key_21 (dst src imm size cond : Int) (k : Nat) (g : Bool) (tl : List UInt8) : UKey (showL 21 dst src imm size k g cond tl) 21 0 false 0 (asOf 21 dst src imm size k g tl) := by
  have hm : ∀ a ∈ asOf 21 dst src imm size k g tl, NoC 44 a := by
    intro a ha
    simp only [asOf, List.mem_cons, List.mem_nil_iff, or_false] at ha
    rcases ha with rfl | rfl
    · exact noC_lit _ _ (by decide)
    · exact noC_r _ _
  have hcl : (asOf 21 dst src imm size k g tl).map uCls = [0, 0] := by
    simp only [asOf, List.map_cons, List.map_nil, cls_r _]
  exact ⟨[115, 104, 108, 113], by simp [showL, uForm, asOf], by unfold NoC; decide, hm, by simp [asOf], by rw [hcl]; kernel_rfl⟩
theorem key_22 (dst src imm size cond : Int) (k : Nat) (g : Bool) (tl : List UInt8) : UKey (showL 22 dst src imm size k g cond tl) 22 0 false 0 (asOf 22 dst src imm size k g tl) := by
  have hm : ∀ a ∈ asOf 22 dst src imm size k g tl, NoC 44 a := by
    intro a ha
    simp only [asOf, List.mem_cons, List.mem_nil_iff, or_false] at ha
    rcases ha with rfl | rfl
    · exact noC_lit _ _ (by decide)
    · exact noC_r _ _
  have hcl : (asOf 22 dst src imm size k g tl).map uCls = [0, 0] := by
    simp only [asOf, List.map_cons, List.map_nil, cls_r _]
  exact ⟨[115, 97, 114, 113], by simp [showL, uForm, asOf], by unfold NoC; decide, hm, by simp [asOf], by rw [hcl]; kernel_rfl⟩
theorem key_23 (dst src imm size cond : Int) (k : Nat) (g : Bool) (tl : List UInt8) : UKey (showL 23 dst src imm size k g cond tl) 23 0 false 0 (asOf 23 dst src imm size k g tl) := by
  have hm : ∀ a ∈ asOf 23 dst src imm size k g tl, NoC 44 a := by
    intro a ha
    simp only [asOf, List.mem_cons, List.mem_nil_iff, or_false] at ha
    rcases ha with rfl | rfl
    · exact noC_lit _ _ (by decide)
    · exact noC_r _ _
  have hcl : (asOf 23 dst src imm size k g tl).map uCls = [0, 0] := by
    simp only [asOf, List.map_cons, List.map_nil, cls_r _]
  exact ⟨[115, 104, 114, 113], by simp [showL, uForm, asOf], by unfold NoC; decide, hm, by simp [asOf], by rw [hcl]; kernel_rfl⟩
theorem key_24 (dst src imm size cond : Int) (k : Nat) (g : Bool) (tl : List UInt8) : UKey (showL 24 dst src imm size k g cond tl) 24 0 false 0 (asOf 24 dst src imm size k g tl) := by
  have hm : ∀ a ∈ asOf 24 dst src imm size k g tl, NoC 44 a := by
    intro a ha
    simp only [asOf, List.mem_cons, List.mem_nil_iff, or_false] at ha
    rcases ha with rfl | rfl
    · exact noC_i _
    · exact noC_r _ _
  have hcl : (asOf 24 dst src imm size k g tl).map uCls = [1, 0] := by
    simp only [asOf, List.map_cons, List.map_nil, cls_i _, cls_r _]
  exact ⟨[115, 104, 108, 113], by simp [showL, uForm, asOf], by unfold NoC; decide, hm, by simp [asOf], by rw [hcl]; kernel_rfl⟩
theorem key_25 (dst src imm size cond : Int) (k : Nat) (g : Bool) (tl : List UInt8) : UKey (showL 25 dst src imm size k g cond tl) 25 0 false 0 (asOf 25 dst src imm size k g tl) := by
  have hm : ∀ a ∈ asOf 25 dst src imm size k g tl, NoC 44 a := by
    intro a ha
    simp only [asOf, List.mem_cons, List.mem_nil_iff, or_false] at ha
    rcases ha with rfl | rfl
    · exact noC_i _
    · exact noC_r _ _
  have hcl : (asOf 25 dst src imm size k g tl).map uCls = [1, 0] := by
    simp only [asOf, List.map_cons, List.map_nil, cls_i _, cls_r _]
  exact ⟨[115, 97, 114, 113], by simp [showL, uForm, asOf], by unfold NoC; decide, hm, by simp [asOf], by rw [hcl]; kernel_rfl⟩
theorem key_26 (dst src imm size cond : Int) (k : Nat) (g : Bool) (tl : List UInt8) : UKey (showL 26 dst src imm size k g cond tl) 26 0 false 0 (asOf 26 dst src imm size k g tl) := by
  have hm : ∀ a ∈ asOf 26 dst src imm size k g tl, NoC 44 a := by
    intro a ha
    simp only [asOf, List.mem_cons, List.mem_nil_iff, or_false] at ha
    rcases ha with rfl | rfl
    · exact noC_i _
    · exact noC_r _ _
  have hcl : (asOf 26 dst src imm size k g tl).map uCls = [1, 0] := by
    simp only [asOf, List.map_cons, List.map_nil, cls_i _, cls_r _]
  exact ⟨[115, 104, 114, 113], by simp [showL, uForm, asOf], by unfold NoC; decide, hm, by simp [asOf], by rw [hcl]; kernel_rfl⟩
theorem key_27 (dst src imm size cond : Int) (k : Nat) (g : Bool) (tl : List UInt8) : UKey (showL 27 dst src imm size k g cond tl) 27 0 false 0 (asOf 27 dst src imm size k g tl) := by
  have hm : ∀ a ∈ asOf 27 dst src imm size k g tl, NoC 44 a := by
    intro a ha; cases ha
  have hcl : (asOf 27 dst src imm size k g tl).map uCls = [] := by
    rfl
  exact ⟨[99, 113, 116, 111], by simp [showL, uForm, asOf], by unfold NoC; decide, hm, by simp [asOf], by rw [hcl]; kernel_rfl⟩
theorem key_28 (dst src imm size cond : Int) (k : Nat) (g : Bool) (tl : List UInt8) : UKey (showL 28 dst src imm size k g cond tl) 28 0 false 0 (asOf 28 dst src imm size k g tl) := by
  have hm : ∀ a ∈ asOf 28 dst src imm size k g tl, NoC 44 a := by
    intro a ha
    simp only [asOf, List.mem_cons, List.mem_nil_iff, or_false] at ha
    rcases ha with rfl
    · exact noC_r _ _
  have hcl : (asOf 28 dst src imm size k g tl).map uCls = [0] := by
    simp only [asOf, List.map_cons, List.map_nil, cls_r _]
  exact ⟨[105, 100, 105, 118, 113], by simp [showL, uForm, asOf], by unfold NoC; decide, hm, by simp [asOf], by rw [hcl]; kernel_rfl⟩
theorem key_29 (dst src imm size cond : Int) (k : Nat) (g : Bool) (tl : List UInt8) : UKey (showL 29 dst src imm size k g cond tl) 29 0 false 0 (asOf 29 dst src imm size k g tl) := by
  have hm : ∀ a ∈ asOf 29 dst src imm size k g tl, NoC 44 a := by
    intro a ha
    simp only [asOf, List.mem_cons, List.mem_nil_iff, or_false] at ha
    rcases ha with rfl
    · exact noC_r _ _
  have hcl : (asOf 29 dst src imm size k g tl).map uCls = [0] := by
    simp only [asOf, List.map_cons, List.map_nil, cls_r _]
  exact ⟨[100, 105, 118, 113], by simp [showL, uForm, asOf], by unfold NoC; decide, hm, by simp [asOf], by rw [hcl]; kernel_rfl⟩
theorem key_30 (dst src imm size cond : Int) (k : Nat) (g : Bool) (tl : List UInt8) (hk : k < 4) (hkg : ¬ (k = 3 ∧ g = true)) (hk3 : k < 3) : UKey (showL 30 dst src imm size k g cond tl) 30 k g 0 (asOf 30 dst src imm size k g tl) := by
  have hm : ∀ a ∈ asOf 30 dst src imm size k g tl, NoC 44 a := by
    intro a ha
    simp only [asOf, List.mem_cons, List.mem_nil_iff, or_false] at ha
    rcases ha with rfl | rfl
    · exact noC_r _ _
    · exact noC_r _ _
  have hcl : (asOf 30 dst src imm size k g tl).map uCls = [0, 0] := by
    simp only [asOf, List.map_cons, List.map_nil, cls_r _]
  match k, g, hk, hkg, hk3, hm, hcl with
  | 0, false, hk, hkg, hk3, hm, hcl => exact ⟨[109, 111, 118, 122, 98, 113], by simp [showL, uForm, asOf, moveF], by unfold NoC; decide, hm, by simp [asOf], by rw [hcl]; kernel_rfl⟩
  | 0, true, hk, hkg, hk3, hm, hcl => exact ⟨[109, 111, 118, 115, 98, 113], by simp [showL, uForm, asOf, moveF], by unfold NoC; decide, hm, by simp [asOf], by rw [hcl]; kernel_rfl⟩
  | 1, false, hk, hkg, hk3, hm, hcl => exact ⟨[109, 111, 118, 122, 119, 113], by simp [showL, uForm, asOf, moveF], by unfold NoC; decide, hm, by simp [asOf], by rw [hcl]; kernel_rfl⟩
  | 1, true, hk, hkg, hk3, hm, hcl => exact ⟨[109, 111, 118, 115, 119, 113], by simp [showL, uForm, asOf, moveF], by unfold NoC; decide, hm, by simp [asOf], by rw [hcl]; kernel_rfl⟩
  | 2, false, hk, hkg, hk3, hm, hcl => exact ⟨[109, 111, 118, 108], by simp [showL, uForm, asOf, moveF], by unfold NoC; decide, hm, by simp [asOf], by rw [hcl]; kernel_rfl⟩
  | 2, true, hk, hkg, hk3, hm, hcl => exact ⟨[109, 111, 118, 115, 108, 113], by simp [showL, uForm, asOf, moveF], by unfold NoC; decide, hm, by simp [asOf], by rw [hcl]; kernel_rfl⟩
theorem key_31 (dst src imm size cond : Int) (k : Nat) (g : Bool) (tl : List UInt8) (hc : 0 ≤ cond ∧ cond ≤ 9) : UKey (showL 31 dst src imm size k g cond tl) 31 0 false cond.toNat (asOf 31 dst src imm size k g tl) := by
  have hm : ∀ a ∈ asOf 31 dst src imm size k g tl, NoC 44 a := by
    intro a ha
    simp only [asOf, List.mem_cons, List.mem_nil_iff, or_false] at ha
    rcases ha with rfl
    · exact noC_r _ _
  have hcl : (asOf 31 dst src imm size k g tl).map uCls = [0] := by
    simp only [asOf, List.map_cons, List.map_nil, cls_r _]
  have hcs : cond = 0 ∨ cond = 1 ∨ cond = 2 ∨ cond = 3 ∨ cond = 4 ∨ cond = 5 ∨ cond = 6 ∨ cond = 7 ∨ cond = 8 ∨ cond = 9 := by omega
  rcases hcs with rfl | rfl | rfl | rfl | rfl | rfl | rfl | rfl | rfl | rfl
  · exact ⟨[115, 101, 116, 101], by simp [showL, uForm, asOf, condF, condT], by unfold NoC; decide, hm, by simp [asOf], by rw [hcl]; kernel_rfl⟩
  · exact ⟨[115, 101, 116, 110, 101], by simp [showL, uForm, asOf, condF, condT], by unfold NoC; decide, hm, by simp [asOf], by rw [hcl]; kernel_rfl⟩
  · exact ⟨[115, 101, 116, 108], by simp [showL, uForm, asOf, condF, condT], by unfold NoC; decide, hm, by simp [asOf], by rw [hcl]; kernel_rfl⟩
  · exact ⟨[115, 101, 116, 108, 101], by simp [showL, uForm, asOf, condF, condT], by unfold NoC; decide, hm, by simp [asOf], by rw [hcl]; kernel_rfl⟩
  · exact ⟨[115, 101, 116, 103], by simp [showL, uForm, asOf, condF, condT], by unfold NoC; decide, hm, by simp [asOf], by rw [hcl]; kernel_rfl⟩
  · exact ⟨[115, 101, 116, 103, 101], by simp [showL, uForm, asOf, condF, condT], by unfold NoC; decide, hm, by simp [asOf], by rw [hcl]; kernel_rfl⟩
  · exact ⟨[115, 101, 116, 98], by simp [showL, uForm, asOf, condF, condT], by unfold NoC; decide, hm, by simp [asOf], by rw [hcl]; kernel_rfl⟩
  · exact ⟨[115, 101, 116, 98, 101], by simp [showL, uForm, asOf, condF, condT], by unfold NoC; decide, hm, by simp [asOf], by rw [hcl]; kernel_rfl⟩
  · exact ⟨[115, 101, 116, 97], by simp [showL, uForm, asOf, condF, condT], by unfold NoC; decide, hm, by simp [asOf], by rw [hcl]; kernel_rfl⟩
  · exact ⟨[115, 101, 116, 97, 101], by simp [showL, uForm, asOf, condF, condT], by unfold NoC; decide, hm, by simp [asOf], by rw [hcl]; kernel_rfl⟩
theorem key_32 (dst src imm size cond : Int) (k : Nat) (g : Bool) (tl : List UInt8) (hc : 0 ≤ cond ∧ cond ≤ 9) : UKey (showL 32 dst src imm size k g cond tl) 32 0 false cond.toNat (asOf 32 dst src imm size k g tl) := by
  have hm : ∀ a ∈ asOf 32 dst src imm size k g tl, NoC 44 a := by
    intro a ha
    simp only [asOf, List.mem_cons, List.mem_nil_iff, or_false] at ha
    rcases ha with rfl | rfl
    · exact noC_r _ _
    · exact noC_r _ _
  have hcl : (asOf 32 dst src imm size k g tl).map uCls = [0, 0] := by
    simp only [asOf, List.map_cons, List.map_nil, cls_r _]
  have hcs : cond = 0 ∨ cond = 1 ∨ cond = 2 ∨ cond = 3 ∨ cond = 4 ∨ cond = 5 ∨ cond = 6 ∨ cond = 7 ∨ cond = 8 ∨ cond = 9 := by omega
  rcases hcs with rfl | rfl | rfl | rfl | rfl | rfl | rfl | rfl | rfl | rfl
  · exact ⟨[99, 109, 111, 118, 101, 113], by simp [showL, uForm, asOf, condF, condT], by unfold NoC; decide, hm, by simp [asOf], by rw [hcl]; kernel_rfl⟩
  · exact ⟨[99, 109, 111, 118, 110, 101, 113], by simp [showL, uForm, asOf, condF, condT], by unfold NoC; decide, hm, by simp [asOf], by rw [hcl]; kernel_rfl⟩
  · exact ⟨[99, 109, 111, 118, 108, 113], by simp [showL, uForm, asOf, condF, condT], by unfold NoC; decide, hm, by simp [asOf], by rw [hcl]; kernel_rfl⟩
  · exact ⟨[99, 109, 111, 118, 108, 101, 113], by simp [showL, uForm, asOf, condF, condT], by unfold NoC; decide, hm, by simp [asOf], by rw [hcl]; kernel_rfl⟩
  · exact ⟨[99, 109, 111, 118, 103, 113], by simp [showL, uForm, asOf, condF, condT], by unfold NoC; decide, hm, by simp [asOf], by rw [hcl]; kernel_rfl⟩
  · exact ⟨[99, 109, 111, 118, 103, 101, 113], by simp [showL, uForm, asOf, condF, condT], by unfold NoC; decide, hm, by simp [asOf], by rw [hcl]; kernel_rfl⟩
  · exact ⟨[99, 109, 111, 118, 98, 113], by simp [showL, uForm, asOf, condF, condT], by unfold NoC; decide, hm, by simp [asOf], by rw [hcl]; kernel_rfl⟩
  · exact ⟨[99, 109, 111, 118, 98, 101, 113], by simp [showL, uForm, asOf, condF, condT], by unfold NoC; decide, hm, by simp [asOf], by rw [hcl]; kernel_rfl⟩
  · exact ⟨[99, 109, 111, 118, 97, 113], by simp [showL, uForm, asOf, condF, condT], by unfold NoC; decide, hm, by simp [asOf], by rw [hcl]; kernel_rfl⟩
  · exact ⟨[99, 109, 111, 118, 97, 101, 113], by simp [showL, uForm, asOf, condF, condT], by unfold NoC; decide, hm, by simp [asOf], by rw [hcl]; kernel_rfl⟩
theorem key_33 (dst src imm size cond : Int) (k : Nat) (g : Bool) (tl : List UInt8) (ht : namedB ⟨⟨tl⟩⟩ = true) : UKey (showL 33 dst src imm size k g cond tl) 33 0 false 0 (asOf 33 dst src imm size k g tl) := by
  have hm : ∀ a ∈ asOf 33 dst src imm size k g tl, NoC 44 a := by
    intro a ha
    simp only [asOf, List.mem_cons, List.mem_nil_iff, or_false] at ha
    rcases ha with rfl
    · exact named_noC ht
  have hcl : (asOf 33 dst src imm size k g tl).map uCls = [4] := by
    simp only [asOf, List.map_cons, List.map_nil, cls_t ht]
  exact ⟨[106, 109, 112], by simp [showL, uForm, asOf], by unfold NoC; decide, hm, by simp [asOf], by rw [hcl]; kernel_rfl⟩
theorem key_34 (dst src imm size cond : Int) (k : Nat) (g : Bool) (tl : List UInt8) (hc : 0 ≤ cond ∧ cond ≤ 9) (ht : namedB ⟨⟨tl⟩⟩ = true) : UKey (showL 34 dst src imm size k g cond tl) 34 0 false cond.toNat (asOf 34 dst src imm size k g tl) := by
  have hm : ∀ a ∈ asOf 34 dst src imm size k g tl, NoC 44 a := by
    intro a ha
    simp only [asOf, List.mem_cons, List.mem_nil_iff, or_false] at ha
    rcases ha with rfl
    · exact named_noC ht
  have hcl : (asOf 34 dst src imm size k g tl).map uCls = [4] := by
    simp only [asOf, List.map_cons, List.map_nil, cls_t ht]
  have hcs : cond = 0 ∨ cond = 1 ∨ cond = 2 ∨ cond = 3 ∨ cond = 4 ∨ cond = 5 ∨ cond = 6 ∨ cond = 7 ∨ cond = 8 ∨ cond = 9 := by omega
  rcases hcs with rfl | rfl | rfl | rfl | rfl | rfl | rfl | rfl | rfl | rfl
  · exact ⟨[106, 101], by simp [showL, uForm, asOf, condF, condT], by unfold NoC; decide, hm, by simp [asOf], by rw [hcl]; kernel_rfl⟩
  · exact ⟨[106, 110, 101], by simp [showL, uForm, asOf, condF, condT], by unfold NoC; decide, hm, by simp [asOf], by rw [hcl]; kernel_rfl⟩
  · exact ⟨[106, 108], by simp [showL, uForm, asOf, condF, condT], by unfold NoC; decide, hm, by simp [asOf], by rw [hcl]; kernel_rfl⟩
  · exact ⟨[106, 108, 101], by simp [showL, uForm, asOf, condF, condT], by unfold NoC; decide, hm, by simp [asOf], by rw [hcl]; kernel_rfl⟩
  · exact ⟨[106, 103], by simp [showL, uForm, asOf, condF, condT], by unfold NoC; decide, hm, by simp [asOf], by rw [hcl]; kernel_rfl⟩
  · exact ⟨[106, 103, 101], by simp [showL, uForm, asOf, condF, condT], by unfold NoC; decide, hm, by simp [asOf], by rw [hcl]; kernel_rfl⟩
  · exact ⟨[106, 98], by simp [showL, uForm, asOf, condF, condT], by unfold NoC; decide, hm, by simp [asOf], by rw [hcl]; kernel_rfl⟩
  · exact ⟨[106, 98, 101], by simp [showL, uForm, asOf, condF, condT], by unfold NoC; decide, hm, by simp [asOf], by rw [hcl]; kernel_rfl⟩
  · exact ⟨[106, 97], by simp [showL, uForm, asOf, condF, condT], by unfold NoC; decide, hm, by simp [asOf], by rw [hcl]; kernel_rfl⟩
  · exact ⟨[106, 97, 101], by simp [showL, uForm, asOf, condF, condT], by unfold NoC; decide, hm, by simp [asOf], by rw [hcl]; kernel_rfl⟩
theorem key_35 (dst src imm size cond : Int) (k : Nat) (g : Bool) (tl : List UInt8) (ht : namedB ⟨⟨tl⟩⟩ = true) : UKey (showL 35 dst src imm size k g cond tl) 35 0 false 0 (asOf 35 dst src imm size k g tl) := by
  have hm : ∀ a ∈ asOf 35 dst src imm size k g tl, NoC 44 a := by
    intro a ha
    simp only [asOf, List.mem_cons, List.mem_nil_iff, or_false] at ha
    rcases ha with rfl
    · exact named_noC ht
  have hcl : (asOf 35 dst src imm size k g tl).map uCls = [4] := by
    simp only [asOf, List.map_cons, List.map_nil, cls_t ht]
  exact ⟨[99, 97, 108, 108], by simp [showL, uForm, asOf], by unfold NoC; decide, hm, by simp [asOf], by rw [hcl]; kernel_rfl⟩
theorem key_36 (dst src imm size cond : Int) (k : Nat) (g : Bool) (tl : List UInt8) : UKey (showL 36 dst src imm size k g cond tl) 36 0 false 0 (asOf 36 dst src imm size k g tl) := by
  have hm : ∀ a ∈ asOf 36 dst src imm size k g tl, NoC 44 a := by
    intro a ha
    simp only [asOf, List.mem_cons, List.mem_nil_iff, or_false] at ha
    rcases ha with rfl
    · exact noC_s _
  have hcl : (asOf 36 dst src imm size k g tl).map uCls = [2] := by
    simp only [asOf, List.map_cons, List.map_nil, cls_s _]
  exact ⟨[99, 97, 108, 108], by simp [showL, uForm, asOf], by unfold NoC; decide, hm, by simp [asOf], by rw [hcl]; kernel_rfl⟩
theorem key_37 (dst src imm size cond : Int) (k : Nat) (g : Bool) (tl : List UInt8) : UKey (showL 37 dst src imm size k g cond tl) 37 0 false 0 (asOf 37 dst src imm size k g tl) := by
  have hm : ∀ a ∈ asOf 37 dst src imm size k g tl, NoC 44 a := by
    intro a ha
    simp only [asOf, List.mem_cons, List.mem_nil_iff, or_false] at ha
    rcases ha with rfl
    · exact noC_s _
  have hcl : (asOf 37 dst src imm size k g tl).map uCls = [2] := by
    simp only [asOf, List.map_cons, List.map_nil, cls_s _]
  exact ⟨[106, 109, 112], by simp [showL, uForm, asOf], by unfold NoC; decide, hm, by simp [asOf], by rw [hcl]; kernel_rfl⟩
theorem key_38 (dst src imm size cond : Int) (k : Nat) (g : Bool) (tl : List UInt8) : UKey (showL 38 dst src imm size k g cond tl) 38 0 false 0 (asOf 38 dst src imm size k g tl) := by
  have hm : ∀ a ∈ asOf 38 dst src imm size k g tl, NoC 44 a := by
    intro a ha; cases ha
  have hcl : (asOf 38 dst src imm size k g tl).map uCls = [] := by
    rfl
  exact ⟨[114, 101, 116], by simp [showL, uForm, asOf], by unfold NoC; decide, hm, by simp [asOf], by rw [hcl]; kernel_rfl⟩
theorem key_39 (dst src imm size cond : Int) (k : Nat) (g : Bool) (tl : List UInt8) : UKey (showL 39 dst src imm size k g cond tl) 39 0 false 0 (asOf 39 dst src imm size k g tl) := by
  have hm : ∀ a ∈ asOf 39 dst src imm size k g tl, NoC 44 a := by
    intro a ha; cases ha
  have hcl : (asOf 39 dst src imm size k g tl).map uCls = [] := by
    rfl
  exact ⟨[108, 102, 101, 110, 99, 101], by simp [showL, uForm, asOf], by unfold NoC; decide, hm, by simp [asOf], by rw [hcl]; kernel_rfl⟩
theorem key_40 (dst src imm size cond : Int) (k : Nat) (g : Bool) (tl : List UInt8) : UKey (showL 40 dst src imm size k g cond tl) 40 0 false 0 (asOf 40 dst src imm size k g tl) := by
  have hm : ∀ a ∈ asOf 40 dst src imm size k g tl, NoC 44 a := by
    intro a ha
    simp only [asOf, List.mem_cons, List.mem_nil_iff, or_false] at ha
    rcases ha with rfl
    · exact noC_r _ _
  have hcl : (asOf 40 dst src imm size k g tl).map uCls = [0] := by
    simp only [asOf, List.map_cons, List.map_nil, cls_r _]
  exact ⟨[111, 117, 116, 113], by simp [showL, uForm, asOf], by unfold NoC; decide, hm, by simp [asOf], by rw [hcl]; kernel_rfl⟩
theorem key_41 (dst src imm size cond : Int) (k : Nat) (g : Bool) (tl : List UInt8) : UKey (showL 41 dst src imm size k g cond tl) 41 0 false 0 (asOf 41 dst src imm size k g tl) := by
  have hm : ∀ a ∈ asOf 41 dst src imm size k g tl, NoC 44 a := by
    intro a ha; cases ha
  have hcl : (asOf 41 dst src imm size k g tl).map uCls = [] := by
    rfl
  exact ⟨[104, 108, 116], by simp [showL, uForm, asOf], by unfold NoC; decide, hm, by simp [asOf], by rw [hcl]; kernel_rfl⟩
def kK (op : Int) (k : Nat) : Nat := if op = 3 ∨ op = 4 ∨ op = 30 then k else 0
def kG (op : Int) (g : Bool) : Bool := if op = 3 ∨ op = 30 then g else false
def kC (op : Int) (cond : Int) : Nat := if op = 31 ∨ op = 32 ∨ op = 34 then cond.toNat else 0
theorem key_all {op dst src imm size cond : Int} {g : Bool} {tl : List UInt8} (h : goodP op dst src imm size g cond tl) : UKey (showL op dst src imm size (kOf size) g cond tl) op.toNat (kK op (kOf size)) (kG op g) (kC op cond) (asOf op.toNat dst src imm size (kOf size) g tl) := by
  obtain ⟨hR, hn⟩ := h
  have hk := kOf_lt size
  have hop : op = 1 ∨ op = 2 ∨ op = 3 ∨ op = 4 ∨ op = 5 ∨ op = 6 ∨ op = 7 ∨ op = 8 ∨ op = 9 ∨ op = 10 ∨ op = 11 ∨ op = 12 ∨ op = 13 ∨ op = 14 ∨ op = 15 ∨ op = 16 ∨ op = 17 ∨ op = 18 ∨ op = 19 ∨ op = 20 ∨ op = 21 ∨ op = 22 ∨ op = 23 ∨ op = 24 ∨ op = 25 ∨ op = 26 ∨ op = 27 ∨ op = 28 ∨ op = 29 ∨ op = 30 ∨ op = 31 ∨ op = 32 ∨ op = 33 ∨ op = 34 ∨ op = 35 ∨ op = 36 ∨ op = 37 ∨ op = 38 ∨ op = 39 ∨ op = 40 ∨ op = 41 := by unfold RQ RP at hR; omega
  rcases hop with rfl | rfl | rfl | rfl | rfl | rfl | rfl | rfl | rfl | rfl | rfl | rfl | rfl | rfl | rfl | rfl | rfl | rfl | rfl | rfl | rfl | rfl | rfl | rfl | rfl | rfl | rfl | rfl | rfl | rfl | rfl | rfl | rfl | rfl | rfl | rfl | rfl | rfl | rfl | rfl | rfl
  · exact key_1 dst src imm size cond (kOf size) g tl
  · exact key_2 dst src imm size cond (kOf size) g tl
  · exact key_3 dst src imm size cond (kOf size) g tl hk (kg_ok hR (by decide))
  · exact key_4 dst src imm size cond (kOf size) g tl hk
  · exact key_5 dst src imm size cond (kOf size) g tl
  · exact key_6 dst src imm size cond (kOf size) g tl (hn rfl)
  · exact key_7 dst src imm size cond (kOf size) g tl
  · exact key_8 dst src imm size cond (kOf size) g tl
  · exact key_9 dst src imm size cond (kOf size) g tl
  · exact key_10 dst src imm size cond (kOf size) g tl
  · exact key_11 dst src imm size cond (kOf size) g tl
  · exact key_12 dst src imm size cond (kOf size) g tl
  · exact key_13 dst src imm size cond (kOf size) g tl
  · exact key_14 dst src imm size cond (kOf size) g tl
  · exact key_15 dst src imm size cond (kOf size) g tl
  · exact key_16 dst src imm size cond (kOf size) g tl
  · exact key_17 dst src imm size cond (kOf size) g tl
  · exact key_18 dst src imm size cond (kOf size) g tl
  · exact key_19 dst src imm size cond (kOf size) g tl
  · exact key_20 dst src imm size cond (kOf size) g tl
  · exact key_21 dst src imm size cond (kOf size) g tl
  · exact key_22 dst src imm size cond (kOf size) g tl
  · exact key_23 dst src imm size cond (kOf size) g tl
  · exact key_24 dst src imm size cond (kOf size) g tl
  · exact key_25 dst src imm size cond (kOf size) g tl
  · exact key_26 dst src imm size cond (kOf size) g tl
  · exact key_27 dst src imm size cond (kOf size) g tl
  · exact key_28 dst src imm size cond (kOf size) g tl
  · exact key_29 dst src imm size cond (kOf size) g tl
  · exact key_30 dst src imm size cond (kOf size) g tl hk (kg_ok hR (by decide)) (k30_ok hR)
  · exact key_31 dst src imm size cond (kOf size) g tl (c_ok hR (by decide))
  · exact key_32 dst src imm size cond (kOf size) g tl (c_ok hR (by decide))
  · exact key_33 dst src imm size cond (kOf size) g tl (hn rfl)
  · exact key_34 dst src imm size cond (kOf size) g tl (c_ok hR (by decide)) (hn rfl)
  · exact key_35 dst src imm size cond (kOf size) g tl (hn rfl)
  · exact key_36 dst src imm size cond (kOf size) g tl
  · exact key_37 dst src imm size cond (kOf size) g tl
  · exact key_38 dst src imm size cond (kOf size) g tl
  · exact key_39 dst src imm size cond (kOf size) g tl
  · exact key_40 dst src imm size cond (kOf size) g tl
  · exact key_41 dst src imm size cond (kOf size) g tl
theorem same_1 {dst src imm size cond : Int} {g : Bool} {tl : List UInt8} {dst1 src1 imm1 size1 cond1 : Int} {g1 : Bool} {tl1 : List UInt8} (h : RQ 1 dst src imm size g cond tl) (h1 : RQ 1 dst1 src1 imm1 size1 g1 cond1 tl1) (hk : kK 1 (kOf size) = kK 1 (kOf size1)) (hg : kG 1 g = kG 1 g1) (hc : kC 1 cond = kC 1 cond1) (e : asOf 1 dst src imm size (kOf size) g tl = asOf 1 dst1 src1 imm1 size1 (kOf size1) g1 tl1) : USame dst src imm size g cond tl dst1 src1 imm1 size1 g1 cond1 tl1 := by
  have z := rq_emp h (by decide)
  have z1 := rq_emp h1 (by decide)
  have ez : size = size1 := by unfold RQ RP lZ at h h1; omega
  have eg : g = g1 := by rw [rq_g h (by decide), rq_g h1 (by decide)]
  have ec : cond = cond1 := by unfold RQ RP lC at h h1; omega
  subst ez eg ec
  simp only [asOf, List.cons.injEq, and_true, true_and] at e
  have esrc : src = src1 := want_inj (rq_src h) (rq_src h1) (Or.inl rfl) (e.1)
  have edst : dst = dst1 := want_inj (rq_dst h) (rq_dst h1) (Or.inl rfl) (e.2)
  have eimm : imm = imm1 := by unfold RQ RP lI at h h1; omega
  have etl : tl = tl1 := by rw [z, z1]
  exact ⟨edst, esrc, eimm, rfl, rfl, rfl, etl⟩
theorem same_2 {dst src imm size cond : Int} {g : Bool} {tl : List UInt8} {dst1 src1 imm1 size1 cond1 : Int} {g1 : Bool} {tl1 : List UInt8} (h : RQ 2 dst src imm size g cond tl) (h1 : RQ 2 dst1 src1 imm1 size1 g1 cond1 tl1) (hk : kK 2 (kOf size) = kK 2 (kOf size1)) (hg : kG 2 g = kG 2 g1) (hc : kC 2 cond = kC 2 cond1) (e : asOf 2 dst src imm size (kOf size) g tl = asOf 2 dst1 src1 imm1 size1 (kOf size1) g1 tl1) : USame dst src imm size g cond tl dst1 src1 imm1 size1 g1 cond1 tl1 := by
  have z := rq_emp h (by decide)
  have z1 := rq_emp h1 (by decide)
  have ez : size = size1 := by unfold RQ RP lZ at h h1; omega
  have eg : g = g1 := by rw [rq_g h (by decide), rq_g h1 (by decide)]
  have ec : cond = cond1 := by unfold RQ RP lC at h h1; omega
  subst ez eg ec
  simp only [asOf, List.cons.injEq, and_true, true_and] at e
  have eimm : imm = imm1 := itoa_inj (e.1)
  have edst : dst = dst1 := want_inj (rq_dst h) (rq_dst h1) (Or.inl rfl) (e.2)
  have esrc : src = src1 := by unfold RQ RP lS at h h1; omega
  have etl : tl = tl1 := by rw [z, z1]
  exact ⟨edst, esrc, eimm, rfl, rfl, rfl, etl⟩
theorem same_3 {dst src imm size cond : Int} {g : Bool} {tl : List UInt8} {dst1 src1 imm1 size1 cond1 : Int} {g1 : Bool} {tl1 : List UInt8} (h : RQ 3 dst src imm size g cond tl) (h1 : RQ 3 dst1 src1 imm1 size1 g1 cond1 tl1) (hk : kK 3 (kOf size) = kK 3 (kOf size1)) (hg : kG 3 g = kG 3 g1) (hc : kC 3 cond = kC 3 cond1) (e : asOf 3 dst src imm size (kOf size) g tl = asOf 3 dst1 src1 imm1 size1 (kOf size1) g1 tl1) : USame dst src imm size g cond tl dst1 src1 imm1 size1 g1 cond1 tl1 := by
  have z := rq_emp h (by decide)
  have z1 := rq_emp h1 (by decide)
  have ez : size = size1 := kOf_inj (rq_size h (by decide)) (rq_size h1 (by decide)) hk
  have eg : g = g1 := hg
  have ec : cond = cond1 := by unfold RQ RP lC at h h1; omega
  subst ez eg ec
  simp only [asOf, List.cons.injEq, and_true, true_and] at e
  obtain ⟨eimm, esrc⟩ := at_inj (rq_src h) (rq_src h1) e.1
  have edst : dst = dst1 := want_inj (rq_dst h) (rq_dst h1) (mv_size _ _) (e.2)
  have etl : tl = tl1 := by rw [z, z1]
  exact ⟨edst, esrc, eimm, rfl, rfl, rfl, etl⟩
theorem same_4 {dst src imm size cond : Int} {g : Bool} {tl : List UInt8} {dst1 src1 imm1 size1 cond1 : Int} {g1 : Bool} {tl1 : List UInt8} (h : RQ 4 dst src imm size g cond tl) (h1 : RQ 4 dst1 src1 imm1 size1 g1 cond1 tl1) (hk : kK 4 (kOf size) = kK 4 (kOf size1)) (hg : kG 4 g = kG 4 g1) (hc : kC 4 cond = kC 4 cond1) (e : asOf 4 dst src imm size (kOf size) g tl = asOf 4 dst1 src1 imm1 size1 (kOf size1) g1 tl1) : USame dst src imm size g cond tl dst1 src1 imm1 size1 g1 cond1 tl1 := by
  have z := rq_emp h (by decide)
  have z1 := rq_emp h1 (by decide)
  have ez : size = size1 := kOf_inj (rq_size h (by decide)) (rq_size h1 (by decide)) hk
  have eg : g = g1 := by rw [rq_g h (by decide), rq_g h1 (by decide)]
  have ec : cond = cond1 := by unfold RQ RP lC at h h1; omega
  subst ez eg ec
  simp only [asOf, List.cons.injEq, and_true, true_and] at e
  have esrc : src = src1 := want_inj (rq_src h) (rq_src h1) (rq_size4 h (by decide)) (e.1)
  obtain ⟨eimm, edst⟩ := at_inj (rq_dst h) (rq_dst h1) e.2
  have etl : tl = tl1 := by rw [z, z1]
  exact ⟨edst, esrc, eimm, rfl, rfl, rfl, etl⟩
theorem same_5 {dst src imm size cond : Int} {g : Bool} {tl : List UInt8} {dst1 src1 imm1 size1 cond1 : Int} {g1 : Bool} {tl1 : List UInt8} (h : RQ 5 dst src imm size g cond tl) (h1 : RQ 5 dst1 src1 imm1 size1 g1 cond1 tl1) (hk : kK 5 (kOf size) = kK 5 (kOf size1)) (hg : kG 5 g = kG 5 g1) (hc : kC 5 cond = kC 5 cond1) (e : asOf 5 dst src imm size (kOf size) g tl = asOf 5 dst1 src1 imm1 size1 (kOf size1) g1 tl1) : USame dst src imm size g cond tl dst1 src1 imm1 size1 g1 cond1 tl1 := by
  have z := rq_emp h (by decide)
  have z1 := rq_emp h1 (by decide)
  have ez : size = size1 := by unfold RQ RP lZ at h h1; omega
  have eg : g = g1 := by rw [rq_g h (by decide), rq_g h1 (by decide)]
  have ec : cond = cond1 := by unfold RQ RP lC at h h1; omega
  subst ez eg ec
  simp only [asOf, List.cons.injEq, and_true, true_and] at e
  obtain ⟨eimm, esrc⟩ := at_inj (rq_src h) (rq_src h1) e.1
  have edst : dst = dst1 := want_inj (rq_dst h) (rq_dst h1) (Or.inl rfl) (e.2)
  have etl : tl = tl1 := by rw [z, z1]
  exact ⟨edst, esrc, eimm, rfl, rfl, rfl, etl⟩
theorem same_6 {dst src imm size cond : Int} {g : Bool} {tl : List UInt8} {dst1 src1 imm1 size1 cond1 : Int} {g1 : Bool} {tl1 : List UInt8} (h : RQ 6 dst src imm size g cond tl) (h1 : RQ 6 dst1 src1 imm1 size1 g1 cond1 tl1) (hk : kK 6 (kOf size) = kK 6 (kOf size1)) (hg : kG 6 g = kG 6 g1) (hc : kC 6 cond = kC 6 cond1) (e : asOf 6 dst src imm size (kOf size) g tl = asOf 6 dst1 src1 imm1 size1 (kOf size1) g1 tl1) : USame dst src imm size g cond tl dst1 src1 imm1 size1 g1 cond1 tl1 := by
  have z := True.intro
  have z1 := True.intro
  have ez : size = size1 := by unfold RQ RP lZ at h h1; omega
  have eg : g = g1 := by rw [rq_g h (by decide), rq_g h1 (by decide)]
  have ec : cond = cond1 := by unfold RQ RP lC at h h1; omega
  subst ez eg ec
  simp only [asOf, List.cons.injEq, and_true, true_and] at e
  have etl : tl = tl1 := List.append_cancel_right e.1
  have edst : dst = dst1 := want_inj (rq_dst h) (rq_dst h1) (Or.inl rfl) (e.2)
  have esrc : src = src1 := by unfold RQ RP lS at h h1; omega
  have eimm : imm = imm1 := by unfold RQ RP lI at h h1; omega
  exact ⟨edst, esrc, eimm, rfl, rfl, rfl, etl⟩
theorem same_7 {dst src imm size cond : Int} {g : Bool} {tl : List UInt8} {dst1 src1 imm1 size1 cond1 : Int} {g1 : Bool} {tl1 : List UInt8} (h : RQ 7 dst src imm size g cond tl) (h1 : RQ 7 dst1 src1 imm1 size1 g1 cond1 tl1) (hk : kK 7 (kOf size) = kK 7 (kOf size1)) (hg : kG 7 g = kG 7 g1) (hc : kC 7 cond = kC 7 cond1) (e : asOf 7 dst src imm size (kOf size) g tl = asOf 7 dst1 src1 imm1 size1 (kOf size1) g1 tl1) : USame dst src imm size g cond tl dst1 src1 imm1 size1 g1 cond1 tl1 := by
  have z := rq_emp h (by decide)
  have z1 := rq_emp h1 (by decide)
  have ez : size = size1 := by unfold RQ RP lZ at h h1; omega
  have eg : g = g1 := by rw [rq_g h (by decide), rq_g h1 (by decide)]
  have ec : cond = cond1 := by unfold RQ RP lC at h h1; omega
  subst ez eg ec
  simp only [asOf, List.cons.injEq, and_true, true_and] at e
  have esrc : src = src1 := want_inj (rq_src h) (rq_src h1) (Or.inl rfl) (e.1)
  have edst : dst = dst1 := want_inj (rq_dst h) (rq_dst h1) (Or.inl rfl) (e.2)
  have eimm : imm = imm1 := by unfold RQ RP lI at h h1; omega
  have etl : tl = tl1 := by rw [z, z1]
  exact ⟨edst, esrc, eimm, rfl, rfl, rfl, etl⟩
theorem same_8 {dst src imm size cond : Int} {g : Bool} {tl : List UInt8} {dst1 src1 imm1 size1 cond1 : Int} {g1 : Bool} {tl1 : List UInt8} (h : RQ 8 dst src imm size g cond tl) (h1 : RQ 8 dst1 src1 imm1 size1 g1 cond1 tl1) (hk : kK 8 (kOf size) = kK 8 (kOf size1)) (hg : kG 8 g = kG 8 g1) (hc : kC 8 cond = kC 8 cond1) (e : asOf 8 dst src imm size (kOf size) g tl = asOf 8 dst1 src1 imm1 size1 (kOf size1) g1 tl1) : USame dst src imm size g cond tl dst1 src1 imm1 size1 g1 cond1 tl1 := by
  have z := rq_emp h (by decide)
  have z1 := rq_emp h1 (by decide)
  have ez : size = size1 := by unfold RQ RP lZ at h h1; omega
  have eg : g = g1 := by rw [rq_g h (by decide), rq_g h1 (by decide)]
  have ec : cond = cond1 := by unfold RQ RP lC at h h1; omega
  subst ez eg ec
  simp only [asOf, List.cons.injEq, and_true, true_and] at e
  have esrc : src = src1 := want_inj (rq_src h) (rq_src h1) (Or.inl rfl) (e.1)
  have edst : dst = dst1 := want_inj (rq_dst h) (rq_dst h1) (Or.inl rfl) (e.2)
  have eimm : imm = imm1 := by unfold RQ RP lI at h h1; omega
  have etl : tl = tl1 := by rw [z, z1]
  exact ⟨edst, esrc, eimm, rfl, rfl, rfl, etl⟩
theorem same_9 {dst src imm size cond : Int} {g : Bool} {tl : List UInt8} {dst1 src1 imm1 size1 cond1 : Int} {g1 : Bool} {tl1 : List UInt8} (h : RQ 9 dst src imm size g cond tl) (h1 : RQ 9 dst1 src1 imm1 size1 g1 cond1 tl1) (hk : kK 9 (kOf size) = kK 9 (kOf size1)) (hg : kG 9 g = kG 9 g1) (hc : kC 9 cond = kC 9 cond1) (e : asOf 9 dst src imm size (kOf size) g tl = asOf 9 dst1 src1 imm1 size1 (kOf size1) g1 tl1) : USame dst src imm size g cond tl dst1 src1 imm1 size1 g1 cond1 tl1 := by
  have z := rq_emp h (by decide)
  have z1 := rq_emp h1 (by decide)
  have ez : size = size1 := by unfold RQ RP lZ at h h1; omega
  have eg : g = g1 := by rw [rq_g h (by decide), rq_g h1 (by decide)]
  have ec : cond = cond1 := by unfold RQ RP lC at h h1; omega
  subst ez eg ec
  simp only [asOf, List.cons.injEq, and_true, true_and] at e
  have esrc : src = src1 := want_inj (rq_src h) (rq_src h1) (Or.inl rfl) (e.1)
  have edst : dst = dst1 := want_inj (rq_dst h) (rq_dst h1) (Or.inl rfl) (e.2)
  have eimm : imm = imm1 := by unfold RQ RP lI at h h1; omega
  have etl : tl = tl1 := by rw [z, z1]
  exact ⟨edst, esrc, eimm, rfl, rfl, rfl, etl⟩
theorem same_10 {dst src imm size cond : Int} {g : Bool} {tl : List UInt8} {dst1 src1 imm1 size1 cond1 : Int} {g1 : Bool} {tl1 : List UInt8} (h : RQ 10 dst src imm size g cond tl) (h1 : RQ 10 dst1 src1 imm1 size1 g1 cond1 tl1) (hk : kK 10 (kOf size) = kK 10 (kOf size1)) (hg : kG 10 g = kG 10 g1) (hc : kC 10 cond = kC 10 cond1) (e : asOf 10 dst src imm size (kOf size) g tl = asOf 10 dst1 src1 imm1 size1 (kOf size1) g1 tl1) : USame dst src imm size g cond tl dst1 src1 imm1 size1 g1 cond1 tl1 := by
  have z := rq_emp h (by decide)
  have z1 := rq_emp h1 (by decide)
  have ez : size = size1 := by unfold RQ RP lZ at h h1; omega
  have eg : g = g1 := by rw [rq_g h (by decide), rq_g h1 (by decide)]
  have ec : cond = cond1 := by unfold RQ RP lC at h h1; omega
  subst ez eg ec
  simp only [asOf, List.cons.injEq, and_true, true_and] at e
  have esrc : src = src1 := want_inj (rq_src h) (rq_src h1) (Or.inl rfl) (e.1)
  have edst : dst = dst1 := want_inj (rq_dst h) (rq_dst h1) (Or.inl rfl) (e.2)
  have eimm : imm = imm1 := by unfold RQ RP lI at h h1; omega
  have etl : tl = tl1 := by rw [z, z1]
  exact ⟨edst, esrc, eimm, rfl, rfl, rfl, etl⟩
theorem same_11 {dst src imm size cond : Int} {g : Bool} {tl : List UInt8} {dst1 src1 imm1 size1 cond1 : Int} {g1 : Bool} {tl1 : List UInt8} (h : RQ 11 dst src imm size g cond tl) (h1 : RQ 11 dst1 src1 imm1 size1 g1 cond1 tl1) (hk : kK 11 (kOf size) = kK 11 (kOf size1)) (hg : kG 11 g = kG 11 g1) (hc : kC 11 cond = kC 11 cond1) (e : asOf 11 dst src imm size (kOf size) g tl = asOf 11 dst1 src1 imm1 size1 (kOf size1) g1 tl1) : USame dst src imm size g cond tl dst1 src1 imm1 size1 g1 cond1 tl1 := by
  have z := rq_emp h (by decide)
  have z1 := rq_emp h1 (by decide)
  have ez : size = size1 := by unfold RQ RP lZ at h h1; omega
  have eg : g = g1 := by rw [rq_g h (by decide), rq_g h1 (by decide)]
  have ec : cond = cond1 := by unfold RQ RP lC at h h1; omega
  subst ez eg ec
  simp only [asOf, List.cons.injEq, and_true, true_and] at e
  have esrc : src = src1 := want_inj (rq_src h) (rq_src h1) (Or.inl rfl) (e.1)
  have edst : dst = dst1 := want_inj (rq_dst h) (rq_dst h1) (Or.inl rfl) (e.2)
  have eimm : imm = imm1 := by unfold RQ RP lI at h h1; omega
  have etl : tl = tl1 := by rw [z, z1]
  exact ⟨edst, esrc, eimm, rfl, rfl, rfl, etl⟩
theorem same_12 {dst src imm size cond : Int} {g : Bool} {tl : List UInt8} {dst1 src1 imm1 size1 cond1 : Int} {g1 : Bool} {tl1 : List UInt8} (h : RQ 12 dst src imm size g cond tl) (h1 : RQ 12 dst1 src1 imm1 size1 g1 cond1 tl1) (hk : kK 12 (kOf size) = kK 12 (kOf size1)) (hg : kG 12 g = kG 12 g1) (hc : kC 12 cond = kC 12 cond1) (e : asOf 12 dst src imm size (kOf size) g tl = asOf 12 dst1 src1 imm1 size1 (kOf size1) g1 tl1) : USame dst src imm size g cond tl dst1 src1 imm1 size1 g1 cond1 tl1 := by
  have z := rq_emp h (by decide)
  have z1 := rq_emp h1 (by decide)
  have ez : size = size1 := by unfold RQ RP lZ at h h1; omega
  have eg : g = g1 := by rw [rq_g h (by decide), rq_g h1 (by decide)]
  have ec : cond = cond1 := by unfold RQ RP lC at h h1; omega
  subst ez eg ec
  simp only [asOf, List.cons.injEq, and_true, true_and] at e
  have esrc : src = src1 := want_inj (rq_src h) (rq_src h1) (Or.inl rfl) (e.1)
  have edst : dst = dst1 := want_inj (rq_dst h) (rq_dst h1) (Or.inl rfl) (e.2)
  have eimm : imm = imm1 := by unfold RQ RP lI at h h1; omega
  have etl : tl = tl1 := by rw [z, z1]
  exact ⟨edst, esrc, eimm, rfl, rfl, rfl, etl⟩
theorem same_13 {dst src imm size cond : Int} {g : Bool} {tl : List UInt8} {dst1 src1 imm1 size1 cond1 : Int} {g1 : Bool} {tl1 : List UInt8} (h : RQ 13 dst src imm size g cond tl) (h1 : RQ 13 dst1 src1 imm1 size1 g1 cond1 tl1) (hk : kK 13 (kOf size) = kK 13 (kOf size1)) (hg : kG 13 g = kG 13 g1) (hc : kC 13 cond = kC 13 cond1) (e : asOf 13 dst src imm size (kOf size) g tl = asOf 13 dst1 src1 imm1 size1 (kOf size1) g1 tl1) : USame dst src imm size g cond tl dst1 src1 imm1 size1 g1 cond1 tl1 := by
  have z := rq_emp h (by decide)
  have z1 := rq_emp h1 (by decide)
  have ez : size = size1 := by unfold RQ RP lZ at h h1; omega
  have eg : g = g1 := by rw [rq_g h (by decide), rq_g h1 (by decide)]
  have ec : cond = cond1 := by unfold RQ RP lC at h h1; omega
  subst ez eg ec
  simp only [asOf, List.cons.injEq, and_true, true_and] at e
  have esrc : src = src1 := want_inj (rq_src h) (rq_src h1) (Or.inl rfl) (e.1)
  have edst : dst = dst1 := want_inj (rq_dst h) (rq_dst h1) (Or.inl rfl) (e.2)
  have eimm : imm = imm1 := by unfold RQ RP lI at h h1; omega
  have etl : tl = tl1 := by rw [z, z1]
  exact ⟨edst, esrc, eimm, rfl, rfl, rfl, etl⟩
theorem same_14 {dst src imm size cond : Int} {g : Bool} {tl : List UInt8} {dst1 src1 imm1 size1 cond1 : Int} {g1 : Bool} {tl1 : List UInt8} (h : RQ 14 dst src imm size g cond tl) (h1 : RQ 14 dst1 src1 imm1 size1 g1 cond1 tl1) (hk : kK 14 (kOf size) = kK 14 (kOf size1)) (hg : kG 14 g = kG 14 g1) (hc : kC 14 cond = kC 14 cond1) (e : asOf 14 dst src imm size (kOf size) g tl = asOf 14 dst1 src1 imm1 size1 (kOf size1) g1 tl1) : USame dst src imm size g cond tl dst1 src1 imm1 size1 g1 cond1 tl1 := by
  have z := rq_emp h (by decide)
  have z1 := rq_emp h1 (by decide)
  have ez : size = size1 := by unfold RQ RP lZ at h h1; omega
  have eg : g = g1 := by rw [rq_g h (by decide), rq_g h1 (by decide)]
  have ec : cond = cond1 := by unfold RQ RP lC at h h1; omega
  subst ez eg ec
  simp only [asOf, List.cons.injEq, and_true, true_and] at e
  have eimm : imm = imm1 := itoa_inj (e.1)
  have edst : dst = dst1 := want_inj (rq_dst h) (rq_dst h1) (Or.inl rfl) (e.2)
  have esrc : src = src1 := by unfold RQ RP lS at h h1; omega
  have etl : tl = tl1 := by rw [z, z1]
  exact ⟨edst, esrc, eimm, rfl, rfl, rfl, etl⟩
theorem same_15 {dst src imm size cond : Int} {g : Bool} {tl : List UInt8} {dst1 src1 imm1 size1 cond1 : Int} {g1 : Bool} {tl1 : List UInt8} (h : RQ 15 dst src imm size g cond tl) (h1 : RQ 15 dst1 src1 imm1 size1 g1 cond1 tl1) (hk : kK 15 (kOf size) = kK 15 (kOf size1)) (hg : kG 15 g = kG 15 g1) (hc : kC 15 cond = kC 15 cond1) (e : asOf 15 dst src imm size (kOf size) g tl = asOf 15 dst1 src1 imm1 size1 (kOf size1) g1 tl1) : USame dst src imm size g cond tl dst1 src1 imm1 size1 g1 cond1 tl1 := by
  have z := rq_emp h (by decide)
  have z1 := rq_emp h1 (by decide)
  have ez : size = size1 := by unfold RQ RP lZ at h h1; omega
  have eg : g = g1 := by rw [rq_g h (by decide), rq_g h1 (by decide)]
  have ec : cond = cond1 := by unfold RQ RP lC at h h1; omega
  subst ez eg ec
  simp only [asOf, List.cons.injEq, and_true, true_and] at e
  have eimm : imm = imm1 := itoa_inj (e.1)
  have edst : dst = dst1 := want_inj (rq_dst h) (rq_dst h1) (Or.inl rfl) (e.2)
  have esrc : src = src1 := by unfold RQ RP lS at h h1; omega
  have etl : tl = tl1 := by rw [z, z1]
  exact ⟨edst, esrc, eimm, rfl, rfl, rfl, etl⟩
theorem same_16 {dst src imm size cond : Int} {g : Bool} {tl : List UInt8} {dst1 src1 imm1 size1 cond1 : Int} {g1 : Bool} {tl1 : List UInt8} (h : RQ 16 dst src imm size g cond tl) (h1 : RQ 16 dst1 src1 imm1 size1 g1 cond1 tl1) (hk : kK 16 (kOf size) = kK 16 (kOf size1)) (hg : kG 16 g = kG 16 g1) (hc : kC 16 cond = kC 16 cond1) (e : asOf 16 dst src imm size (kOf size) g tl = asOf 16 dst1 src1 imm1 size1 (kOf size1) g1 tl1) : USame dst src imm size g cond tl dst1 src1 imm1 size1 g1 cond1 tl1 := by
  have z := rq_emp h (by decide)
  have z1 := rq_emp h1 (by decide)
  have ez : size = size1 := by unfold RQ RP lZ at h h1; omega
  have eg : g = g1 := by rw [rq_g h (by decide), rq_g h1 (by decide)]
  have ec : cond = cond1 := by unfold RQ RP lC at h h1; omega
  subst ez eg ec
  simp only [asOf, List.cons.injEq, and_true, true_and] at e
  have eimm : imm = imm1 := itoa_inj (e.1)
  have edst : dst = dst1 := want_inj (rq_dst h) (rq_dst h1) (Or.inl rfl) (e.2)
  have esrc : src = src1 := by unfold RQ RP lS at h h1; omega
  have etl : tl = tl1 := by rw [z, z1]
  exact ⟨edst, esrc, eimm, rfl, rfl, rfl, etl⟩
theorem same_17 {dst src imm size cond : Int} {g : Bool} {tl : List UInt8} {dst1 src1 imm1 size1 cond1 : Int} {g1 : Bool} {tl1 : List UInt8} (h : RQ 17 dst src imm size g cond tl) (h1 : RQ 17 dst1 src1 imm1 size1 g1 cond1 tl1) (hk : kK 17 (kOf size) = kK 17 (kOf size1)) (hg : kG 17 g = kG 17 g1) (hc : kC 17 cond = kC 17 cond1) (e : asOf 17 dst src imm size (kOf size) g tl = asOf 17 dst1 src1 imm1 size1 (kOf size1) g1 tl1) : USame dst src imm size g cond tl dst1 src1 imm1 size1 g1 cond1 tl1 := by
  have z := rq_emp h (by decide)
  have z1 := rq_emp h1 (by decide)
  have ez : size = size1 := by unfold RQ RP lZ at h h1; omega
  have eg : g = g1 := by rw [rq_g h (by decide), rq_g h1 (by decide)]
  have ec : cond = cond1 := by unfold RQ RP lC at h h1; omega
  subst ez eg ec
  simp only [asOf, List.cons.injEq, and_true, true_and] at e
  have eimm : imm = imm1 := itoa_inj (e.1)
  have edst : dst = dst1 := want_inj (rq_dst h) (rq_dst h1) (Or.inl rfl) (e.2)
  have esrc : src = src1 := by unfold RQ RP lS at h h1; omega
  have etl : tl = tl1 := by rw [z, z1]
  exact ⟨edst, esrc, eimm, rfl, rfl, rfl, etl⟩
theorem same_18 {dst src imm size cond : Int} {g : Bool} {tl : List UInt8} {dst1 src1 imm1 size1 cond1 : Int} {g1 : Bool} {tl1 : List UInt8} (h : RQ 18 dst src imm size g cond tl) (h1 : RQ 18 dst1 src1 imm1 size1 g1 cond1 tl1) (hk : kK 18 (kOf size) = kK 18 (kOf size1)) (hg : kG 18 g = kG 18 g1) (hc : kC 18 cond = kC 18 cond1) (e : asOf 18 dst src imm size (kOf size) g tl = asOf 18 dst1 src1 imm1 size1 (kOf size1) g1 tl1) : USame dst src imm size g cond tl dst1 src1 imm1 size1 g1 cond1 tl1 := by
  have z := rq_emp h (by decide)
  have z1 := rq_emp h1 (by decide)
  have ez : size = size1 := by unfold RQ RP lZ at h h1; omega
  have eg : g = g1 := by rw [rq_g h (by decide), rq_g h1 (by decide)]
  have ec : cond = cond1 := by unfold RQ RP lC at h h1; omega
  subst ez eg ec
  simp only [asOf, List.cons.injEq, and_true, true_and] at e
  have eimm : imm = imm1 := itoa_inj (e.1)
  have edst : dst = dst1 := want_inj (rq_dst h) (rq_dst h1) (Or.inl rfl) (e.2)
  have esrc : src = src1 := by unfold RQ RP lS at h h1; omega
  have etl : tl = tl1 := by rw [z, z1]
  exact ⟨edst, esrc, eimm, rfl, rfl, rfl, etl⟩
theorem same_19 {dst src imm size cond : Int} {g : Bool} {tl : List UInt8} {dst1 src1 imm1 size1 cond1 : Int} {g1 : Bool} {tl1 : List UInt8} (h : RQ 19 dst src imm size g cond tl) (h1 : RQ 19 dst1 src1 imm1 size1 g1 cond1 tl1) (hk : kK 19 (kOf size) = kK 19 (kOf size1)) (hg : kG 19 g = kG 19 g1) (hc : kC 19 cond = kC 19 cond1) (e : asOf 19 dst src imm size (kOf size) g tl = asOf 19 dst1 src1 imm1 size1 (kOf size1) g1 tl1) : USame dst src imm size g cond tl dst1 src1 imm1 size1 g1 cond1 tl1 := by
  have z := rq_emp h (by decide)
  have z1 := rq_emp h1 (by decide)
  have ez : size = size1 := by unfold RQ RP lZ at h h1; omega
  have eg : g = g1 := by rw [rq_g h (by decide), rq_g h1 (by decide)]
  have ec : cond = cond1 := by unfold RQ RP lC at h h1; omega
  subst ez eg ec
  simp only [asOf, List.cons.injEq, and_true, true_and] at e
  have eimm : imm = imm1 := itoa_inj (e.1)
  have edst : dst = dst1 := want_inj (rq_dst h) (rq_dst h1) (Or.inl rfl) (e.2)
  have esrc : src = src1 := by unfold RQ RP lS at h h1; omega
  have etl : tl = tl1 := by rw [z, z1]
  exact ⟨edst, esrc, eimm, rfl, rfl, rfl, etl⟩
theorem same_20 {dst src imm size cond : Int} {g : Bool} {tl : List UInt8} {dst1 src1 imm1 size1 cond1 : Int} {g1 : Bool} {tl1 : List UInt8} (h : RQ 20 dst src imm size g cond tl) (h1 : RQ 20 dst1 src1 imm1 size1 g1 cond1 tl1) (hk : kK 20 (kOf size) = kK 20 (kOf size1)) (hg : kG 20 g = kG 20 g1) (hc : kC 20 cond = kC 20 cond1) (e : asOf 20 dst src imm size (kOf size) g tl = asOf 20 dst1 src1 imm1 size1 (kOf size1) g1 tl1) : USame dst src imm size g cond tl dst1 src1 imm1 size1 g1 cond1 tl1 := by
  have z := rq_emp h (by decide)
  have z1 := rq_emp h1 (by decide)
  have ez : size = size1 := by unfold RQ RP lZ at h h1; omega
  have eg : g = g1 := by rw [rq_g h (by decide), rq_g h1 (by decide)]
  have ec : cond = cond1 := by unfold RQ RP lC at h h1; omega
  subst ez eg ec
  simp only [asOf, List.cons.injEq, and_true, true_and] at e
  have eimm : imm = imm1 := itoa_inj (e.1)
  have edst : dst = dst1 := want_inj (rq_dst h) (rq_dst h1) (Or.inl rfl) (e.2)
  have esrc : src = src1 := by unfold RQ RP lS at h h1; omega
  have etl : tl = tl1 := by rw [z, z1]
  exact ⟨edst, esrc, eimm, rfl, rfl, rfl, etl⟩
theorem same_21 {dst src imm size cond : Int} {g : Bool} {tl : List UInt8} {dst1 src1 imm1 size1 cond1 : Int} {g1 : Bool} {tl1 : List UInt8} (h : RQ 21 dst src imm size g cond tl) (h1 : RQ 21 dst1 src1 imm1 size1 g1 cond1 tl1) (hk : kK 21 (kOf size) = kK 21 (kOf size1)) (hg : kG 21 g = kG 21 g1) (hc : kC 21 cond = kC 21 cond1) (e : asOf 21 dst src imm size (kOf size) g tl = asOf 21 dst1 src1 imm1 size1 (kOf size1) g1 tl1) : USame dst src imm size g cond tl dst1 src1 imm1 size1 g1 cond1 tl1 := by
  have z := rq_emp h (by decide)
  have z1 := rq_emp h1 (by decide)
  have ez : size = size1 := by unfold RQ RP lZ at h h1; omega
  have eg : g = g1 := by rw [rq_g h (by decide), rq_g h1 (by decide)]
  have ec : cond = cond1 := by unfold RQ RP lC at h h1; omega
  subst ez eg ec
  simp only [asOf, List.cons.injEq, and_true, true_and] at e
  have edst : dst = dst1 := want_inj (rq_dst h) (rq_dst h1) (Or.inl rfl) (e)
  have esrc : src = src1 := by unfold RQ RP lS at h h1; omega
  have eimm : imm = imm1 := by unfold RQ RP lI at h h1; omega
  have etl : tl = tl1 := by rw [z, z1]
  exact ⟨edst, esrc, eimm, rfl, rfl, rfl, etl⟩
theorem same_22 {dst src imm size cond : Int} {g : Bool} {tl : List UInt8} {dst1 src1 imm1 size1 cond1 : Int} {g1 : Bool} {tl1 : List UInt8} (h : RQ 22 dst src imm size g cond tl) (h1 : RQ 22 dst1 src1 imm1 size1 g1 cond1 tl1) (hk : kK 22 (kOf size) = kK 22 (kOf size1)) (hg : kG 22 g = kG 22 g1) (hc : kC 22 cond = kC 22 cond1) (e : asOf 22 dst src imm size (kOf size) g tl = asOf 22 dst1 src1 imm1 size1 (kOf size1) g1 tl1) : USame dst src imm size g cond tl dst1 src1 imm1 size1 g1 cond1 tl1 := by
  have z := rq_emp h (by decide)
  have z1 := rq_emp h1 (by decide)
  have ez : size = size1 := by unfold RQ RP lZ at h h1; omega
  have eg : g = g1 := by rw [rq_g h (by decide), rq_g h1 (by decide)]
  have ec : cond = cond1 := by unfold RQ RP lC at h h1; omega
  subst ez eg ec
  simp only [asOf, List.cons.injEq, and_true, true_and] at e
  have edst : dst = dst1 := want_inj (rq_dst h) (rq_dst h1) (Or.inl rfl) (e)
  have esrc : src = src1 := by unfold RQ RP lS at h h1; omega
  have eimm : imm = imm1 := by unfold RQ RP lI at h h1; omega
  have etl : tl = tl1 := by rw [z, z1]
  exact ⟨edst, esrc, eimm, rfl, rfl, rfl, etl⟩
theorem same_23 {dst src imm size cond : Int} {g : Bool} {tl : List UInt8} {dst1 src1 imm1 size1 cond1 : Int} {g1 : Bool} {tl1 : List UInt8} (h : RQ 23 dst src imm size g cond tl) (h1 : RQ 23 dst1 src1 imm1 size1 g1 cond1 tl1) (hk : kK 23 (kOf size) = kK 23 (kOf size1)) (hg : kG 23 g = kG 23 g1) (hc : kC 23 cond = kC 23 cond1) (e : asOf 23 dst src imm size (kOf size) g tl = asOf 23 dst1 src1 imm1 size1 (kOf size1) g1 tl1) : USame dst src imm size g cond tl dst1 src1 imm1 size1 g1 cond1 tl1 := by
  have z := rq_emp h (by decide)
  have z1 := rq_emp h1 (by decide)
  have ez : size = size1 := by unfold RQ RP lZ at h h1; omega
  have eg : g = g1 := by rw [rq_g h (by decide), rq_g h1 (by decide)]
  have ec : cond = cond1 := by unfold RQ RP lC at h h1; omega
  subst ez eg ec
  simp only [asOf, List.cons.injEq, and_true, true_and] at e
  have edst : dst = dst1 := want_inj (rq_dst h) (rq_dst h1) (Or.inl rfl) (e)
  have esrc : src = src1 := by unfold RQ RP lS at h h1; omega
  have eimm : imm = imm1 := by unfold RQ RP lI at h h1; omega
  have etl : tl = tl1 := by rw [z, z1]
  exact ⟨edst, esrc, eimm, rfl, rfl, rfl, etl⟩
theorem same_24 {dst src imm size cond : Int} {g : Bool} {tl : List UInt8} {dst1 src1 imm1 size1 cond1 : Int} {g1 : Bool} {tl1 : List UInt8} (h : RQ 24 dst src imm size g cond tl) (h1 : RQ 24 dst1 src1 imm1 size1 g1 cond1 tl1) (hk : kK 24 (kOf size) = kK 24 (kOf size1)) (hg : kG 24 g = kG 24 g1) (hc : kC 24 cond = kC 24 cond1) (e : asOf 24 dst src imm size (kOf size) g tl = asOf 24 dst1 src1 imm1 size1 (kOf size1) g1 tl1) : USame dst src imm size g cond tl dst1 src1 imm1 size1 g1 cond1 tl1 := by
  have z := rq_emp h (by decide)
  have z1 := rq_emp h1 (by decide)
  have ez : size = size1 := by unfold RQ RP lZ at h h1; omega
  have eg : g = g1 := by rw [rq_g h (by decide), rq_g h1 (by decide)]
  have ec : cond = cond1 := by unfold RQ RP lC at h h1; omega
  subst ez eg ec
  simp only [asOf, List.cons.injEq, and_true, true_and] at e
  have eimm : imm = imm1 := itoa_inj (e.1)
  have edst : dst = dst1 := want_inj (rq_dst h) (rq_dst h1) (Or.inl rfl) (e.2)
  have esrc : src = src1 := by unfold RQ RP lS at h h1; omega
  have etl : tl = tl1 := by rw [z, z1]
  exact ⟨edst, esrc, eimm, rfl, rfl, rfl, etl⟩
theorem same_25 {dst src imm size cond : Int} {g : Bool} {tl : List UInt8} {dst1 src1 imm1 size1 cond1 : Int} {g1 : Bool} {tl1 : List UInt8} (h : RQ 25 dst src imm size g cond tl) (h1 : RQ 25 dst1 src1 imm1 size1 g1 cond1 tl1) (hk : kK 25 (kOf size) = kK 25 (kOf size1)) (hg : kG 25 g = kG 25 g1) (hc : kC 25 cond = kC 25 cond1) (e : asOf 25 dst src imm size (kOf size) g tl = asOf 25 dst1 src1 imm1 size1 (kOf size1) g1 tl1) : USame dst src imm size g cond tl dst1 src1 imm1 size1 g1 cond1 tl1 := by
  have z := rq_emp h (by decide)
  have z1 := rq_emp h1 (by decide)
  have ez : size = size1 := by unfold RQ RP lZ at h h1; omega
  have eg : g = g1 := by rw [rq_g h (by decide), rq_g h1 (by decide)]
  have ec : cond = cond1 := by unfold RQ RP lC at h h1; omega
  subst ez eg ec
  simp only [asOf, List.cons.injEq, and_true, true_and] at e
  have eimm : imm = imm1 := itoa_inj (e.1)
  have edst : dst = dst1 := want_inj (rq_dst h) (rq_dst h1) (Or.inl rfl) (e.2)
  have esrc : src = src1 := by unfold RQ RP lS at h h1; omega
  have etl : tl = tl1 := by rw [z, z1]
  exact ⟨edst, esrc, eimm, rfl, rfl, rfl, etl⟩
theorem same_26 {dst src imm size cond : Int} {g : Bool} {tl : List UInt8} {dst1 src1 imm1 size1 cond1 : Int} {g1 : Bool} {tl1 : List UInt8} (h : RQ 26 dst src imm size g cond tl) (h1 : RQ 26 dst1 src1 imm1 size1 g1 cond1 tl1) (hk : kK 26 (kOf size) = kK 26 (kOf size1)) (hg : kG 26 g = kG 26 g1) (hc : kC 26 cond = kC 26 cond1) (e : asOf 26 dst src imm size (kOf size) g tl = asOf 26 dst1 src1 imm1 size1 (kOf size1) g1 tl1) : USame dst src imm size g cond tl dst1 src1 imm1 size1 g1 cond1 tl1 := by
  have z := rq_emp h (by decide)
  have z1 := rq_emp h1 (by decide)
  have ez : size = size1 := by unfold RQ RP lZ at h h1; omega
  have eg : g = g1 := by rw [rq_g h (by decide), rq_g h1 (by decide)]
  have ec : cond = cond1 := by unfold RQ RP lC at h h1; omega
  subst ez eg ec
  simp only [asOf, List.cons.injEq, and_true, true_and] at e
  have eimm : imm = imm1 := itoa_inj (e.1)
  have edst : dst = dst1 := want_inj (rq_dst h) (rq_dst h1) (Or.inl rfl) (e.2)
  have esrc : src = src1 := by unfold RQ RP lS at h h1; omega
  have etl : tl = tl1 := by rw [z, z1]
  exact ⟨edst, esrc, eimm, rfl, rfl, rfl, etl⟩
theorem same_27 {dst src imm size cond : Int} {g : Bool} {tl : List UInt8} {dst1 src1 imm1 size1 cond1 : Int} {g1 : Bool} {tl1 : List UInt8} (h : RQ 27 dst src imm size g cond tl) (h1 : RQ 27 dst1 src1 imm1 size1 g1 cond1 tl1) (hk : kK 27 (kOf size) = kK 27 (kOf size1)) (hg : kG 27 g = kG 27 g1) (hc : kC 27 cond = kC 27 cond1) (e : asOf 27 dst src imm size (kOf size) g tl = asOf 27 dst1 src1 imm1 size1 (kOf size1) g1 tl1) : USame dst src imm size g cond tl dst1 src1 imm1 size1 g1 cond1 tl1 := by
  have z := rq_emp h (by decide)
  have z1 := rq_emp h1 (by decide)
  have ez : size = size1 := by unfold RQ RP lZ at h h1; omega
  have eg : g = g1 := by rw [rq_g h (by decide), rq_g h1 (by decide)]
  have ec : cond = cond1 := by unfold RQ RP lC at h h1; omega
  subst ez eg ec
  clear e
  have edst : dst = dst1 := by unfold RQ RP lD at h h1; omega
  have esrc : src = src1 := by unfold RQ RP lS at h h1; omega
  have eimm : imm = imm1 := by unfold RQ RP lI at h h1; omega
  have etl : tl = tl1 := by rw [z, z1]
  exact ⟨edst, esrc, eimm, rfl, rfl, rfl, etl⟩
theorem same_28 {dst src imm size cond : Int} {g : Bool} {tl : List UInt8} {dst1 src1 imm1 size1 cond1 : Int} {g1 : Bool} {tl1 : List UInt8} (h : RQ 28 dst src imm size g cond tl) (h1 : RQ 28 dst1 src1 imm1 size1 g1 cond1 tl1) (hk : kK 28 (kOf size) = kK 28 (kOf size1)) (hg : kG 28 g = kG 28 g1) (hc : kC 28 cond = kC 28 cond1) (e : asOf 28 dst src imm size (kOf size) g tl = asOf 28 dst1 src1 imm1 size1 (kOf size1) g1 tl1) : USame dst src imm size g cond tl dst1 src1 imm1 size1 g1 cond1 tl1 := by
  have z := rq_emp h (by decide)
  have z1 := rq_emp h1 (by decide)
  have ez : size = size1 := by unfold RQ RP lZ at h h1; omega
  have eg : g = g1 := by rw [rq_g h (by decide), rq_g h1 (by decide)]
  have ec : cond = cond1 := by unfold RQ RP lC at h h1; omega
  subst ez eg ec
  simp only [asOf, List.cons.injEq, and_true, true_and] at e
  have edst : dst = dst1 := want_inj (rq_dst h) (rq_dst h1) (Or.inl rfl) (e)
  have esrc : src = src1 := by unfold RQ RP lS at h h1; omega
  have eimm : imm = imm1 := by unfold RQ RP lI at h h1; omega
  have etl : tl = tl1 := by rw [z, z1]
  exact ⟨edst, esrc, eimm, rfl, rfl, rfl, etl⟩
theorem same_29 {dst src imm size cond : Int} {g : Bool} {tl : List UInt8} {dst1 src1 imm1 size1 cond1 : Int} {g1 : Bool} {tl1 : List UInt8} (h : RQ 29 dst src imm size g cond tl) (h1 : RQ 29 dst1 src1 imm1 size1 g1 cond1 tl1) (hk : kK 29 (kOf size) = kK 29 (kOf size1)) (hg : kG 29 g = kG 29 g1) (hc : kC 29 cond = kC 29 cond1) (e : asOf 29 dst src imm size (kOf size) g tl = asOf 29 dst1 src1 imm1 size1 (kOf size1) g1 tl1) : USame dst src imm size g cond tl dst1 src1 imm1 size1 g1 cond1 tl1 := by
  have z := rq_emp h (by decide)
  have z1 := rq_emp h1 (by decide)
  have ez : size = size1 := by unfold RQ RP lZ at h h1; omega
  have eg : g = g1 := by rw [rq_g h (by decide), rq_g h1 (by decide)]
  have ec : cond = cond1 := by unfold RQ RP lC at h h1; omega
  subst ez eg ec
  simp only [asOf, List.cons.injEq, and_true, true_and] at e
  have edst : dst = dst1 := want_inj (rq_dst h) (rq_dst h1) (Or.inl rfl) (e)
  have esrc : src = src1 := by unfold RQ RP lS at h h1; omega
  have eimm : imm = imm1 := by unfold RQ RP lI at h h1; omega
  have etl : tl = tl1 := by rw [z, z1]
  exact ⟨edst, esrc, eimm, rfl, rfl, rfl, etl⟩
theorem same_30 {dst src imm size cond : Int} {g : Bool} {tl : List UInt8} {dst1 src1 imm1 size1 cond1 : Int} {g1 : Bool} {tl1 : List UInt8} (h : RQ 30 dst src imm size g cond tl) (h1 : RQ 30 dst1 src1 imm1 size1 g1 cond1 tl1) (hk : kK 30 (kOf size) = kK 30 (kOf size1)) (hg : kG 30 g = kG 30 g1) (hc : kC 30 cond = kC 30 cond1) (e : asOf 30 dst src imm size (kOf size) g tl = asOf 30 dst1 src1 imm1 size1 (kOf size1) g1 tl1) : USame dst src imm size g cond tl dst1 src1 imm1 size1 g1 cond1 tl1 := by
  have z := rq_emp h (by decide)
  have z1 := rq_emp h1 (by decide)
  have ez : size = size1 := kOf_inj (rq_size h (by decide)) (rq_size h1 (by decide)) hk
  have eg : g = g1 := hg
  have ec : cond = cond1 := by unfold RQ RP lC at h h1; omega
  subst ez eg ec
  simp only [asOf, List.cons.injEq, and_true, true_and] at e
  have esrc : src = src1 := want_inj (rq_src h) (rq_src h1) (rq_size4 h (by decide)) (e.1)
  have edst : dst = dst1 := want_inj (rq_dst h) (rq_dst h1) (mv_size _ _) (e.2)
  have eimm : imm = imm1 := by unfold RQ RP lI at h h1; omega
  have etl : tl = tl1 := by rw [z, z1]
  exact ⟨edst, esrc, eimm, rfl, rfl, rfl, etl⟩
theorem same_31 {dst src imm size cond : Int} {g : Bool} {tl : List UInt8} {dst1 src1 imm1 size1 cond1 : Int} {g1 : Bool} {tl1 : List UInt8} (h : RQ 31 dst src imm size g cond tl) (h1 : RQ 31 dst1 src1 imm1 size1 g1 cond1 tl1) (hk : kK 31 (kOf size) = kK 31 (kOf size1)) (hg : kG 31 g = kG 31 g1) (hc : kC 31 cond = kC 31 cond1) (e : asOf 31 dst src imm size (kOf size) g tl = asOf 31 dst1 src1 imm1 size1 (kOf size1) g1 tl1) : USame dst src imm size g cond tl dst1 src1 imm1 size1 g1 cond1 tl1 := by
  have z := rq_emp h (by decide)
  have z1 := rq_emp h1 (by decide)
  have ez : size = size1 := by unfold RQ RP lZ at h h1; omega
  have eg : g = g1 := by rw [rq_g h (by decide), rq_g h1 (by decide)]
  have ec : cond = cond1 := by have a := c_ok h (by decide); have a1 := c_ok h1 (by decide); have : cond.toNat = cond1.toNat := hc; omega
  subst ez eg ec
  simp only [asOf, List.cons.injEq, and_true, true_and] at e
  have edst : dst = dst1 := want_inj (rq_dst h) (rq_dst h1) (Or.inr (Or.inr (Or.inr rfl))) (e)
  have esrc : src = src1 := by unfold RQ RP lS at h h1; omega
  have eimm : imm = imm1 := by unfold RQ RP lI at h h1; omega
  have etl : tl = tl1 := by rw [z, z1]
  exact ⟨edst, esrc, eimm, rfl, rfl, rfl, etl⟩
theorem same_32 {dst src imm size cond : Int} {g : Bool} {tl : List UInt8} {dst1 src1 imm1 size1 cond1 : Int} {g1 : Bool} {tl1 : List UInt8} (h : RQ 32 dst src imm size g cond tl) (h1 : RQ 32 dst1 src1 imm1 size1 g1 cond1 tl1) (hk : kK 32 (kOf size) = kK 32 (kOf size1)) (hg : kG 32 g = kG 32 g1) (hc : kC 32 cond = kC 32 cond1) (e : asOf 32 dst src imm size (kOf size) g tl = asOf 32 dst1 src1 imm1 size1 (kOf size1) g1 tl1) : USame dst src imm size g cond tl dst1 src1 imm1 size1 g1 cond1 tl1 := by
  have z := rq_emp h (by decide)
  have z1 := rq_emp h1 (by decide)
  have ez : size = size1 := by unfold RQ RP lZ at h h1; omega
  have eg : g = g1 := by rw [rq_g h (by decide), rq_g h1 (by decide)]
  have ec : cond = cond1 := by have a := c_ok h (by decide); have a1 := c_ok h1 (by decide); have : cond.toNat = cond1.toNat := hc; omega
  subst ez eg ec
  simp only [asOf, List.cons.injEq, and_true, true_and] at e
  have esrc : src = src1 := want_inj (rq_src h) (rq_src h1) (Or.inl rfl) (e.1)
  have edst : dst = dst1 := want_inj (rq_dst h) (rq_dst h1) (Or.inl rfl) (e.2)
  have eimm : imm = imm1 := by unfold RQ RP lI at h h1; omega
  have etl : tl = tl1 := by rw [z, z1]
  exact ⟨edst, esrc, eimm, rfl, rfl, rfl, etl⟩
theorem same_33 {dst src imm size cond : Int} {g : Bool} {tl : List UInt8} {dst1 src1 imm1 size1 cond1 : Int} {g1 : Bool} {tl1 : List UInt8} (h : RQ 33 dst src imm size g cond tl) (h1 : RQ 33 dst1 src1 imm1 size1 g1 cond1 tl1) (hk : kK 33 (kOf size) = kK 33 (kOf size1)) (hg : kG 33 g = kG 33 g1) (hc : kC 33 cond = kC 33 cond1) (e : asOf 33 dst src imm size (kOf size) g tl = asOf 33 dst1 src1 imm1 size1 (kOf size1) g1 tl1) : USame dst src imm size g cond tl dst1 src1 imm1 size1 g1 cond1 tl1 := by
  have z := True.intro
  have z1 := True.intro
  have ez : size = size1 := by unfold RQ RP lZ at h h1; omega
  have eg : g = g1 := by rw [rq_g h (by decide), rq_g h1 (by decide)]
  have ec : cond = cond1 := by unfold RQ RP lC at h h1; omega
  subst ez eg ec
  simp only [asOf, List.cons.injEq, and_true] at e
  have etl : tl = tl1 := e
  have edst : dst = dst1 := by unfold RQ RP lD at h h1; omega
  have esrc : src = src1 := by unfold RQ RP lS at h h1; omega
  have eimm : imm = imm1 := by unfold RQ RP lI at h h1; omega
  exact ⟨edst, esrc, eimm, rfl, rfl, rfl, etl⟩
theorem same_34 {dst src imm size cond : Int} {g : Bool} {tl : List UInt8} {dst1 src1 imm1 size1 cond1 : Int} {g1 : Bool} {tl1 : List UInt8} (h : RQ 34 dst src imm size g cond tl) (h1 : RQ 34 dst1 src1 imm1 size1 g1 cond1 tl1) (hk : kK 34 (kOf size) = kK 34 (kOf size1)) (hg : kG 34 g = kG 34 g1) (hc : kC 34 cond = kC 34 cond1) (e : asOf 34 dst src imm size (kOf size) g tl = asOf 34 dst1 src1 imm1 size1 (kOf size1) g1 tl1) : USame dst src imm size g cond tl dst1 src1 imm1 size1 g1 cond1 tl1 := by
  have z := True.intro
  have z1 := True.intro
  have ez : size = size1 := by unfold RQ RP lZ at h h1; omega
  have eg : g = g1 := by rw [rq_g h (by decide), rq_g h1 (by decide)]
  have ec : cond = cond1 := by have a := c_ok h (by decide); have a1 := c_ok h1 (by decide); have : cond.toNat = cond1.toNat := hc; omega
  subst ez eg ec
  simp only [asOf, List.cons.injEq, and_true] at e
  have etl : tl = tl1 := e
  have edst : dst = dst1 := by unfold RQ RP lD at h h1; omega
  have esrc : src = src1 := by unfold RQ RP lS at h h1; omega
  have eimm : imm = imm1 := by unfold RQ RP lI at h h1; omega
  exact ⟨edst, esrc, eimm, rfl, rfl, rfl, etl⟩
theorem same_35 {dst src imm size cond : Int} {g : Bool} {tl : List UInt8} {dst1 src1 imm1 size1 cond1 : Int} {g1 : Bool} {tl1 : List UInt8} (h : RQ 35 dst src imm size g cond tl) (h1 : RQ 35 dst1 src1 imm1 size1 g1 cond1 tl1) (hk : kK 35 (kOf size) = kK 35 (kOf size1)) (hg : kG 35 g = kG 35 g1) (hc : kC 35 cond = kC 35 cond1) (e : asOf 35 dst src imm size (kOf size) g tl = asOf 35 dst1 src1 imm1 size1 (kOf size1) g1 tl1) : USame dst src imm size g cond tl dst1 src1 imm1 size1 g1 cond1 tl1 := by
  have z := True.intro
  have z1 := True.intro
  have ez : size = size1 := by unfold RQ RP lZ at h h1; omega
  have eg : g = g1 := by rw [rq_g h (by decide), rq_g h1 (by decide)]
  have ec : cond = cond1 := by unfold RQ RP lC at h h1; omega
  subst ez eg ec
  simp only [asOf, List.cons.injEq, and_true] at e
  have etl : tl = tl1 := e
  have edst : dst = dst1 := by unfold RQ RP lD at h h1; omega
  have esrc : src = src1 := by unfold RQ RP lS at h h1; omega
  have eimm : imm = imm1 := by unfold RQ RP lI at h h1; omega
  exact ⟨edst, esrc, eimm, rfl, rfl, rfl, etl⟩
theorem same_36 {dst src imm size cond : Int} {g : Bool} {tl : List UInt8} {dst1 src1 imm1 size1 cond1 : Int} {g1 : Bool} {tl1 : List UInt8} (h : RQ 36 dst src imm size g cond tl) (h1 : RQ 36 dst1 src1 imm1 size1 g1 cond1 tl1) (hk : kK 36 (kOf size) = kK 36 (kOf size1)) (hg : kG 36 g = kG 36 g1) (hc : kC 36 cond = kC 36 cond1) (e : asOf 36 dst src imm size (kOf size) g tl = asOf 36 dst1 src1 imm1 size1 (kOf size1) g1 tl1) : USame dst src imm size g cond tl dst1 src1 imm1 size1 g1 cond1 tl1 := by
  have z := rq_emp h (by decide)
  have z1 := rq_emp h1 (by decide)
  have ez : size = size1 := by unfold RQ RP lZ at h h1; omega
  have eg : g = g1 := by rw [rq_g h (by decide), rq_g h1 (by decide)]
  have ec : cond = cond1 := by unfold RQ RP lC at h h1; omega
  subst ez eg ec
  simp only [asOf, List.cons.injEq, and_true, true_and] at e
  have edst : dst = dst1 := want_inj (rq_dst h) (rq_dst h1) (Or.inl rfl) (e)
  have esrc : src = src1 := by unfold RQ RP lS at h h1; omega
  have eimm : imm = imm1 := by unfold RQ RP lI at h h1; omega
  have etl : tl = tl1 := by rw [z, z1]
  exact ⟨edst, esrc, eimm, rfl, rfl, rfl, etl⟩
theorem same_37 {dst src imm size cond : Int} {g : Bool} {tl : List UInt8} {dst1 src1 imm1 size1 cond1 : Int} {g1 : Bool} {tl1 : List UInt8} (h : RQ 37 dst src imm size g cond tl) (h1 : RQ 37 dst1 src1 imm1 size1 g1 cond1 tl1) (hk : kK 37 (kOf size) = kK 37 (kOf size1)) (hg : kG 37 g = kG 37 g1) (hc : kC 37 cond = kC 37 cond1) (e : asOf 37 dst src imm size (kOf size) g tl = asOf 37 dst1 src1 imm1 size1 (kOf size1) g1 tl1) : USame dst src imm size g cond tl dst1 src1 imm1 size1 g1 cond1 tl1 := by
  have z := rq_emp h (by decide)
  have z1 := rq_emp h1 (by decide)
  have ez : size = size1 := by unfold RQ RP lZ at h h1; omega
  have eg : g = g1 := by rw [rq_g h (by decide), rq_g h1 (by decide)]
  have ec : cond = cond1 := by unfold RQ RP lC at h h1; omega
  subst ez eg ec
  simp only [asOf, List.cons.injEq, and_true, true_and] at e
  have edst : dst = dst1 := want_inj (rq_dst h) (rq_dst h1) (Or.inl rfl) (e)
  have esrc : src = src1 := by unfold RQ RP lS at h h1; omega
  have eimm : imm = imm1 := by unfold RQ RP lI at h h1; omega
  have etl : tl = tl1 := by rw [z, z1]
  exact ⟨edst, esrc, eimm, rfl, rfl, rfl, etl⟩
theorem same_38 {dst src imm size cond : Int} {g : Bool} {tl : List UInt8} {dst1 src1 imm1 size1 cond1 : Int} {g1 : Bool} {tl1 : List UInt8} (h : RQ 38 dst src imm size g cond tl) (h1 : RQ 38 dst1 src1 imm1 size1 g1 cond1 tl1) (hk : kK 38 (kOf size) = kK 38 (kOf size1)) (hg : kG 38 g = kG 38 g1) (hc : kC 38 cond = kC 38 cond1) (e : asOf 38 dst src imm size (kOf size) g tl = asOf 38 dst1 src1 imm1 size1 (kOf size1) g1 tl1) : USame dst src imm size g cond tl dst1 src1 imm1 size1 g1 cond1 tl1 := by
  have z := rq_emp h (by decide)
  have z1 := rq_emp h1 (by decide)
  have ez : size = size1 := by unfold RQ RP lZ at h h1; omega
  have eg : g = g1 := by rw [rq_g h (by decide), rq_g h1 (by decide)]
  have ec : cond = cond1 := by unfold RQ RP lC at h h1; omega
  subst ez eg ec
  clear e
  have edst : dst = dst1 := by unfold RQ RP lD at h h1; omega
  have esrc : src = src1 := by unfold RQ RP lS at h h1; omega
  have eimm : imm = imm1 := by unfold RQ RP lI at h h1; omega
  have etl : tl = tl1 := by rw [z, z1]
  exact ⟨edst, esrc, eimm, rfl, rfl, rfl, etl⟩
theorem same_39 {dst src imm size cond : Int} {g : Bool} {tl : List UInt8} {dst1 src1 imm1 size1 cond1 : Int} {g1 : Bool} {tl1 : List UInt8} (h : RQ 39 dst src imm size g cond tl) (h1 : RQ 39 dst1 src1 imm1 size1 g1 cond1 tl1) (hk : kK 39 (kOf size) = kK 39 (kOf size1)) (hg : kG 39 g = kG 39 g1) (hc : kC 39 cond = kC 39 cond1) (e : asOf 39 dst src imm size (kOf size) g tl = asOf 39 dst1 src1 imm1 size1 (kOf size1) g1 tl1) : USame dst src imm size g cond tl dst1 src1 imm1 size1 g1 cond1 tl1 := by
  have z := rq_emp h (by decide)
  have z1 := rq_emp h1 (by decide)
  have ez : size = size1 := by unfold RQ RP lZ at h h1; omega
  have eg : g = g1 := by rw [rq_g h (by decide), rq_g h1 (by decide)]
  have ec : cond = cond1 := by unfold RQ RP lC at h h1; omega
  subst ez eg ec
  clear e
  have edst : dst = dst1 := by unfold RQ RP lD at h h1; omega
  have esrc : src = src1 := by unfold RQ RP lS at h h1; omega
  have eimm : imm = imm1 := by unfold RQ RP lI at h h1; omega
  have etl : tl = tl1 := by rw [z, z1]
  exact ⟨edst, esrc, eimm, rfl, rfl, rfl, etl⟩
theorem same_40 {dst src imm size cond : Int} {g : Bool} {tl : List UInt8} {dst1 src1 imm1 size1 cond1 : Int} {g1 : Bool} {tl1 : List UInt8} (h : RQ 40 dst src imm size g cond tl) (h1 : RQ 40 dst1 src1 imm1 size1 g1 cond1 tl1) (hk : kK 40 (kOf size) = kK 40 (kOf size1)) (hg : kG 40 g = kG 40 g1) (hc : kC 40 cond = kC 40 cond1) (e : asOf 40 dst src imm size (kOf size) g tl = asOf 40 dst1 src1 imm1 size1 (kOf size1) g1 tl1) : USame dst src imm size g cond tl dst1 src1 imm1 size1 g1 cond1 tl1 := by
  have z := rq_emp h (by decide)
  have z1 := rq_emp h1 (by decide)
  have ez : size = size1 := by unfold RQ RP lZ at h h1; omega
  have eg : g = g1 := by rw [rq_g h (by decide), rq_g h1 (by decide)]
  have ec : cond = cond1 := by unfold RQ RP lC at h h1; omega
  subst ez eg ec
  simp only [asOf, List.cons.injEq, and_true, true_and] at e
  have edst : dst = dst1 := want_inj (rq_dst h) (rq_dst h1) (Or.inl rfl) (e)
  have esrc : src = src1 := by unfold RQ RP lS at h h1; omega
  have eimm : imm = imm1 := by unfold RQ RP lI at h h1; omega
  have etl : tl = tl1 := by rw [z, z1]
  exact ⟨edst, esrc, eimm, rfl, rfl, rfl, etl⟩
theorem same_41 {dst src imm size cond : Int} {g : Bool} {tl : List UInt8} {dst1 src1 imm1 size1 cond1 : Int} {g1 : Bool} {tl1 : List UInt8} (h : RQ 41 dst src imm size g cond tl) (h1 : RQ 41 dst1 src1 imm1 size1 g1 cond1 tl1) (hk : kK 41 (kOf size) = kK 41 (kOf size1)) (hg : kG 41 g = kG 41 g1) (hc : kC 41 cond = kC 41 cond1) (e : asOf 41 dst src imm size (kOf size) g tl = asOf 41 dst1 src1 imm1 size1 (kOf size1) g1 tl1) : USame dst src imm size g cond tl dst1 src1 imm1 size1 g1 cond1 tl1 := by
  have z := rq_emp h (by decide)
  have z1 := rq_emp h1 (by decide)
  have ez : size = size1 := by unfold RQ RP lZ at h h1; omega
  have eg : g = g1 := by rw [rq_g h (by decide), rq_g h1 (by decide)]
  have ec : cond = cond1 := by unfold RQ RP lC at h h1; omega
  subst ez eg ec
  clear e
  have edst : dst = dst1 := by unfold RQ RP lD at h h1; omega
  have esrc : src = src1 := by unfold RQ RP lS at h h1; omega
  have eimm : imm = imm1 := by unfold RQ RP lI at h h1; omega
  have etl : tl = tl1 := by rw [z, z1]
  exact ⟨edst, esrc, eimm, rfl, rfl, rfl, etl⟩
theorem line_inj {op op1 : Int} {dst src imm size cond : Int} {g : Bool} {tl : List UInt8} {dst1 src1 imm1 size1 cond1 : Int} {g1 : Bool} {tl1 : List UInt8} (h : goodP op dst src imm size g cond tl) (h1 : goodP op1 dst1 src1 imm1 size1 g1 cond1 tl1) (e : showL op dst src imm size (kOf size) g cond tl = showL op1 dst1 src1 imm1 size1 (kOf size1) g1 cond1 tl1) : op = op1 ∧ USame dst src imm size g cond tl dst1 src1 imm1 size1 g1 cond1 tl1 := by
  have k := key_all h
  have k1 := key_all h1
  rw [e] at k
  obtain ⟨eo, ek, eg, ec, ea⟩ := key_uniq k k1
  have hop : op = op1 := by have a := h.1; have a1 := h1.1; unfold RQ RP at a a1; omega
  subst hop
  refine ⟨rfl, ?_⟩
  have hR := h.1
  have hR1 := h1.1
  clear h h1 k k1 e eo
  have hop : op = 1 ∨ op = 2 ∨ op = 3 ∨ op = 4 ∨ op = 5 ∨ op = 6 ∨ op = 7 ∨ op = 8 ∨ op = 9 ∨ op = 10 ∨ op = 11 ∨ op = 12 ∨ op = 13 ∨ op = 14 ∨ op = 15 ∨ op = 16 ∨ op = 17 ∨ op = 18 ∨ op = 19 ∨ op = 20 ∨ op = 21 ∨ op = 22 ∨ op = 23 ∨ op = 24 ∨ op = 25 ∨ op = 26 ∨ op = 27 ∨ op = 28 ∨ op = 29 ∨ op = 30 ∨ op = 31 ∨ op = 32 ∨ op = 33 ∨ op = 34 ∨ op = 35 ∨ op = 36 ∨ op = 37 ∨ op = 38 ∨ op = 39 ∨ op = 40 ∨ op = 41 := by unfold RQ RP at hR; omega
  rcases hop with rfl | rfl | rfl | rfl | rfl | rfl | rfl | rfl | rfl | rfl | rfl | rfl | rfl | rfl | rfl | rfl | rfl | rfl | rfl | rfl | rfl | rfl | rfl | rfl | rfl | rfl | rfl | rfl | rfl | rfl | rfl | rfl | rfl | rfl | rfl | rfl | rfl | rfl | rfl | rfl | rfl
  · exact same_1 hR hR1 ek eg ec ea
  · exact same_2 hR hR1 ek eg ec ea
  · exact same_3 hR hR1 ek eg ec ea
  · exact same_4 hR hR1 ek eg ec ea
  · exact same_5 hR hR1 ek eg ec ea
  · exact same_6 hR hR1 ek eg ec ea
  · exact same_7 hR hR1 ek eg ec ea
  · exact same_8 hR hR1 ek eg ec ea
  · exact same_9 hR hR1 ek eg ec ea
  · exact same_10 hR hR1 ek eg ec ea
  · exact same_11 hR hR1 ek eg ec ea
  · exact same_12 hR hR1 ek eg ec ea
  · exact same_13 hR hR1 ek eg ec ea
  · exact same_14 hR hR1 ek eg ec ea
  · exact same_15 hR hR1 ek eg ec ea
  · exact same_16 hR hR1 ek eg ec ea
  · exact same_17 hR hR1 ek eg ec ea
  · exact same_18 hR hR1 ek eg ec ea
  · exact same_19 hR hR1 ek eg ec ea
  · exact same_20 hR hR1 ek eg ec ea
  · exact same_21 hR hR1 ek eg ec ea
  · exact same_22 hR hR1 ek eg ec ea
  · exact same_23 hR hR1 ek eg ec ea
  · exact same_24 hR hR1 ek eg ec ea
  · exact same_25 hR hR1 ek eg ec ea
  · exact same_26 hR hR1 ek eg ec ea
  · exact same_27 hR hR1 ek eg ec ea
  · exact same_28 hR hR1 ek eg ec ea
  · exact same_29 hR hR1 ek eg ec ea
  · exact same_30 hR hR1 ek eg ec ea
  · exact same_31 hR hR1 ek eg ec ea
  · exact same_32 hR hR1 ek eg ec ea
  · exact same_33 hR hR1 ek eg ec ea
  · exact same_34 hR hR1 ek eg ec ea
  · exact same_35 hR hR1 ek eg ec ea
  · exact same_36 hR hR1 ek eg ec ea
  · exact same_37 hR hR1 ek eg ec ea
  · exact same_38 hR hR1 ek eg ec ea
  · exact same_39 hR hR1 ek eg ec ea
  · exact same_40 hR hR1 ek eg ec ea
  · exact same_41 hR hR1 ek eg ec ea
end Go.Proofs.YtpkbkmppkgeklaaDoor
