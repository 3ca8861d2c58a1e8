/- Numerals, separators, kinds of operands, what Right asks. What the parts of a line name, plainly. How long an instruction's line is. What a program's text is, as bytes: the code's lines; how long they are. asm.Print: a program's text. No condition. -/
import Derived.Test.YtmmpkkpmlaiapaaGreatDoorShK
import Derived.Test.YtmmpkkpmlaiapaaGreatDoorQe
namespace Go.Proofs.YtmmpkkpmlaiapaaGreatDoor
open Go.RowKit
set_option linter.unusedVariables false
set_option linter.unusedSimpArgs false
set_option maxHeartbeats 8000000
set_option maxRecDepth 20000
theorem digit_val {a : Nat} (h : a < 10) : (UInt8.ofNat (48 + a)).toNat = 48 + a := by
  rw [UInt8.toNat_ofNat']; omega
theorem dec_chars : ∀ (u : Nat), ∀ c ∈ Lib.decDigits u, 48 ≤ c.toNat ∧ c.toNat ≤ 57 := by
  intro u
  induction u using Nat.strongRecOn with
  | ind u ih =>
    intro c hc
    rw [Lib.decDigits] at hc
    split at hc
    · rename_i h
      simp only [List.mem_singleton] at hc
      subst hc
      rw [digit_val h]; omega
    · rename_i h
      rcases List.mem_append.1 hc with hc | hc
      · exact ih (u / 10) (by omega) c hc
      · simp only [List.mem_singleton] at hc
        subst hc
        rw [digit_val (Nat.mod_lt u (by decide))]; omega
theorem dec_full (u : Nat) : Lib.decDigits u ≠ [] := by
  rw [Lib.decDigits]; split <;> simp
theorem itoa_chars (n : Int) : ∀ c ∈ Lib.itoa n, c.toNat = 45 ∨ (48 ≤ c.toNat ∧ c.toNat ≤ 57) := by
  intro c hc
  unfold Lib.itoa at hc
  split at hc
  · rcases List.mem_cons.1 hc with rfl | hc
    · exact Or.inl rfl
    · exact Or.inr (dec_chars _ c hc)
  · exact Or.inr (dec_chars _ c hc)
theorem itoa_full (n : Int) : Lib.itoa n ≠ [] := by
  unfold Lib.itoa
  split
  · simp
  · exact dec_full _
def uForm (W : List UInt8) : List (List UInt8) → List UInt8
  | [] => W
  | [a] => W ++ 32 :: a
  | a :: b :: _ => W ++ 32 :: (a ++ 44 :: 32 :: b)
def NoC (x : UInt8) (l : List UInt8) : Prop := ∀ c ∈ l, c ≠ x
theorem named_chars {tl : List UInt8} (h : namedB ⟨⟨tl⟩⟩ = true) : tl ≠ [] ∧ (∀ c ∈ tl, (wordN c.toNat || digN c.toNat) = true) ∧ (∀ c l, tl = c :: l → wordN c.toNat = true) := by
  unfold namedB at h
  simp only [Bool.and_eq_true, decide_eq_true_eq] at h
  obtain ⟨⟨h0, _⟩, h2⟩ := h
  have hs : (⟨⟨tl⟩⟩ : ByteArray).size = tl.length := rfl
  rw [hs] at h0 h2
  refine ⟨by rintro rfl; simp at h0, ?_, ?_⟩
  · intro c hc
    obtain ⟨j, hj, rfl⟩ := List.mem_iff_getElem.1 hc
    have := h2 j hj hj
    unfold okAt at this
    have e : ((⟨⟨tl⟩⟩ : ByteArray)[j]'hj) = tl[j] := rfl
    rw [e] at this
    cases hw : wordN tl[j].toNat with
    | true => rfl
    | false => rw [hw] at this; simp at this; simp [this.2]
  · rintro c l rfl
    have hp : 0 < (c :: l).length := by simp
    have := h2 0 hp hp
    have e : ((⟨⟨c :: l⟩⟩ : ByteArray)[0]'hp) = c := rfl
    unfold okAt at this
    rw [e] at this
    simpa using this
theorem word_not {c : UInt8} (h : wordN c.toNat = true) : ¬ c = 37 ∧ ¬ c = 36 ∧ ¬ c = 42 ∧ ¬ (c.toNat = 45 ∨ (48 ≤ c.toNat ∧ c.toNat ≤ 57) ∨ c = 40) := by
  refine ⟨?_, ?_, ?_, ?_⟩
  · rintro rfl; revert h; decide
  · rintro rfl; revert h; decide
  · rintro rfl; revert h; decide
  · rintro (hh | hh | rfl)
    · rw [hh] at h; revert h; decide
    · unfold wordN at h
      simp at h; omega
    · revert h; decide
theorem noC_lit (x : UInt8) (l : List UInt8) (h : ∀ c ∈ l, c ≠ x) : NoC x l := h
theorem noC_app {x : UInt8} {a b : List UInt8} (ha : NoC x a) (hb : NoC x b) : NoC x (a ++ b) := fun c hc => (List.mem_append.1 hc).elim (ha c) (hb c)
theorem noC_cons {x c : UInt8} {l : List UInt8} (h : c ≠ x) (hl : NoC x l) : NoC x (c :: l) := fun d hd => (List.mem_cons.1 hd).elim (fun e => e ▸ h) (hl d)
theorem noC_reg (r k : Nat) : NoC 44 (regN r k) := by
  have hall : (regT.all fun l => l.all fun c => c != 44) = true := by kernel_rfl
  unfold regN
  rw [List.getD_eq_getElem?_getD]
  cases h : regT[r * 4 + k]? with
  | none => intro c hc; cases hc
  | some l =>
    intro c hc
    rw [List.all_eq_true] at hall
    have := hall l (List.mem_of_getElem? h)
    rw [List.all_eq_true] at this
    simpa using this c hc
theorem noC_want (r n : Int) : NoC 44 (wantF r n) := by
  unfold wantF
  split
  · split
    · exact noC_reg _ _
    · split
      · exact noC_reg _ _
      · split
        · exact noC_reg _ _
        · split
          · exact noC_reg _ _
          · intro c hc; cases hc
  · intro c hc; cases hc
theorem noC_r (r n : Int) : NoC 44 (37 :: wantF r n) := noC_cons (by decide) (noC_want r n)
theorem noC_s (r : Int) : NoC 44 (42 :: 37 :: wantF r 8) := noC_cons (by decide) (noC_r r 8)
theorem noC_itoa (x : UInt8) (hx : ¬ (x.toNat = 45 ∨ (48 ≤ x.toNat ∧ x.toNat ≤ 57))) (n : Int) : NoC x (Lib.itoa n) := fun c hc e => hx (e ▸ itoa_chars n c hc)
theorem noC_i (n : Int) : NoC 44 (36 :: Lib.itoa n) := noC_cons (by decide) (noC_itoa 44 (by decide) n)
theorem noC_pre (x : UInt8) (hx : ¬ (x.toNat = 45 ∨ (48 ≤ x.toNat ∧ x.toNat ≤ 57))) (n : Int) : NoC x (if n = 0 then [] else Lib.itoa n) := by
  split
  · intro c hc; cases hc
  · exact noC_itoa x hx n
theorem noC_at (b off : Int) : NoC 44 (atL b off) := noC_app (noC_app (noC_pre 44 (by decide) off) (noC_cons (by decide) (noC_r b 8))) (noC_lit _ _ (by decide))
theorem named_noC {tl : List UInt8} (h : namedB ⟨⟨tl⟩⟩ = true) : NoC 44 tl := by
  intro c hc e
  subst e
  have := (named_chars h).2.1 _ hc
  revert this; decide
theorem noC_q {tl : List UInt8} (h : NoC 44 tl) : NoC 44 (tl ++ [40, 37, 114, 105, 112, 41]) := noC_app h (noC_lit _ _ (by decide))
theorem mv_size (k : Nat) (g : Bool) : mvN k g = 8 ∨ mvN k g = 4 ∨ mvN k g = 2 ∨ mvN k g = 1 := by
  unfold mvN moveF
  split <;> simp
section
variable {op dst src imm size cond : Int} {g : Bool} {tl : List UInt8}
theorem rq_dst (h : RQ op dst src imm size g cond tl) : 0 ≤ dst ∧ dst ≤ 15 := by unfold RQ RP at h; omega
theorem rq_src (h : RQ op dst src imm size g cond tl) : 0 ≤ src ∧ src ≤ 15 := by unfold RQ RP at h; omega
theorem rq_size (h : RQ op dst src imm size g cond tl) (ho : op = 3 ∨ op = 4 ∨ op = 30) : size = 1 ∨ size = 2 ∨ size = 4 ∨ size = 8 := by unfold RQ RP lZ at h; omega
theorem rq_g (h : RQ op dst src imm size g cond tl) (ho : ¬ (op = 3 ∨ op = 30)) : g = false := by
  have : ¬ one g = 1 := by unfold RQ RP lG at h; omega
  cases g with
  | false => rfl
  | true => exact absurd rfl this
theorem rq_emp (h : RQ op dst src imm size g cond tl) (ho : ¬ (op = 6 ∨ op = 33 ∨ op = 34 ∨ op = 35)) : tl = [] := by
  have : emp tl = 1 := by unfold RQ RP lT at h; omega
  cases tl with
  | nil => rfl
  | cons c l => revert this; simp [emp]
theorem c_ok (h : RQ op dst src imm size g cond tl) (ho : op = 31 ∨ op = 32 ∨ op = 34) : 0 ≤ cond ∧ cond ≤ 9 := by unfold RQ RP lC at h; omega
theorem kg_ok (h : RQ op dst src imm size g cond tl) (ho : op = 3 ∨ op = 30) : ¬ (kOf size = 3 ∧ g = true) := by
  rintro ⟨h1, rfl⟩
  have hz := rq_size h (by omega)
  have h8 : size = 8 := by
    rcases hz with rfl | rfl | rfl | rfl
    · revert h1; decide
    · revert h1; decide
    · revert h1; decide
    · rfl
  have : one true = 1 := rfl
  unfold RQ RP at h; omega
theorem k30_ok (h : RQ 30 dst src imm size g cond tl) : kOf size < 3 := by
  have hz : size = 1 ∨ size = 2 ∨ size = 4 := by unfold RQ RP lZ at h; omega
  rcases hz with rfl | rfl | rfl <;> decide
end
end Go.Proofs.YtmmpkkpmlaiapaaGreatDoor
namespace Go.Proofs.YtmmpkkpmlaiapaaGreatDoor
open Go.RowKit
set_option linter.unusedVariables false
set_option linter.unusedSimpArgs false
theorem parseM_app (M : Nat) : ∀ (l : List UInt8) (acc a : Nat) (r : List UInt8), Lib.parseUintM M acc l = .ok a → Lib.parseUintM M acc (l ++ r) = Lib.parseUintM M a r
  | [], acc, a, r, h => by
    simp only [Lib.parseUintM, Lib.NumEnd.ok.injEq] at h
    subst h; rfl
  | c :: l, acc, a, r, h => by
    rw [List.cons_append]
    unfold Lib.parseUintM at h
    conv => lhs; unfold Lib.parseUintM
    split at h
    · rename_i h1
      rw [if_pos h1]
      split at h
      · cases h
      · rename_i h2
        rw [if_neg h2]
        split at h
        · cases h
        · rename_i h3
          rw [if_neg h3]
          exact parseM_app M l _ a r h
    · cases h
theorem parse_dec : ∀ (u : Nat), u ≤ 18446744073709551615 → Lib.parseUintM 18446744073709551615 0 (Lib.decDigits u) = .ok u := by
  intro u
  induction u using Nat.strongRecOn with
  | _ u ih =>
    intro hu
    have hone : ∀ acc d : Nat, d < 10 → acc * 10 + d ≤ 18446744073709551615 → Lib.parseUintM 18446744073709551615 acc [UInt8.ofNat (48 + d)] = .ok (acc * 10 + d) := by
      intro acc d hd hb
      unfold Lib.parseUintM
      rw [digit_val hd, if_pos (by omega), if_neg (by omega), if_neg (by omega)]
      unfold Lib.parseUintM
      congr 1
      omega
    by_cases h : u < 10
    · rw [Lib.decDigits, dif_pos h]
      have := hone 0 u h (by omega)
      rw [this]; congr 1; omega
    · rw [Lib.decDigits, dif_neg h, parseM_app _ _ _ (u / 10) _ (ih (u / 10) (by omega) (by omega)), hone _ _ (by omega) (by omega)]
      congr 1
      omega
theorem parse_itoa {v : Int} (h : In64 v) : Lib.parseIntB 64 (Lib.itoa v) = .ok v := by
  have hv : -9223372036854775808 ≤ v ∧ v ≤ 9223372036854775807 := by unfold In64 at h; omega
  have hU : ∀ u : Nat, u ≤ 18446744073709551615 → Lib.parseUintB 64 (Lib.decDigits u) = .ok u := fun u hu => by
    unfold Lib.parseUintB
    rw [if_neg (dec_full u)]
    exact parse_dec u hu
  unfold Lib.itoa
  split
  · rename_i hn
    unfold Lib.parseIntB
    simp only [show (45 : UInt8).toNat = 45 from rfl, or_true, if_true]
    rw [hU _ (by omega)]
    simp only [not_true, false_and, if_false, true_and, if_true]
    rw [if_neg (by omega)]
    congr 1
    omega
  · rename_i hn
    obtain ⟨c, r, hcr⟩ : ∃ c r, Lib.decDigits v.toNat = c :: r := by
      cases hd : Lib.decDigits v.toNat with
      | nil => exact absurd hd (dec_full _)
      | cons c r => exact ⟨c, r, rfl⟩
    have hc := dec_chars v.toNat c (by rw [hcr]; exact List.mem_cons_self)
    have h2 := hU v.toNat (by omega)
    rw [hcr] at h2 ⊢
    unfold Lib.parseIntB
    have n1 : ¬ (c.toNat = 43 ∨ c.toNat = 45) := by omega
    have n2 : ¬ c.toNat = 45 := by omega
    have n3 : ¬ c.toNat = 43 := by omega
    simp only [n2, n3, or_self, if_false, h2, not_false_eq_true, true_and, false_and]
    rw [if_neg (by omega)]
    congr 1
    omega
theorem num_itoa {v : Int} (h : In64 v) : numF (Lib.itoa v) = some v := by
  unfold numF
  rw [parse_itoa h]
  simp
theorem numV_itoa {v v' : Int} {b : Bool} (h : In64 v) (hn : NumV (Lib.itoa v) v' b) : v' = v ∧ b = true := by
  obtain ⟨_, h2, h3⟩ := hn
  rw [num_itoa h] at h2
  exact ⟨h3 v (num_itoa h), h2⟩
def PieceOk (p : List UInt8) (o : Opd) : Prop := ∀ o' b, OneR p o' b → b = true ∧ o' = o
theorem want_t {r n : Int} (hr : 0 ≤ r ∧ r ≤ 15) (hn : n = 8 ∨ n = 4 ∨ n = 2 ∨ n = 1) : ∃ t, t < 64 ∧ wantF r n = nmT t ∧ r = (t / 4 : Nat) ∧ n = (szT t : Nat) := by
  obtain ⟨k, rfl⟩ : ∃ k : Nat, r = k := ⟨r.toNat, by omega⟩
  have hk : k < 16 := by omega
  have key : ∀ j, j < 4 → n = ((8 / 2 ^ j : Nat) : Int) → ∃ t, t < 64 ∧ wantF (k : Int) n = nmT t ∧ (k : Int) = (t / 4 : Nat) ∧ n = (szT t : Nat) := fun j hj e => by
    refine ⟨k * 4 + j, by omega, ?_, by omega, ?_⟩
    · rw [e]; exact want_nm hk hj
    · rw [e]; unfold szT; rw [show (k * 4 + j) % 4 = j by omega]
  rcases hn with rfl | rfl | rfl | rfl
  · exact key 0 (by decide) rfl
  · exact key 1 (by decide) rfl
  · exact key 2 (by decide) rfl
  · exact key 3 (by decide) rfl
theorem reg_want {r n r' sz : Int} (hr : 0 ≤ r ∧ r ≤ 15) (hn : n = 8 ∨ n = 4 ∨ n = 2 ∨ n = 1) (h : RegS (37 :: wantF r n) r' sz) : r' = r ∧ sz = n := by
  obtain ⟨t, ht, e1, e2, e3⟩ := want_t hr hn
  rw [e1] at h
  obtain ⟨h1, h2⟩ := reg_self ht h
  exact ⟨h1.trans e2.symm, h2.trans e3.symm⟩
theorem reg_not {c : UInt8} {l : List UInt8} {r sz : Int} (hc : c ≠ 37) (h : RegS (c :: l) r sz) : r = -1 ∧ sz = 0 := by
  rcases h with ⟨k, e, _⟩ | ⟨_, h⟩
  · injection e with e1 _
    exact absurd e1 hc
  · exact h
theorem pre_same (c : UInt8) (l : List UInt8) : Lib.hasPrefix (c :: l) [c] = true ∧ Lib.trimPrefix (c :: l) [c] = l := by
  have h : Lib.hasPrefix (c :: l) [c] = true := by
    unfold Lib.hasPrefix
    rw [List.isPrefixOf_cons_cons, beq_self_eq_true]; rfl
  refine ⟨h, ?_⟩
  unfold Lib.trimPrefix
  rw [if_pos h]; rfl
theorem pre_other {c d : UInt8} (l : List UInt8) (h : c ≠ d) : Lib.hasPrefix (c :: l) [d] = false := by
  unfold Lib.hasPrefix
  rw [List.isPrefixOf_cons_cons, beq_eq_false_iff_ne.2 (Ne.symm h)]; rfl
theorem suf_app (x p : List UInt8) : Lib.hasSuffix (x ++ p) p = true ∧ Lib.trimSuffix (x ++ p) p = x := by
  have h : Lib.hasSuffix (x ++ p) p = true := by
    unfold Lib.hasSuffix
    rw [List.isSuffixOf_iff_suffix]
    exact ⟨x, rfl⟩
  refine ⟨h, ?_⟩
  unfold Lib.trimSuffix
  rw [if_pos h, List.length_append, Nat.add_sub_cancel]
  simp
theorem suf_last {p q : List UInt8} {c : UInt8} (h : ∀ d ∈ p, d ≠ c) (hp : p ≠ []) : Lib.hasSuffix p (q ++ [c]) = false := by
  cases hh : Lib.hasSuffix p (q ++ [c]) with
  | false => rfl
  | true =>
    unfold Lib.hasSuffix at hh
    rw [List.isSuffixOf_iff_suffix] at hh
    obtain ⟨t, ht⟩ := hh
    exact absurd rfl (h c (by rw [← ht]; simp))
theorem pc_reg {r n : Int} (hr : 0 ≤ r ∧ r ≤ 15) (hn : n = 8 ∨ n = 4 ∨ n = 2 ∨ n = 1) : PieceOk (37 :: wantF r n) ⟨1, r, n, 0, []⟩ := by
  rintro o b ⟨r', sz, hR, h⟩
  obtain ⟨rfl, rfl⟩ := reg_want hr hn hR
  rcases h with ⟨_, rfl, rfl⟩ | ⟨h, _⟩ | ⟨h, _⟩ | ⟨h, _⟩ | ⟨h, _⟩ | ⟨h, _⟩
  · exact ⟨rfl, rfl⟩
  all_goals omega
theorem pc_imm {v : Int} (hv : In64 v) : PieceOk (36 :: Lib.itoa v) ⟨2, 0, 0, v, []⟩ := by
  rintro o b ⟨r', sz, hR, h⟩
  obtain ⟨rfl, rfl⟩ := reg_not (by decide) hR
  have p1 := pre_same 36 (Lib.itoa v)
  rw [p1.1] at h
  rcases h with ⟨h, _⟩ | ⟨_, _, v', hn, rfl, _⟩ | ⟨_, h, _⟩ | ⟨_, h, _⟩ | ⟨_, h, _⟩ | ⟨_, h, _⟩
  · omega
  · rw [p1.2] at hn
    obtain ⟨rfl, rfl⟩ := numV_itoa hv hn
    exact ⟨rfl, rfl⟩
  all_goals cases h
theorem pc_star {r : Int} (hr : 0 ≤ r ∧ r ≤ 15) : PieceOk (42 :: 37 :: wantF r 8) ⟨6, r, 0, 0, []⟩ := by
  rintro o b ⟨r', sz, hR, h⟩
  obtain ⟨rfl, rfl⟩ := reg_not (by decide) hR
  have p1 := pre_same 42 (37 :: wantF r 8)
  have p2 := pre_other (c := 42) (d := 36) (37 :: wantF r 8) (by decide)
  rw [p1.1, p2] at h
  rcases h with ⟨h, _⟩ | ⟨_, h, _⟩ | ⟨_, _, _, r2, sz2, hn, rfl, rfl⟩ | ⟨_, _, h, _⟩ | ⟨_, _, h, _⟩ | ⟨_, _, h, _⟩
  · omega
  · cases h
  · rw [p1.2] at hn
    obtain ⟨rfl, rfl⟩ := reg_want hr (Or.inl rfl) hn
    refine ⟨?_, rfl⟩
    rw [decide_eq_true (show r2 ≥ 0 by omega)]; rfl
  all_goals cases h
def Plain (c : UInt8) : Prop := c ≠ 37 ∧ c ≠ 36 ∧ c ≠ 42
theorem named_head {tl : List UInt8} (h : namedB ⟨⟨tl⟩⟩ = true) : ∃ c l, tl = c :: l ∧ Plain c := by
  obtain ⟨h1, h2, h3⟩ := named_chars h
  cases tl with
  | nil => exact absurd rfl h1
  | cons c l =>
    have := word_not (h3 c l rfl)
    exact ⟨c, l, rfl, this.1, this.2.1, this.2.2.1⟩
theorem named_no41 {tl : List UInt8} (h : namedB ⟨⟨tl⟩⟩ = true) : ∀ d ∈ tl, d ≠ 41 := by
  obtain ⟨h1, h2, h3⟩ := named_chars h
  rintro d hd rfl
  have := h2 41 hd
  revert this
  decide
theorem pc_rip {tl : List UInt8} (ht : namedB ⟨⟨tl⟩⟩ = true) : PieceOk (tl ++ [40, 37, 114, 105, 112, 41]) ⟨4, 0, 0, 0, tl⟩ := by
  rintro o b ⟨r', sz, hR, h⟩
  obtain ⟨c, l, e, h1, h2, h3⟩ := named_head ht
  have p3 := suf_app tl ripL
  have p1 : Lib.hasPrefix (tl ++ ripL) [36] = false := by rw [e]; exact pre_other _ h2
  have p2 : Lib.hasPrefix (tl ++ ripL) [42] = false := by rw [e]; exact pre_other _ h3
  change RegS (tl ++ ripL) r' sz at hR
  have hR2 : r' = -1 ∧ sz = 0 := by rw [e] at hR; exact reg_not h1 hR
  obtain ⟨rfl, rfl⟩ := hR2
  rw [show (tl ++ [40, 37, 114, 105, 112, 41]) = tl ++ ripL from rfl, p1, p2, p3.1, p3.2] at h
  rcases h with ⟨h, _⟩ | ⟨_, h, _⟩ | ⟨_, _, h, _⟩ | ⟨_, _, _, _, rfl, rfl⟩ | ⟨_, _, _, h, _⟩ | ⟨_, _, _, h, _⟩
  · omega
  · cases h
  · cases h
  · exact ⟨ht, rfl⟩
  all_goals cases h
theorem pc_word {tl : List UInt8} (ht : namedB ⟨⟨tl⟩⟩ = true) : PieceOk tl ⟨5, 0, 0, 0, tl⟩ := by
  rintro o b ⟨r', sz, hR, h⟩
  obtain ⟨c, l, e, h1, h2, h3⟩ := named_head ht
  have hne : tl ≠ [] := by rw [e]; simp
  have p1 : Lib.hasPrefix tl [36] = false := by rw [e]; exact pre_other _ h2
  have p2 : Lib.hasPrefix tl [42] = false := by rw [e]; exact pre_other _ h3
  have p3 : Lib.hasSuffix tl ripL = false := suf_last (q := [40, 37, 114, 105, 112]) (named_no41 ht) hne
  have p4 : Lib.hasSuffix tl [41] = false := suf_last (q := []) (named_no41 ht) hne
  have hR2 : r' = -1 ∧ sz = 0 := by rw [e] at hR; exact reg_not h1 hR
  obtain ⟨rfl, rfl⟩ := hR2
  rw [p1, p2, p3, p4] at h
  rcases h with ⟨h, _⟩ | ⟨_, h, _⟩ | ⟨_, _, h, _⟩ | ⟨_, _, _, h, _⟩ | ⟨_, _, _, _, h, _⟩ | ⟨_, _, _, _, _, rfl, rfl⟩
  · omega
  · cases h
  · cases h
  · cases h
  · cases h
  · exact ⟨ht, rfl⟩
theorem at_norip (x : List UInt8) {b : Int} (hb : 0 ≤ b ∧ b ≤ 15) : Lib.hasSuffix (x ++ (40 :: 37 :: wantF b 8) ++ [41]) ripL = false := by
  have key : ∀ t : List UInt8, (t = wantF b 8) → List.isPrefixOf [41, 112, 105, 114, 37, 40] (41 :: (t.reverse ++ ([37, 40] ++ x.reverse))) = false := by
    intro t ht
    have hc : b = 0 ∨ b = 1 ∨ b = 2 ∨ b = 3 ∨ b = 4 ∨ b = 5 ∨ b = 6 ∨ b = 7 ∨ b = 8 ∨ b = 9 ∨ b = 10 ∨ b = 11 ∨ b = 12 ∨ b = 13 ∨ b = 14 ∨ b = 15 := by omega
    subst ht
    rcases hc with rfl | rfl | rfl | rfl | rfl | rfl | rfl | rfl | rfl | rfl | rfl | rfl | rfl | rfl | rfl | rfl <;> rfl
  have h := key _ rfl
  unfold Lib.hasSuffix List.isSuffixOf
  rw [← h]
  congr 1
  simp [ripL]
theorem pc_at {b off : Int} (hb : 0 ≤ b ∧ b ≤ 15) (ho : In64 off) : PieceOk (atL b off) ⟨3, b, 0, off, []⟩ := by
  rintro o bb ⟨r', sz, hR, h⟩
  obtain ⟨X, hX⟩ : ∃ X, X = (if off = 0 then [] else Lib.itoa off : List UInt8) := ⟨_, rfl⟩
  have hA : atL b off = X ++ (40 :: 37 :: wantF b 8) ++ [41] := by unfold atL; rw [hX]
  have hXc : ∀ c ∈ X, c ≠ 40 := by rw [hX]; exact noC_pre 40 (by decide) off
  obtain ⟨c, l, e, hc1, hc2, hc3⟩ : ∃ c l, atL b off = c :: l ∧ Plain c := by
    rw [hA]
    cases hx : X with
    | nil => exact ⟨40, _, rfl, by decide, by decide, by decide⟩
    | cons c l =>
      refine ⟨c, _, rfl, ?_⟩
      have hne : ¬ off = 0 := by intro e; rw [if_pos e] at hX; rw [hX] at hx; cases hx
      rw [if_neg hne] at hX
      have := itoa_chars off c (by rw [← hX, hx]; exact List.mem_cons_self)
      refine ⟨?_, ?_, ?_⟩ <;> (rintro rfl; revert this; decide)
  have p1 : Lib.hasPrefix (atL b off) [36] = false := by rw [e]; exact pre_other _ hc2
  have p2 : Lib.hasPrefix (atL b off) [42] = false := by rw [e]; exact pre_other _ hc3
  have p3 : Lib.hasSuffix (atL b off) ripL = false := by rw [hA]; exact at_norip X hb
  have p4 : Lib.hasSuffix (atL b off) [41] = true ∧ Lib.trimSuffix (atL b off) [41] = X ++ (40 :: 37 :: wantF b 8) := by rw [hA]; exact suf_app _ _
  have hR2 : r' = -1 ∧ sz = 0 := by rw [e] at hR; exact reg_not hc1 hR
  obtain ⟨rfl, rfl⟩ := hR2
  have hcut : Lib.cut (X ++ (40 :: 37 :: wantF b 8)) [40] = (X, 37 :: wantF b 8, true) := cut_app _ (fun h => hXc 40 h rfl)
  rw [p1, p2, p3, p4.1, p4.2, hcut] at h
  rcases h with ⟨h, _⟩ | ⟨_, h, _⟩ | ⟨_, _, h, _⟩ | ⟨_, _, _, h, _⟩ | ⟨_, _, _, _, _, r2, sz2, v, g, hn, hv, rfl, rfl⟩ | ⟨_, _, _, _, h, _⟩
  · omega
  · cases h
  · cases h
  · cases h
  · obtain ⟨rfl, rfl⟩ := reg_want hb (Or.inl rfl) hn
    have hvg : v = off ∧ g = true := by
      rcases hv with ⟨h1, rfl, rfl⟩ | ⟨h1, h2⟩
      · by_cases h0 : off = 0
        · exact ⟨h0.symm, rfl⟩
        · rw [if_neg h0] at hX
          exact absurd (hX.symm.trans h1) (itoa_full _)
      · by_cases h0 : off = 0
        · rw [if_pos h0] at hX
          exact absurd hX h1
        · rw [if_neg h0] at hX
          simp only [hX] at h2
          exact numV_itoa ho h2
    obtain ⟨rfl, rfl⟩ := hvg
    refine ⟨?_, rfl⟩
    rw [decide_eq_true (show r2 ≥ 0 by omega)]; rfl
  · cases h
def AllP : List (List UInt8) → List Opd → Prop
  | [], [] => True
  | p :: ps, o :: os => (NoC 44 p ∧ p ≠ [] ∧ PieceOk p o) ∧ AllP ps os
  | _, _ => False
def restF : List (List UInt8) → List UInt8
  | [] => []
  | [a] => a
  | a :: b :: _ => a ++ 44 :: 32 :: b
theorem cut_form {W : List UInt8} {zs : List (List UInt8)} (hW : NoC 32 W) : (Lib.cut (uForm W zs) [32]).1 = W ∧ (Lib.cut (uForm W zs) [32]).2.1 = restF zs := by
  have hn : (32 : UInt8) ∉ W := fun h => hW 32 h rfl
  match zs with
  | [] => show (Lib.cut W [32]).1 = W ∧ _ = _; rw [show Lib.cut (uForm W []) [32] = Lib.cut W [32] from rfl, cut_none hn]; exact ⟨rfl, rfl⟩
  | [a] => rw [show uForm W [a] = W ++ 32 :: a from rfl, cut_app _ hn]; exact ⟨rfl, rfl⟩
  | a :: b :: t => rw [show uForm W (a :: b :: t) = W ++ 32 :: (a ++ 44 :: 32 :: b) from rfl, cut_app _ hn]; exact ⟨rfl, rfl⟩
theorem ops_form {zs : List (List UInt8)} {os : List Opd} (hl : zs.length ≤ 2) (hA : AllP zs os) {s : ByteArray} (hs : s.data.toList = restF zs) {l : List Opd} {b : Bool} (h : OpsR s l b) : l = os ∧ b = true := by
  have hsB : s = ⟨⟨restF zs⟩⟩ := by rw [← hs]
  match zs, os, hl, hA with
  | [], [], _, _ =>
    rcases h with ⟨_, rfl, rfl⟩ | ⟨h, _⟩ | ⟨h, _⟩
    · exact ⟨rfl, rfl⟩
    · exact absurd hs h
    · exact absurd hs h
  | [a], [o], _, ⟨⟨ha, hne, hp⟩, _⟩ =>
    have hpc : pieces s = [⟨⟨a⟩⟩] := by rw [hsB]; exact split_one (c := 44) (r := [32]) (fun h => ha 44 h rfl)
    rcases h with ⟨h, _⟩ | ⟨_, rfl, hlen, hx⟩ | ⟨_, _, p, o', hm, hx⟩
    · exact absurd (hs.symm.trans h) hne
    · rw [hpc] at hlen hx
      match l, hlen with
      | [o'], _ =>
        have := hp o' true (hx 0 ⟨⟨a⟩⟩ o' rfl rfl)
        exact ⟨by rw [this.2], rfl⟩
    · rw [hpc, List.mem_singleton] at hm
      subst hm
      exact absurd (hp o' false hx).1 (by decide)
  | [a, b2], [o, q], _, ⟨⟨ha, hne, hp⟩, ⟨hb, hne2, hq⟩, _⟩ =>
    have hpc : pieces s = [⟨⟨a⟩⟩, ⟨⟨b2⟩⟩] := by
      rw [hsB]
      have e1 := split_more (c := 44) (r := [32]) (b := b2) (a := a) (fun h => ha 44 h rfl)
      have e2 := split_one (c := 44) (r := [32]) (a := b2) (fun h => hb 44 h rfl)
      rw [e2] at e1
      exact e1
    have hsn : restF [a, b2] ≠ [] := by simp [restF]
    rcases h with ⟨h, _⟩ | ⟨_, rfl, hlen, hx⟩ | ⟨_, _, p, o', hm, hx⟩
    · exact absurd (hs.symm.trans h) hsn
    · rw [hpc] at hlen hx
      match l, hlen with
      | [o', q'], _ =>
        have h1 := hp o' true (hx 0 ⟨⟨a⟩⟩ o' rfl rfl)
        have h2 := hq q' true (hx 1 ⟨⟨b2⟩⟩ q' rfl rfl)
        exact ⟨by rw [h1.2, h2.2], rfl⟩
    · rw [hpc] at hm
      simp only [List.mem_cons, List.not_mem_nil, or_false] at hm
      rcases hm with rfl | rfl
      · exact absurd (hp o' false hx).1 (by decide)
      · exact absurd (hq o' false hx).1 (by decide)
end Go.Proofs.YtmmpkkpmlaiapaaGreatDoor
namespace Go.Proofs.YtmmpkkpmlaiapaaGreatDoor
open Go.RowKit
set_option linter.unusedVariables false
set_option linter.unusedSimpArgs false
theorem moveF_len (k : Nat) (g : Bool) : (moveF k g).1.length ≤ 6 := move_len k g
theorem leL_len (k : Nat) : (leL k).length ≤ 1 := by unfold leL; split <;> decide
theorem atL_len (b : Int) {n : Int} (h : In64 n) : (atL b n).length ≤ 30 := atB_size b h
theorem condF_len (c : Int) : (condF c).length ≤ 2 := cond_len c
theorem ite_len {c : Prop} [Decidable c] {a b : List UInt8} {n : Nat} (ha : a.length ≤ n) (hb : b.length ≤ n) : (if c then a else b).length ≤ n := by split <;> assumption
theorem showL_len (op dst src imm size : Int) (k : Nat) (g : Bool) (cond : Int) (tl : List UInt8) (hi : In64 imm) : (showL op dst src imm size k g cond tl).length ≤ 100 + tl.length := by
  have a1 := want_len src 8
  have a2 := want_len dst 8
  have a3 := want_len src size
  have a4 := want_len dst (mvN k g)
  have a5 := want_len dst 1
  have a6 := itoa_len hi
  have a7 := moveF_len k g
  have a8 := leL_len k
  have a9 := atL_len src hi
  have b1 := atL_len dst hi
  have b2 := condF_len cond
  unfold showL
  repeat' (refine ite_len ?_ ?_)
  all_goals (try simp only [List.length_append, List.length_cons, List.length_nil])
  all_goals omega
end Go.Proofs.YtmmpkkpmlaiapaaGreatDoor
namespace Go.Proofs.YtmmpkkpmlaiapaaGreatDoor
open Go.RowKit
set_option linter.unusedVariables false
set_option linter.unusedSimpArgs false
noncomputable def insL (x : XInsD) : List UInt8 := showB x.op x.dst x.src x.imm x.size x.signed x.cond x.to_.data.toList
noncomputable def codeL (c : XItemD) : List UInt8 := if c.label.size = 0 then [9] ++ insL c.ins ++ [10] else c.label.data.toList ++ [58, 10]
noncomputable def codT (data : List XDatumD) (l : List XItemD) : List UInt8 := datT data ++ [9, 46, 116, 101, 120, 116, 10] ++ (l.map codeL).flatten
theorem codT_nil (data : List XDatumD) : codT data [] = datT data ++ [9, 46, 116, 101, 120, 116, 10] := by simp [codT]
theorem codT_snoc (data : List XDatumD) (l : List XItemD) (c : XItemD) : codT data (l ++ [c]) = codT data l ++ codeL c := by
  unfold codT
  rw [List.map_append, List.flatten_append, ← List.append_assoc]
  simp
theorem insL_len (x : XInsD) (hi : In64 x.imm) (ht : x.to_.size ≤ 100) : (insL x).length ≤ 200 := by
  have h3 : x.to_.data.toList.length ≤ 100 := ht
  unfold insL showB
  split
  · have := showL_len x.op x.dst x.src x.imm x.size (kOf x.size) x.signed x.cond x.to_.data.toList hi
    omega
  · simp
theorem lab_emp {a : ByteArray} (h : a.size = 0) : a = ⟨⟨[]⟩⟩ := by
  obtain ⟨⟨l⟩⟩ := a
  have : l.length = 0 := h
  rw [List.length_eq_zero_iff.1 this]
theorem lab_full {a : ByteArray} (h : a.size ≠ 0) : a.toList.isEmpty = false := by
  obtain ⟨⟨l⟩⟩ := a
  rw [toList_data]
  cases l with
  | nil => exact absurd rfl h
  | cons => rfl
theorem codeL_lab {c : XItemD} (h : c.label.size ≠ 0) : (⟨⟨codeL c⟩⟩ : ByteArray) = c.label ++ ⟨#[58, 10]⟩ := by
  unfold codeL
  rw [if_neg h]
  obtain ⟨⟨⟨l⟩⟩, ins⟩ := c
  exact (app_eq l [58, 10]).symm
theorem codeL_ins {c : XItemD} (h : c.label.size = 0) : (⟨⟨codeL c⟩⟩ : ByteArray) = ⟨#[9]⟩ ++ ⟨⟨insL c.ins⟩⟩ ++ ⟨#[10]⟩ := by
  unfold codeL
  rw [if_pos h]
  rw [show (⟨#[9]⟩ : ByteArray) = ⟨⟨[9]⟩⟩ from rfl, show (⟨#[10]⟩ : ByteArray) = ⟨⟨[10]⟩⟩ from rfl, app_eq, app_eq]
structure CodOk (l : List XItemD) : Prop where
  each : ∀ (i : Nat) c, l[i]? = some c → c.label.size ≤ 100 ∧ (c.label.size = 0 → c.ins.to_.size ≤ 100) ∧ In64 c.ins.imm
  len : l.length ≤ 20000
theorem codeL_len {l : List XItemD} (h : CodOk l) {i : Nat} {c : XItemD} (hc : l[i]? = some c) : (codeL c).length ≤ 202 := by
  obtain ⟨h1, h2, h3⟩ := h.each i c hc
  have h4 : c.label.data.toList.length ≤ 100 := h1
  unfold codeL
  split
  · rename_i e
    have := insL_len c.ins h3 (h2 e)
    simp only [List.length_append, List.length_cons, List.length_nil]; omega
  · simp only [List.length_append, List.length_cons, List.length_nil]; omega
theorem codT_len {data : List XDatumD} {l : List XItemD} (hd : DatOk data) (h : CodOk l) : ∀ k, k ≤ l.length → (codT data (l.take k)).length ≤ 3000007 + k * 202
  | 0, _ => by
    have := datT_small data hd data.length (Nat.le_refl _)
    rw [List.take_length] at this
    simp [codT]; omega
  | k + 1, hk => by
    have ih := codT_len hd h k (by omega)
    obtain ⟨c, hc⟩ : ∃ c, l[k]? = some c := ⟨_, List.getElem?_eq_getElem (by omega)⟩
    have := codeL_len h hc
    rw [take_more hc, codT_snoc]
    simp only [List.length_append, Nat.add_mul, Nat.one_mul]
    omega
theorem codT_small {data : List XDatumD} {l : List XItemD} (hd : DatOk data) (h : CodOk l) (k : Nat) (hk : k ≤ l.length) : (codT data (l.take k)).length ≤ 8000000 := by
  have h1 := codT_len hd h k hk
  have h2 := h.len
  omega
end Go.Proofs.YtmmpkkpmlaiapaaGreatDoor
namespace Go.Proofs.YtmmpkkpmlaiapaaGreatDoor
open Go.RowKit
set_option linter.unusedVariables false
set_option maxHeartbeats 2000000
set_option maxRecDepth 20000
theorem print_any (w : World) (hN : GsOk w) (hP : PowOk w) (p : XProgD) (vd vc : Value) (hd : SlR w 4 (XDatumR w) vd p.data) (hc : SlR w 9 XItemR vc p.code) (kd : DatOk p.data) (kc : CodOk p.code) :
    Calls Tryz.prog 12 #[.agg #[vd, vc]] w fun e w' => e = .returned (.string ⟨⟨codT p.data p.code⟩⟩) ∧ Below w.heap.size w w' := by
  obtain ⟨A1, cap1, rfl, h11, h12, h13⟩ := hd
  obtain ⟨A2, cap2, rfl, h21, h22, h23⟩ := hc
  have H1 := Lib.hid (show SlR w 4 (XDatumR w) (.slice A1 p.data.length cap1) p.data from ⟨A1, cap1, rfl, h11, h12, h13⟩)
  have H2 := Lib.hid (show SlR w 9 XItemR (.slice A2 p.code.length cap2) p.code from ⟨A2, cap2, rfl, h21, h22, h23⟩)
  have KD := Lib.hid kd
  have KC := Lib.hid kc
  have HN := Lib.hid hN
  have HP := Lib.hid hP
  clear h11 h12 h13 h21 h22 h23 kd kc hN hP
  obtain ⟨data, code⟩ := p
  simp only at *
  obtain ⟨wi, hwi⟩ : ∃ wi, wi = (w.alloc (.cells #[.slice A1 data.length cap1, .slice A2 code.length cap2] 34)).alloc (.cells #[.pointer none, .slice none 0 0] 76) := ⟨_, rfl⟩
  have HBI := Lib.hid (show Below w.heap.size w wi by rw [hwi]; exact below_alloc _ (below_alloc _ (Below.refl _ _)))
  have HKP := Lib.hid (show wi.heap[w.heap.size]? = some (.cells #[.slice A1 data.length cap1, .slice A2 code.length cap2] 34 (0, 0)) by rw [hwi]; exact blk_alloc (blk_new w _) _)
  have HFB := Lib.hid (show Lib.IsBuilder 76 5 (w.heap.size + 1) (w.heap.size + 1) [] wi by
    have := Lib.fresh_isBuilder 76 5 (w.alloc (.cells #[.slice A1 data.length cap1, .slice A2 code.length cap2] 34))
    rw [hwi]; simpa using this)
  have hdl : data.length ≤ 20000 := KD.out.len
  have hcl : code.length ≤ 20000 := KC.out.len
  have hmf : ∀ (fn : Fn) (first cap : Array Value) (w : World), (Instr.makeFunc fn first cap).run Tryz.prog w = .ok (.func fn first cap) w := fun _ _ _ _ => rfl
  go_enter Tryz.func12, Tryz.ntmps12
  go_wp2_with fail
  rw [← hwi]
  refine (put_first (w.heap.size + 1) (w.heap.size + 1) [9, 46, 100, 97, 116, 97, 10] wi HFB.out (by decide) (by rw [hwi]; simp)).mono ?_
  rintro e w1 ⟨rfl, hb1, kb1⟩
  have HB1 := Lib.hid (HBI.out.trans (kb1.mono (by omega)))
  have k1 := (kb1.block w.heap.size (by omega)).trans HKP.out
  have HK1 := Lib.hid k1
  have HL1 := Lib.hid hb1
  have p0 := blk_cell (i := 0) k1 rfl
  have pl := blk_lt k1
  clear hb1 kb1 k1 hwi HFB HKP HBI
  go_wp2_with fail
  go_loopw [15] (fun i wr => ∃ k : Nat, k ≤ data.length ∧ i = .int .i64 k ∧ BLD (w.heap.size + 1) (w.heap.size + 1) (datT (data.take k)) wr ∧ wr.heap[w.heap.size]? = some (.cells #[.slice A1 data.length cap1, .slice A2 code.length cap2] 34 (0, 0)) ∧ Below w.heap.size w wr) (fun i _ => data.length - (intOf i).toNat)
  case atStart => exact ⟨0, by omega, rfl, HL1.out, HK1.out, HB1.out⟩
  case round =>
    obtain ⟨k, hk, rfl, hL, hK, hB⟩ := hrel
    have HB := Lib.hid hB
    have HL := Lib.hid hL
    have HK := Lib.hid hK
    have HSM := Lib.hid (datT_small data KD.out k hk)
    clear hL hK hB
    by_cases hlt : k < data.length
    · obtain ⟨x, hx⟩ : ∃ x, data[k]? = some x := ⟨_, List.getElem?_eq_getElem hlt⟩
      obtain ⟨A4, c4, e1, _, _, e4⟩ := H1.out.later (by decide) HB.out
      simp only [Value.slice.injEq] at e1
      obtain ⟨rfl, _, rfl⟩ := e1
      obtain ⟨b, o, cs, rfl, g2, g3, g4⟩ := e4 k x hx
      obtain ⟨v, rfl, n1, n2, n3, n4, n5⟩ := g4
      have HSV := Lib.hid (n3.later (by decide) HB.out)
      obtain ⟨A5, c5, rfl, _⟩ := n3
      have z0 : wr.cell? ⟨b, o + k * 4, none⟩ = some (.int .i64 x.kind) := g3 0 (by decide)
      have z1 : wr.cell? ⟨b, o + k * 4 + 1, none⟩ = some (.string x.name) := g3 1 (by decide)
      have z2 : wr.cell? ⟨b, o + k * 4 + 2, none⟩ = some (.slice A5 x.data.length c5) := g3 2 (by decide)
      have z3 : wr.cell? ⟨b, o + k * 4 + 3, none⟩ = some (.int .i64 x.n) := g3 3 (by decide)
      have hlx := World.block_lt_of_cell? _ _ z0
      have HLT := Lib.hid hlt
      have HX := Lib.hid (take_more hx)
      have HE := Lib.hid (KD.out.each k x hx)
      have HDL := Lib.hid (KD.out.dat hx)
      obtain ⟨wa, hwa⟩ : ∃ wa, wa = wr.alloc (.cells #[.int .i64 x.kind, .string x.name, .slice A5 x.data.length c5, .int .i64 x.n] 67) := ⟨_, rfl⟩
      have hba : Below wr.heap.size wr wa := by rw [hwa]; exact below_alloc _ (Below.refl _ _)
      have HBA := Lib.hid hba
      have HD := Lib.hid (datum_any wa (HP.out.below (HB.out.bt hba)) x (.slice A5 x.data.length c5) (HSV.out.later (by decide) hba) HDL.out HE.out.1 HE.out.2.1)
      clear g3 e4 hx n1 n2 n4 n5 hba
      go_wp2_with fail
      rw [← hwa]
      clear hwa z0 z1 z2 z3 hlx
      refine HD.out.mono ?_
      rintro e w2 ⟨rfl, kb2⟩
      have hsz : (⟨⟨datL x⟩⟩ : ByteArray).size ≤ 430000 := by have := datL_len x HE.out.1 HE.out.2.1 HE.out.2.2; have := HDL.out; rw [size_mk]; omega
      have hL2 := (HL.out.later HBA.out).later kb2
      have HW := Lib.hid (put_more (w.heap.size + 1) (w.heap.size + 1) (datT (data.take k)) (datL x ++ [10]) w2 hL2 (by have := HSM.out; omega) (by rw [size_mk] at hsz; simp; omega) (Nat.le_of_lt hL2.lt))
      have HK2 := Lib.hid (blk_below (blk_below HK.out HBA.out) kb2)
      have HB2 := Lib.hid ((HB.out.bt HBA.out).bt kb2)
      obtain ⟨S, hS⟩ : ∃ S : ByteArray, S = ⟨⟨datL x⟩⟩ := ⟨_, rfl⟩
      have hSS : (⟨⟨datL x ++ [10]⟩⟩ : ByteArray) = S ++ ⟨#[10]⟩ := by rw [hS]; exact (app_eq (datL x) [10]).symm
      rw [hSS] at HW
      rw [← hS] at hsz ⊢
      clear hL2 kb2 hS hSS HD
      go_wp2_with fail
      refine HW.out.mono ?_
      rintro e w3 ⟨rfl, hb3, kb3⟩
      have HL3 := Lib.hid hb3
      have HK3 := Lib.hid ((kb3.block w.heap.size (by omega)).trans HK2.out)
      have HB3 := Lib.hid (HB2.out.trans (kb3.mono (by omega)))
      clear hb3 kb3
      go_wp2_with fail
      have hlt := HLT.out
      go_roundw
      case rel => exact ⟨k + 1, by omega, by go_num, by rw [HX.out, datT_snoc]; exact HL3.out, HK3.out, HB3.out⟩
      case measure => simp [intOf]; omega
    · have e : k = data.length := by omega
      subst e
      rw [List.take_length] at HL HSM
      have HW := Lib.hid (put_more (w.heap.size + 1) (w.heap.size + 1) (datT data) [9, 46, 116, 101, 120, 116, 10] wr HL.out (by have := HSM.out; omega) (by decide) (Nat.le_of_lt HL.out.lt))
      rw [← codT_nil] at HW
      go_wp2_with fail
      refine HW.out.mono ?_
      rintro e w4 ⟨rfl, hb4, kb4⟩
      have k4 := (kb4.block w.heap.size (by omega)).trans HK.out
      have HK4 := Lib.hid k4
      have HB4 := Lib.hid (HB.out.trans (kb4.mono (by omega)))
      have HL4 := Lib.hid hb4
      have q1 := blk_cell (i := 1) k4 rfl
      have ql := blk_lt k4
      clear hb4 kb4 k4 HW HL HK HB HL1 HK1 HB1 p0 pl hk hlt
      go_wp2_with fail
      go_loopw [30] (fun i wr => ∃ k : Nat, k ≤ code.length ∧ i = .int .i64 k ∧ BLD (w.heap.size + 1) (w.heap.size + 1) (codT data (code.take k)) wr ∧ Below w.heap.size w wr) (fun i _ => code.length - (intOf i).toNat)
      case atStart => exact ⟨0, by omega, rfl, HL4.out, HB4.out⟩
      case round =>
        obtain ⟨k, hk, rfl, hL, hB⟩ := hrel
        have HB := Lib.hid hB
        have HL := Lib.hid hL
        have HSM := Lib.hid (codT_small KD.out KC.out k hk)
        clear hL hB
        by_cases hlt : k < code.length
        · obtain ⟨x, hx⟩ : ∃ x, code[k]? = some x := ⟨_, List.getElem?_eq_getElem hlt⟩
          obtain ⟨A4, c4, e1, _, _, e4⟩ := H2.out.later (by decide) HB.out
          simp only [Value.slice.injEq] at e1
          obtain ⟨rfl, _, rfl⟩ := e1
          obtain ⟨b, o, cs, rfl, g2, g3, g4⟩ := e4 k x hx
          have HX := Lib.hid (take_more hx)
          have HE := Lib.hid (KC.out.each k x hx)
          have HCL := Lib.hid (codeL_len KC.out hx)
          obtain ⟨lab, ⟨op, dst, src, imm, size, sg, cond, to_⟩⟩ := x
          obtain ⟨⟨tl⟩⟩ := to_
          obtain ⟨rfl, n0, n1, n2, n3, n4, n5, n6, n7⟩ := g4
          simp only at g3
          have z0 : wr.cell? ⟨b, o + k * 9, none⟩ = some (.string lab) := g3 0 (by decide)
          have z1 : wr.cell? ⟨b, o + k * 9 + 1, none⟩ = some (.int .i64 op) := g3 1 (by decide)
          have z2 : wr.cell? ⟨b, o + k * 9 + 2, none⟩ = some (.int .i64 dst) := g3 2 (by decide)
          have z3 : wr.cell? ⟨b, o + k * 9 + 3, none⟩ = some (.int .i64 src) := g3 3 (by decide)
          have z4 : wr.cell? ⟨b, o + k * 9 + 4, none⟩ = some (.int .i64 imm) := g3 4 (by decide)
          have z5 : wr.cell? ⟨b, o + k * 9 + 5, none⟩ = some (.int .i64 size) := g3 5 (by decide)
          have z6 : wr.cell? ⟨b, o + k * 9 + 6, none⟩ = some (.bool sg) := g3 6 (by decide)
          have z7 : wr.cell? ⟨b, o + k * 9 + 7, none⟩ = some (.int .i64 cond) := g3 7 (by decide)
          have z8 : wr.cell? ⟨b, o + k * 9 + 8, none⟩ = some (.string ⟨⟨tl⟩⟩) := g3 8 (by decide)
          have hlx := World.block_lt_of_cell? _ _ z0
          have HLT := Lib.hid hlt
          have HI := Lib.hid (And.intro n1 (And.intro n2 (And.intro n3 (And.intro n4 (And.intro n5 n6)))))
          have hlab : lab.size ≤ 100 := HE.out.1
          obtain ⟨wa, hwa⟩ : ∃ wa, wa = wr.alloc (.cells #[.string lab, .int .i64 op, .int .i64 dst, .int .i64 src, .int .i64 imm, .int .i64 size, .bool sg, .int .i64 cond, .string ⟨⟨tl⟩⟩] 64) := ⟨_, rfl⟩
          have hba : Below wr.heap.size wr wa := by rw [hwa]; exact below_alloc _ (Below.refl _ _)
          have HBA := Lib.hid hba
          clear g3 e4 hx n0 n1 n2 n3 n4 n5 n6 n7 hba
          by_cases h0 : lab.size = 0
          · have HCI := Lib.hid (codeL_ins (c := ⟨lab, ⟨op, dst, src, imm, size, sg, cond, ⟨⟨tl⟩⟩⟩⟩) h0)
            have htl := HE.out.2.1 h0
            obtain rfl := lab_emp h0
            have hq1 : ((⟨⟨[]⟩⟩ : ByteArray).toList.isEmpty) = true := by kernel_rfl
            have HS := Lib.hid (show_any wa ((HN.out.below HB.out).below HBA.out) ((HP.out.below HB.out).below HBA.out) op dst src imm size cond sg tl HI.out.1 HI.out.2.1 HI.out.2.2.1 HI.out.2.2.2.1 HI.out.2.2.2.2.1 HI.out.2.2.2.2.2 (by rw [size_mk] at htl; omega))
            go_wp2_with fail
            rw [← hwa]
            clear hwa z0 z1 z2 z3 z4 z5 z6 z7 z8 hlx
            refine HS.out.mono ?_
            rintro e w2 ⟨rfl, kb2⟩
            have hsz : (⟨⟨showB op dst src imm size sg cond tl⟩⟩ : ByteArray).size ≤ 200 := insL_len ⟨op, dst, src, imm, size, sg, cond, ⟨⟨tl⟩⟩⟩ HI.out.2.2.2.1 htl
            have hLA := (HL.out.later HBA.out).later kb2
            have HW := Lib.hid (put_more (w.heap.size + 1) (w.heap.size + 1) (codT data (code.take k)) (codeL ⟨⟨⟨[]⟩⟩, ⟨op, dst, src, imm, size, sg, cond, ⟨⟨tl⟩⟩⟩⟩) w2 hLA (by have := HSM.out; omega) (by have := HCL.out; omega) (Nat.le_of_lt hLA.lt))
            rw [HCI.out, show insL ⟨op, dst, src, imm, size, sg, cond, ⟨⟨tl⟩⟩⟩ = showB op dst src imm size sg cond tl from rfl] at HW
            have HB2 := Lib.hid ((HB.out.bt HBA.out).bt kb2)
            obtain ⟨S, hS⟩ : ∃ S : ByteArray, S = ⟨⟨showB op dst src imm size sg cond tl⟩⟩ := ⟨_, rfl⟩
            rw [← hS] at HW hsz ⊢
            clear hLA kb2 hS HS htl
            go_wp2_with fail
            refine HW.out.mono ?_
            rintro e w3 ⟨rfl, hb3, kb3⟩
            have HL3 := Lib.hid hb3
            have HB3 := Lib.hid (HB2.out.trans (kb3.mono (by omega)))
            clear hb3 kb3
            go_wp2_with fail
            have hlt := HLT.out
            go_roundw
            case rel => exact ⟨k + 1, by omega, by go_num, by rw [HX.out, codT_snoc]; exact HL3.out, HB3.out⟩
            case measure => simp [intOf]; omega
          · have HCI := Lib.hid (codeL_lab (c := ⟨lab, ⟨op, dst, src, imm, size, sg, cond, ⟨⟨tl⟩⟩⟩⟩) h0)
            have hq1 := lab_full h0
            have hLA := HL.out.later HBA.out
            have HW := Lib.hid (put_more (w.heap.size + 1) (w.heap.size + 1) (codT data (code.take k)) (codeL ⟨lab, ⟨op, dst, src, imm, size, sg, cond, ⟨⟨tl⟩⟩⟩⟩) wa hLA (by have := HSM.out; omega) (by have := HCL.out; omega) (Nat.le_of_lt hLA.lt))
            rw [HCI.out] at HW
            clear hLA
            go_wp2_with fail
            rw [← hwa]
            clear hwa z0 z1 z2 z3 z4 z5 z6 z7 z8 hlx
            refine HW.out.mono ?_
            rintro e w3 ⟨rfl, hb3, kb3⟩
            have HL3 := Lib.hid hb3
            have HB3 := Lib.hid ((HB.out.bt HBA.out).trans (kb3.mono (by omega)))
            clear hb3 kb3
            go_wp2_with fail
            have hlt := HLT.out
            go_roundw
            case rel => exact ⟨k + 1, by omega, by go_num, by rw [HX.out, codT_snoc]; exact HL3.out, HB3.out⟩
            case measure => simp [intOf]; omega
        · have e : k = code.length := by omega
          subst e
          rw [List.take_length] at HL
          have HT := Lib.hid (text_of (w.heap.size + 1) (w.heap.size + 1) (codT data code) wr HL.out (Nat.le_of_lt HL.out.lt))
          go_wp2_with fail
          refine HT.out.mono ?_
          rintro e w5 ⟨rfl, kb5⟩
          have HB5 := Lib.hid (HB.out.trans (kb5.mono (by omega)))
          clear kb5
          go_wp2_with fail
          go_returns
          exact ⟨rfl, HB5.out⟩
end Go.Proofs.YtmmpkkpmlaiapaaGreatDoor
