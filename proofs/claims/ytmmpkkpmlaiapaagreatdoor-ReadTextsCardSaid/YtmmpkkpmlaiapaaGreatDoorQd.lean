/- merlonref22.Named walked. asm's and the document's small functions at all their arguments. The registers' names: as asm.Show's texts have them. Registers by their names: which one a text names. read.Reg: a register by its name. Parts of an instruction's line, as bytes; the functions that make them. No condition. -/
import Derived.Test.YtmmpkkpmlaiapaaGreatDoorAsN
import Derived.Test.YtmmpkkpmlaiapaaGreatDoorQc
import Derived.Test.YtmmpkkpmlaiapaaGreatDoorShelf
import Derived.Test.YtmmpkkpmlaiapaaGreatDoorQa
import Derived.Lib.AppendIntMem
namespace Go.Proofs.YtmmpkkpmlaiapaaGreatDoor
open Go.RowKit
set_option linter.unusedVariables false
set_option maxHeartbeats 4000000
end Go.Proofs.YtmmpkkpmlaiapaaGreatDoor
namespace Go.Proofs.YtmmpkkpmlaiapaaGreatDoor
open Go.RowKit
set_option linter.unusedVariables false
set_option maxHeartbeats 4000000
def wantF (r x : Int) : List UInt8 := if 0 ≤ r ∧ r ≤ 15 then (if x = 8 then regN r.toNat 3 else if x = 4 then regN r.toNat 2 else if x = 2 then regN r.toNat 1 else if x = 1 then regN r.toNat 0 else []) else []
theorem reg_all (w : World) (hN : GsOk w) (r x : Int) : Calls Tryz.prog 55 #[.int .i64 r, .int .i64 x] w fun e w' => e = .returned (.string ⟨⟨wantF r x⟩⟩) ∧ Below w.heap.size w w' := by
  unfold wantF
  by_cases h0 : r < 0
  · rw [if_neg (by omega)]; exact reg_low w r x h0
  by_cases h1 : 15 < r
  · rw [if_neg (by omega)]; exact reg_high w r x h0 h1
  rw [if_pos (by omega)]
  obtain ⟨n, rfl⟩ : ∃ n : Nat, r = n := ⟨r.toNat, by omega⟩
  have hn : n < 16 := by omega
  rw [Int.toNat_natCast]
  by_cases h8 : x = 8
  · subst h8; rw [if_pos rfl]; exact reg_sizes w hN n 3 hn (by decide)
  rw [if_neg h8]
  by_cases h4 : x = 4
  · subst h4; rw [if_pos rfl]; exact reg_sizes w hN n 2 hn (by decide)
  rw [if_neg h4]
  by_cases h2 : x = 2
  · subst h2; rw [if_pos rfl]; exact reg_sizes w hN n 1 hn (by decide)
  rw [if_neg h2]
  by_cases hx1 : x = 1
  · subst hx1; rw [if_pos rfl]; exact reg_sizes w hN n 0 hn (by decide)
  rw [if_neg hx1]
  exact reg_else w hN n x hn ⟨h8, h4, h2, hx1⟩
def condT : List (List UInt8) := [[101], [110, 101], [108], [108, 101], [103], [103, 101], [98], [98, 101], [97], [97, 101]]
def condF (c : Int) : List UInt8 := if 0 ≤ c ∧ c ≤ 9 then condT.getD c.toNat [] else []
theorem cond_all (w : World) (hN : GsOk w) (c : Int) : Calls Tryz.prog 71 #[.int .i64 c] w fun e w' => e = .returned (.string ⟨⟨condF c⟩⟩) ∧ Below w.heap.size w w' := by
  unfold condF
  by_cases h0 : c < 0
  · rw [if_neg (by omega)]; exact cond_low w hN c h0
  by_cases h1 : 9 < c
  · rw [if_neg (by omega)]; exact cond_high w hN c h0 (by omega)
  rw [if_pos (by omega)]
  have : c = 0 ∨ c = 1 ∨ c = 2 ∨ c = 3 ∨ c = 4 ∨ c = 5 ∨ c = 6 ∨ c = 7 ∨ c = 8 ∨ c = 9 := by omega
  rcases this with rfl | rfl | rfl | rfl | rfl | rfl | rfl | rfl | rfl | rfl
  · exact cond_0 w hN
  · exact cond_1 w hN
  · exact cond_2 w hN
  · exact cond_3 w hN
  · exact cond_4 w hN
  · exact cond_5 w hN
  · exact cond_6 w hN
  · exact cond_7 w hN
  · exact cond_8 w hN
  · exact cond_9 w hN
def moveF (k : Nat) (g : Bool) : List UInt8 × Int :=
  match k, g with
  | 0, true => ([109, 111, 118, 115, 98, 113], 8)
  | 0, false => ([109, 111, 118, 122, 98, 113], 8)
  | 1, true => ([109, 111, 118, 115, 119, 113], 8)
  | 1, false => ([109, 111, 118, 122, 119, 113], 8)
  | 2, true => ([109, 111, 118, 115, 108, 113], 8)
  | 2, false => ([109, 111, 118, 108], 4)
  | _, _ => ([109, 111, 118, 113], 8)
theorem move_all (w : World) (hN : GsOk w) (k : Nat) (g : Bool) (hk : k < 4) : Calls Tryz.prog 53 #[.int .i64 ((2 ^ k : Nat) : Int), .bool g] w fun e w' => e = .returned (.tuple #[.string ⟨⟨(moveF k g).1⟩⟩, .int .i64 (moveF k g).2]) ∧ Below w.heap.size w w' :=
  match k, g, hk with
  | 0, true, _ => move_1_1 w hN
  | 0, false, _ => move_1_0 w hN
  | 1, true, _ => move_2_1 w hN
  | 1, false, _ => move_2_0 w hN
  | 2, true, _ => move_4_1 w hN
  | 2, false, _ => move_4_0 w hN
  | 3, true, _ => move_8_1 w hN
  | 3, false, _ => move_8_0 w hN
  | k + 4, _, h => by omega
end Go.Proofs.YtmmpkkpmlaiapaaGreatDoor
namespace Go.Proofs.YtmmpkkpmlaiapaaGreatDoor
open Go.RowKit
set_option linter.unusedVariables false
end Go.Proofs.YtmmpkkpmlaiapaaGreatDoor
namespace Go.Proofs.YtmmpkkpmlaiapaaGreatDoor
open Go.RowKit
set_option linter.unusedVariables false
def nmT (t : Nat) : List UInt8 := regN (t / 4) (3 - t % 4)
def HasNo (l : List UInt8) (T : Nat) : Prop := ∀ t, t < T → nmT t ≠ l
def szT (t : Nat) : Nat := 8 / 2 ^ (t % 4)
def RegA (l : List UInt8) (r sz : Int) : Prop := (∃ t, t < 64 ∧ nmT t = l ∧ r = (t / 4 : Nat) ∧ sz = (szT t : Nat)) ∨ (HasNo l 64 ∧ r = -1 ∧ sz = 0)
def RegS (s : List UInt8) (r sz : Int) : Prop := (∃ l, s = 37 :: l ∧ RegA l r sz) ∨ ((∀ l, s ≠ 37 :: l) ∧ r = -1 ∧ sz = 0)
theorem nmT_inj {t u : Nat} (ht : t < 64) (hu : u < 64) (h : nmT t = nmT u) : t = u := by
  have e := same (r := t / 4) (s := u / 4) (k := 3 - t % 4) (m := 3 - u % 4) (by omega) (by omega) (by omega) (by omega)
  unfold nmT at h
  rw [h] at e
  simp at e
  omega
theorem HasNo.more {l : List UInt8} {T : Nat} (h : HasNo l T) (hn : nmT T ≠ l) : HasNo l (T + 1) := fun t ht => by
  by_cases e : t = T
  · subst e; exact hn
  · exact h t (by omega)
theorem want_nm {n j : Nat} (hn : n < 16) (hj : j < 4) : wantF (n : Int) ((8 / 2 ^ j : Nat) : Int) = nmT (n * 4 + j) := by
  unfold wantF nmT
  rw [if_pos (by omega), Int.toNat_natCast, show (n * 4 + j) / 4 = n by omega, show (n * 4 + j) % 4 = j by omega]
  have hc : j = 0 ∨ j = 1 ∨ j = 2 ∨ j = 3 := by omega
  rcases hc with e | e | e | e <;> subst e <;> rfl
theorem reg_self {t : Nat} (ht : t < 64) {r sz : Int} (h : RegS (37 :: nmT t) r sz) : r = (t / 4 : Nat) ∧ sz = (szT t : Nat) := by
  rcases h with ⟨l, e, h⟩ | ⟨h, _⟩
  · injection e with _ e
    subst e
    rcases h with ⟨u, hu, e2, h1, h2⟩ | ⟨h, _⟩
    · obtain rfl := nmT_inj hu ht e2
      exact ⟨h1, h2⟩
    · exact absurd rfl (h t ht)
  · exact absurd rfl (h _)
end Go.Proofs.YtmmpkkpmlaiapaaGreatDoor
namespace Go.Proofs.YtmmpkkpmlaiapaaGreatDoor
open Go.RowKit
set_option linter.unusedVariables false
set_option maxHeartbeats 2000000
def RegV (s : List UInt8) (w : World) (e : Ending) (w' : World) : Prop := ∃ r sz : Int, e = .returned (.tuple #[.int .i64 r, .int .i64 sz]) ∧ RegS s r sz ∧ Below w.heap.size w w'
theorem pre_yes {l : List UInt8} : Lib.trimPrefix (37 :: l) [37] = l ∧ Lib.hasPrefix (37 :: l) [37] = true := by
  constructor
  · simp [Lib.trimPrefix, Lib.hasPrefix]
  · simp [Lib.hasPrefix]
theorem pre_no {s : List UInt8} (h : ∀ l, s ≠ 37 :: l) : Lib.hasPrefix s [37] = false := by
  cases s with
  | nil => rfl
  | cons a l =>
    have : a ≠ 37 := fun e => h l (by rw [e])
    have h2 : ((37 : UInt8) == a) = false := beq_false_of_ne (Ne.symm this)
    show ((37 : UInt8) == a && List.isPrefixOf [] l) = false
    rw [h2]; rfl
theorem rreg_any (w : World) (hN : GsOk w) (s : ByteArray) : Calls Tryz.prog 68 #[.string s] w (RegV s.data.toList w) := by
  have HN := Lib.hid hN
  clear hN
  by_cases hp : ∃ l, s.data.toList = 37 :: l
  · obtain ⟨l, hl⟩ := hp
    have HC := Lib.hid (show ∀ W, Calls Tryz.prog 33 #[.string s, .string ⟨#[37]⟩] W fun e w' => e = .returned (.tuple #[.string ⟨⟨l⟩⟩, .bool true]) ∧ w' = W from fun W => by
      have := Tryz.strings_CutPrefix s ⟨#[37]⟩ W
      rw [hl, show (⟨#[37]⟩ : ByteArray).data.toList = [37] from rfl, pre_yes.1, pre_yes.2] at this
      exact this)
    rw [hl]
    obtain ⟨T, hT⟩ : ∃ T : ByteArray, T = ⟨⟨l⟩⟩ := ⟨_, rfl⟩
    rw [← hT] at HC
    have HTL := Lib.hid (show T.toList = l by rw [hT, toList_data])
    clear hl hT
    go_enter Tryz.func68, Tryz.ntmps68
    go_wp2_with fail
    refine (HC.out _).mono ?_
    rintro e w1 ⟨rfl, rfl⟩
    clear HC
    go_wp2_with fail
    go_loopw [16] (fun i wr => ∃ n : Nat, n ≤ 16 ∧ i = .int .i64 n ∧ HasNo l (n * 4) ∧ Below w1.heap.size w1 wr) (fun i _ => 16 - (intOf i).toNat)
    case atStart => exact ⟨0, by omega, rfl, (fun t ht => by omega), Below.refl _ _⟩
    case round =>
      obtain ⟨n, hn, rfl, hno, hb⟩ := hrel
      have HNO := Lib.hid hno
      have HB := Lib.hid hb
      clear hno hb
      by_cases hlt : n < 16
      · obtain ⟨g, hg⟩ : ∃ g, g = wr.heap.size := ⟨_, rfl⟩
        have HG := Lib.hid hg
        have HB2 := Lib.hid (HB.out.alloc HB.out.size (.cells #[.int .i64 8, .int .i64 4, .int .i64 2, .int .i64 1] 3))
        have HK2 := Lib.hid (blk_new wr (.cells #[.int .i64 8, .int .i64 4, .int .i64 2, .int .i64 1] 3))
        rw [← hg] at HK2
        clear hg
        have d16 : decide ((n : Int) < 16) = true := decide_eq_true (by omega)
        go_wp2_with fail
        rw [← HG.out]
        go_loopw [21] (fun i wr => ∃ j : Nat, j ≤ 4 ∧ i = .int .i64 j ∧ HasNo l (n * 4 + j) ∧ wr.heap[g]? = some (.cells #[.int .i64 8, .int .i64 4, .int .i64 2, .int .i64 1] 3 (0, 0)) ∧ Below w1.heap.size w1 wr) (fun i _ => 4 - (intOf i).toNat)
        case atStart => exact ⟨0, by omega, rfl, HNO.out, HK2.out, HB2.out⟩
        case round =>
          obtain ⟨j, hj, rfl, hno, hK, hb⟩ := hrel
          have HNO := Lib.hid hno
          have HB := Lib.hid hb
          have HK := Lib.hid hK
          by_cases hltj : j < 4
          · have hc : j = 0 ∨ j = 1 ∨ j = 2 ∨ j = 3 := by omega
            have z0 : wr.cell? ⟨g, j, none⟩ = some (.int .i64 ((8 / 2 ^ j : Nat) : Int)) := by rcases hc with e | e | e | e <;> subst e <;> exact blk_cell hK (by rfl)
            have zl := blk_lt hK
            have HR := Lib.hid (reg_all wr (HN.out.below HB.out) (n : Int) ((8 / 2 ^ j : Nat) : Int))
            rw [want_nm hlt hltj] at HR
            obtain ⟨S, hS⟩ : ∃ S : Int, S = ((8 / 2 ^ j : Nat) : Int) := ⟨_, rfl⟩
            obtain ⟨R, hR⟩ : ∃ R : ByteArray, R = ⟨⟨nmT (n * 4 + j)⟩⟩ := ⟨_, rfl⟩
            have hRl : R.toList = nmT (n * 4 + j) := by rw [hR, toList_data]
            rw [← hS] at HR z0
            rw [← hR] at HR
            have HSE := Lib.hid (show S = (szT (n * 4 + j) : Nat) by rw [hS]; unfold szT; rw [show (n * 4 + j) % 4 = j by omega])
            have HLT := Lib.hid hlt
            have d4 : decide ((j : Int) < 4) = true := decide_eq_true (by omega)
            have HLJ := Lib.hid hltj
            clear hno hb hK hc hS hR
            by_cases he : nmT (n * 4 + j) = l
            · have hq : (R.toList == T.toList) = true := by rw [hRl, HTL.out, he]; exact beq_self_eq_true _
              clear hRl
              go_wp2_with fail
              refine HR.out.mono ?_
              rintro e w2 ⟨rfl, kb⟩
              have HB3 := Lib.hid (HB.out.bt kb)
              clear kb
              go_wp2_with fail
              go_returns
              exact ⟨n, S, rfl, Or.inl ⟨l, rfl, Or.inl ⟨n * 4 + j, by have := HLT.out; have := HLJ.out; omega, he, by have := HLJ.out; omega, HSE.out⟩⟩, HB3.out⟩
            · have hq : (R.toList == T.toList) = false := by rw [hRl, HTL.out]; exact beq_false_of_ne he
              clear hRl
              go_wp2_with fail
              refine HR.out.mono ?_
              rintro e w2 ⟨rfl, kb⟩
              have HB3 := Lib.hid (HB.out.bt kb)
              have HK3 := Lib.hid (blk_below HK.out kb)
              clear kb
              go_wp2_with fail
              have hltj := HLJ.out
              go_roundw
              case rel => exact ⟨j + 1, by omega, by go_num, HNO.out.more he, HK3.out, HB3.out⟩
              case measure => simp [intOf]; omega
          · have e : j = 4 := by omega
            subst e
            have hlt := hlt
            go_wp2_with fail
            go_roundw
            case rel => exact ⟨n + 1, by omega, by go_num, by have := HNO.out; rwa [show (n + 1) * 4 = n * 4 + 4 by omega], HB.out⟩
            case measure => simp [intOf]; omega
      · have e : n = 16 := by omega
        subst e
        go_wp2_with fail
        go_returns
        exact ⟨-1, 0, rfl, Or.inl ⟨l, rfl, Or.inr ⟨HNO.out, rfl, rfl⟩⟩, HB.out⟩
  · have hp : ∀ l, s.data.toList ≠ 37 :: l := fun l e => hp ⟨l, e⟩
    have HC := Lib.hid (show ∀ W, Calls Tryz.prog 33 #[.string s, .string ⟨#[37]⟩] W fun e w' => (∃ T, e = .returned (.tuple #[.string T, .bool false])) ∧ w' = W from fun W => by
      have := Tryz.strings_CutPrefix s ⟨#[37]⟩ W
      rw [show (⟨#[37]⟩ : ByteArray).data.toList = [37] from rfl, pre_no hp] at this
      exact this.mono (fun e w' h => ⟨⟨_, h.1⟩, h.2⟩))
    have HP := Lib.hid hp
    clear hp
    go_enter Tryz.func68, Tryz.ntmps68
    go_wp2_with fail
    refine (HC.out _).mono ?_
    rintro e w1 ⟨⟨T, rfl⟩, rfl⟩
    clear HC
    go_wp2_with fail
    go_returns
    exact ⟨-1, 0, rfl, Or.inr ⟨HP.out, rfl, rfl⟩, Below.refl _ _⟩
end Go.Proofs.YtmmpkkpmlaiapaaGreatDoor
namespace Go.Proofs.YtmmpkkpmlaiapaaGreatDoor
open Go.RowKit
set_option linter.unusedVariables false
set_option maxHeartbeats 4000000
def pS (n s : Int) : ByteArray := ⟨⟨37 :: wantF n s⟩⟩
def rB (n s : Int) : ByteArray := ⟨⟨wantF n s⟩⟩
def numB (n : Int) : ByteArray := ⟨⟨Lib.itoa n⟩⟩
def immB (n : Int) : ByteArray := ⟨⟨36 :: Lib.itoa n⟩⟩
def atL (b off : Int) : List UInt8 := (if off = 0 then [] else Lib.itoa off) ++ (40 :: 37 :: wantF b 8) ++ [41]
def atB (b off : Int) : ByteArray := ⟨⟨atL b off⟩⟩
theorem size_mk (l : List UInt8) : (⟨⟨l⟩⟩ : ByteArray).size = l.length := rfl
theorem want_len (n s : Int) : (wantF n s).length ≤ 4 := by
  have hall : (regT.all fun l => decide (l.length ≤ 4)) = true := by kernel_rfl
  have hreg : ∀ r k, (regN r k).length ≤ 4 := fun r k => by
    unfold regN
    rw [List.getD_eq_getElem?_getD]
    cases h : regT[r * 4 + k]? with
    | none => simp
    | some l =>
      rw [List.all_eq_true] at hall
      simpa using hall l (List.mem_of_getElem? h)
  unfold wantF
  split
  · split
    · exact hreg _ _
    · split
      · exact hreg _ _
      · split
        · exact hreg _ _
        · split
          · exact hreg _ _
          · simp
  · simp
theorem cond_len (c : Int) : (condF c).length ≤ 2 := by
  have hall : (condT.all fun l => decide (l.length ≤ 2)) = true := by kernel_rfl
  unfold condF
  split
  · rw [List.getD_eq_getElem?_getD]
    cases h : condT[c.toNat]? with
    | none => simp
    | some l =>
      rw [List.all_eq_true] at hall
      simpa using hall l (List.mem_of_getElem? h)
  · simp
theorem move_len (k : Nat) (g : Bool) : (moveF k g).1.length ≤ 6 := by unfold moveF; split <;> simp
theorem dec_len : ∀ (k u : Nat), u < 10 ^ (k + 1) → (Lib.decDigits u).length ≤ k + 1
  | 0, u, h => by rw [Lib.decDigits, dif_pos (by omega)]; simp
  | k + 1, u, h => by
    rw [Lib.decDigits]
    split
    · simp
    · rw [List.length_append]
      have := dec_len k (u / 10) (by rw [Nat.div_lt_iff_lt_mul (by decide)]; rw [Nat.pow_succ] at h; exact h)
      simp; omega
theorem itoa_len {n : Int} (h : In64 n) : (Lib.itoa n).length ≤ 20 := by
  obtain ⟨h1, h2⟩ := h
  unfold Lib.itoa
  split
  · have := dec_len 18 n.natAbs (by omega)
    simp; omega
  · have := dec_len 18 n.toNat (by omega)
    omega
theorem pS_size (n s : Int) : (pS n s).size ≤ 5 := by have := want_len n s; unfold pS; rw [size_mk, List.length_cons]; omega
theorem rB_size (n s : Int) : (rB n s).size ≤ 4 := by have := want_len n s; unfold rB; rw [size_mk]; omega
theorem numB_size {n : Int} (h : In64 n) : (numB n).size ≤ 20 := by have := itoa_len h; unfold numB; rw [size_mk]; omega
theorem immB_size {n : Int} (h : In64 n) : (immB n).size ≤ 21 := by have := itoa_len h; unfold immB; rw [size_mk, List.length_cons]; omega
theorem atB_size (b : Int) {n : Int} (h : In64 n) : (atB b n).size ≤ 30 := by
  have h1 := itoa_len h
  have h2 := want_len b 8
  unfold atB atL
  rw [size_mk]
  split <;> simp <;> omega
theorem fmt_any (w : World) (hP : PowOk w) (n : Int) (h : In64 n) : Calls Tryz.prog 72 #[.int .i64 n, .int .i64 10] w fun e w' => e = .returned (.string (numB n)) ∧ Below w.heap.size w w' :=
  (Tryz.strconv_FormatInt_10 n h.1 h.2 w hP.1).mono (fun e w' ⟨h1, k, os, h2⟩ => ⟨h1, by rw [h2]; exact Lib.below_grow _ w (Nat.le_refl _) k os⟩)
theorem reg_b (w : World) (hN : GsOk w) (n s : Int) : Calls Tryz.prog 55 #[.int .i64 n, .int .i64 s] w fun e w' => e = .returned (.string (rB n s)) ∧ Below w.heap.size w w' := reg_all w hN n s
theorem app_eq (a b : List UInt8) : (⟨⟨a⟩⟩ ++ ⟨⟨b⟩⟩ : ByteArray) = ⟨⟨a ++ b⟩⟩ := ByteArray.mk_append_mk a b
theorem r_any (w : World) (hN : GsOk w) (n : Int) : Calls Tryz.prog 51 #[.int .i64 n] w fun e w' => e = .returned (.string (pS n 8)) ∧ Below w.heap.size w w' := by
  have HR := Lib.hid (reg_b w hN n 8)
  have hz := rB_size n 8
  go_enter Tryz.func51, Tryz.ntmps51
  go_wp2_with fail
  refine HR.out.mono ?_
  rintro e w1 ⟨rfl, kb⟩
  go_wp2_with fail
  go_returns
  exact ⟨by rw [show pS n 8 = ({ data := #[37] } ++ rB n 8 : ByteArray) from (app_eq [37] (wantF n 8)).symm]; rfl, kb⟩
theorem imm_any (w : World) (hP : PowOk w) (n : Int) (hn : In64 n) : Calls Tryz.prog 52 #[.int .i64 n] w fun e w' => e = .returned (.string (immB n)) ∧ Below w.heap.size w w' := by
  have HR := Lib.hid (fmt_any w hP n hn)
  have hz := numB_size hn
  clear hn
  go_enter Tryz.func52, Tryz.ntmps52
  go_wp2_with fail
  refine HR.out.mono ?_
  rintro e w1 ⟨rfl, kb⟩
  go_wp2_with fail
  go_returns
  exact ⟨by rw [show immB n = ({ data := #[36] } ++ numB n : ByteArray) from (app_eq [36] (Lib.itoa n)).symm]; rfl, kb⟩
theorem at_any (w : World) (hN : GsOk w) (hP : PowOk w) (b n : Int) (hn : In64 n) : Calls Tryz.prog 54 #[.int .i64 b, .int .i64 n] w fun e w' => e = .returned (.string (atB b n)) ∧ Below w.heap.size w w' := by
  have hz1 := pS_size b 8
  by_cases h0 : n = 0
  · subst h0
    have HR := Lib.hid (r_any w hN b)
    clear hn
    go_enter Tryz.func54, Tryz.ntmps54
    go_wp2_with fail
    refine HR.out.mono ?_
    rintro e w1 ⟨rfl, kb⟩
    go_wp2_with fail
    go_returns
    exact ⟨by rw [show atB b 0 = (({ data := #[40] } ++ pS b 8) ++ { data := #[41] } : ByteArray) from by
      rw [show ({ data := #[40] } ++ pS b 8 : ByteArray) = ⟨⟨40 :: 37 :: wantF b 8⟩⟩ from app_eq [40] (37 :: wantF b 8)]
      rw [show ({ data := #[41] } : ByteArray) = ⟨⟨[41]⟩⟩ from rfl, app_eq]
      unfold atB atL; rw [if_pos rfl]; rfl]; rfl, kb⟩
  · have HF := Lib.hid (fmt_any w hP n hn)
    have HG := Lib.hid hN
    have hz := numB_size hn
    have HL := Lib.hid (show atB b n = (((numB n ++ { data := #[40] }) ++ pS b 8) ++ { data := #[41] } : ByteArray) from by
      rw [show ({ data := #[41] } : ByteArray) = ⟨⟨[41]⟩⟩ from rfl, show ({ data := #[40] } : ByteArray) = ⟨⟨[40]⟩⟩ from rfl, numB, app_eq, pS, app_eq, app_eq]
      unfold atB atL; rw [if_neg h0]; simp)
    have h0' : (n == 0) = false := by simpa using h0
    clear hn
    go_enter Tryz.func54, Tryz.ntmps54
    go_wp2_with fail
    refine HF.out.mono ?_
    rintro e w1 ⟨rfl, kb⟩
    have HR := Lib.hid (r_any w1 (HG.out.below kb) b)
    have KB := Lib.hid kb
    clear kb
    go_wp2_with fail
    refine HR.out.mono ?_
    rintro e w2 ⟨rfl, kb2⟩
    go_wp2_with fail
    go_returns
    exact ⟨by rw [HL.out]; rfl, KB.out.bt kb2⟩
end Go.Proofs.YtmmpkkpmlaiapaaGreatDoor
