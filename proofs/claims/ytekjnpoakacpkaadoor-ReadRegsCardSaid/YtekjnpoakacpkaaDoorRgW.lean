/- read.Reg: a register by its name. No condition. -/
import Derived.Test.YtekjnpoakacpkaaDoorRgP
import Derived.Test.YtekjnpoakacpkaaDoorShelf
namespace Go.Proofs.YtekjnpoakacpkaaDoor
open Go.RowKit
set_option linter.unusedVariables false
set_option maxHeartbeats 2000000
def RegV (s : List UInt8) (w : World) (e : Ending) (w' : World) : Prop := ∃ r sz : Int, e = .returned (.tuple #[.int .i64 r, .int .i64 sz]) ∧ RegS s r sz ∧ Below w.heap.size w w'
theorem pre_yes {l : List UInt8} : Lib.trimPrefix (37 :: l) [37] = l ∧ Lib.hasPrefix (37 :: l) [37] = true := by
  constructor
  · simp [Lib.trimPrefix, Lib.hasPrefix]
  · simp [Lib.hasPrefix]
theorem pre_no {s : List UInt8} (h : ∀ l, s ≠ 37 :: l) : Lib.hasPrefix s [37] = false := by
  cases s with
  | nil => rfl
  | cons a l =>
    have : a ≠ 37 := fun e => h l (by rw [e])
    have h2 : ((37 : UInt8) == a) = false := beq_false_of_ne (Ne.symm this)
    show ((37 : UInt8) == a && List.isPrefixOf [] l) = false
    rw [h2]; rfl
theorem rreg_any (w : World) (hN : GsOk w) (s : ByteArray) : Calls Tryd.prog 5 #[.string s] w (RegV s.data.toList w) := by
  have HN := Lib.hid hN
  clear hN
  by_cases hp : ∃ l, s.data.toList = 37 :: l
  · obtain ⟨l, hl⟩ := hp
    have HC := Lib.hid (show ∀ W, Calls Tryd.prog 9 #[.string s, .string ⟨#[37]⟩] W fun e w' => e = .returned (.tuple #[.string ⟨⟨l⟩⟩, .bool true]) ∧ w' = W from fun W => by
      have := Tryd.strings_CutPrefix s ⟨#[37]⟩ W
      rw [hl, show (⟨#[37]⟩ : ByteArray).data.toList = [37] from rfl, pre_yes.1, pre_yes.2] at this
      exact this)
    rw [hl]
    obtain ⟨T, hT⟩ : ∃ T : ByteArray, T = ⟨⟨l⟩⟩ := ⟨_, rfl⟩
    rw [← hT] at HC
    have HTL := Lib.hid (show T.toList = l by rw [hT, toList_data])
    clear hl hT
    go_enter Tryd.func5, Tryd.ntmps5
    go_wp2_with fail
    refine (HC.out _).mono ?_
    rintro e w1 ⟨rfl, rfl⟩
    clear HC
    go_wp2_with fail
    go_loopw [16] (fun i wr => ∃ n : Nat, n ≤ 16 ∧ i = .int .i64 n ∧ HasNo l (n * 4) ∧ Below w1.heap.size w1 wr) (fun i _ => 16 - (intOf i).toNat)
    case atStart => exact ⟨0, by omega, rfl, (fun t ht => by omega), Below.refl _ _⟩
    case round =>
      obtain ⟨n, hn, rfl, hno, hb⟩ := hrel
      have HNO := Lib.hid hno
      have HB := Lib.hid hb
      clear hno hb
      by_cases hlt : n < 16
      · obtain ⟨g, hg⟩ : ∃ g, g = wr.heap.size := ⟨_, rfl⟩
        have HG := Lib.hid hg
        have HB2 := Lib.hid (HB.out.alloc HB.out.size (.cells #[.int .i64 8, .int .i64 4, .int .i64 2, .int .i64 1] 3))
        have HK2 := Lib.hid (blk_new wr (.cells #[.int .i64 8, .int .i64 4, .int .i64 2, .int .i64 1] 3))
        rw [← hg] at HK2
        clear hg
        have d16 : decide ((n : Int) < 16) = true := decide_eq_true (by omega)
        go_wp2_with fail
        rw [← HG.out]
        go_loopw [21] (fun i wr => ∃ j : Nat, j ≤ 4 ∧ i = .int .i64 j ∧ HasNo l (n * 4 + j) ∧ wr.heap[g]? = some (.cells #[.int .i64 8, .int .i64 4, .int .i64 2, .int .i64 1] 3 (0, 0)) ∧ Below w1.heap.size w1 wr) (fun i _ => 4 - (intOf i).toNat)
        case atStart => exact ⟨0, by omega, rfl, HNO.out, HK2.out, HB2.out⟩
        case round =>
          obtain ⟨j, hj, rfl, hno, hK, hb⟩ := hrel
          have HNO := Lib.hid hno
          have HB := Lib.hid hb
          have HK := Lib.hid hK
          by_cases hltj : j < 4
          · have hc : j = 0 ∨ j = 1 ∨ j = 2 ∨ j = 3 := by omega
            have z0 : wr.cell? ⟨g, j, none⟩ = some (.int .i64 ((8 / 2 ^ j : Nat) : Int)) := by rcases hc with e | e | e | e <;> subst e <;> exact blk_cell hK (by rfl)
            have zl := blk_lt hK
            have HR := Lib.hid (reg_all wr (HN.out.below HB.out) (n : Int) ((8 / 2 ^ j : Nat) : Int))
            rw [want_nm hlt hltj] at HR
            obtain ⟨S, hS⟩ : ∃ S : Int, S = ((8 / 2 ^ j : Nat) : Int) := ⟨_, rfl⟩
            obtain ⟨R, hR⟩ : ∃ R : ByteArray, R = ⟨⟨nmT (n * 4 + j)⟩⟩ := ⟨_, rfl⟩
            have hRl : R.toList = nmT (n * 4 + j) := by rw [hR, toList_data]
            rw [← hS] at HR z0
            rw [← hR] at HR
            have HSE := Lib.hid (show S = (szT (n * 4 + j) : Nat) by rw [hS]; unfold szT; rw [show (n * 4 + j) % 4 = j by omega])
            have HLT := Lib.hid hlt
            have d4 : decide ((j : Int) < 4) = true := decide_eq_true (by omega)
            have HLJ := Lib.hid hltj
            clear hno hb hK hc hS hR
            by_cases he : nmT (n * 4 + j) = l
            · have hq : (R.toList == T.toList) = true := by rw [hRl, HTL.out, he]; exact beq_self_eq_true _
              clear hRl
              go_wp2_with fail
              refine HR.out.mono ?_
              rintro e w2 ⟨rfl, kb⟩
              have HB3 := Lib.hid (HB.out.bt kb)
              clear kb
              go_wp2_with fail
              go_returns
              exact ⟨n, S, rfl, Or.inl ⟨l, rfl, Or.inl ⟨n * 4 + j, by have := HLT.out; have := HLJ.out; omega, he, by have := HLJ.out; omega, HSE.out⟩⟩, HB3.out⟩
            · have hq : (R.toList == T.toList) = false := by rw [hRl, HTL.out]; exact beq_false_of_ne he
              clear hRl
              go_wp2_with fail
              refine HR.out.mono ?_
              rintro e w2 ⟨rfl, kb⟩
              have HB3 := Lib.hid (HB.out.bt kb)
              have HK3 := Lib.hid (blk_below HK.out kb)
              clear kb
              go_wp2_with fail
              have hltj := HLJ.out
              go_roundw
              case rel => exact ⟨j + 1, by omega, by go_num, HNO.out.more he, HK3.out, HB3.out⟩
              case measure => simp [intOf]; omega
          · have e : j = 4 := by omega
            subst e
            have hlt := hlt
            go_wp2_with fail
            go_roundw
            case rel => exact ⟨n + 1, by omega, by go_num, by have := HNO.out; rwa [show (n + 1) * 4 = n * 4 + 4 by omega], HB.out⟩
            case measure => simp [intOf]; omega
      · have e : n = 16 := by omega
        subst e
        go_wp2_with fail
        go_returns
        exact ⟨-1, 0, rfl, Or.inl ⟨l, rfl, Or.inr ⟨HNO.out, rfl, rfl⟩⟩, HB.out⟩
  · have hp : ∀ l, s.data.toList ≠ 37 :: l := fun l e => hp ⟨l, e⟩
    have HC := Lib.hid (show ∀ W, Calls Tryd.prog 9 #[.string s, .string ⟨#[37]⟩] W fun e w' => (∃ T, e = .returned (.tuple #[.string T, .bool false])) ∧ w' = W from fun W => by
      have := Tryd.strings_CutPrefix s ⟨#[37]⟩ W
      rw [show (⟨#[37]⟩ : ByteArray).data.toList = [37] from rfl, pre_no hp] at this
      exact this.mono (fun e w' h => ⟨⟨_, h.1⟩, h.2⟩))
    have HP := Lib.hid hp
    clear hp
    go_enter Tryd.func5, Tryd.ntmps5
    go_wp2_with fail
    refine (HC.out _).mono ?_
    rintro e w1 ⟨⟨T, rfl⟩, rfl⟩
    clear HC
    go_wp2_with fail
    go_returns
    exact ⟨-1, 0, rfl, Or.inr ⟨HP.out, rfl, rfl⟩, Below.refl _ _⟩
end Go.Proofs.YtekjnpoakacpkaaDoor
