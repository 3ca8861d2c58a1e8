/- Walks: the letters of what an operation uses. No condition. -/
import Derived.Test.YtmmpkkpmlaiapaaGreatDoorLib
import Derived.Test.YtmmpkkpmlaiapaaGreatDoorChecked
namespace Go.Proofs.YtmmpkkpmlaiapaaGreatDoor
open Go.RowKit
set_option linter.unusedVariables false
set_option maxHeartbeats 1000000
def hasL (s : ByteArray) (c : Int) : Bool := s.data.toList.any (fun x => (x.toNat : Int) == c)
theorem take_snoc (s : ByteArray) (k : Nat) (h : k < s.size) : s.data.toList.take (k + 1) = s.data.toList.take k ++ [s[k]] := by
  rw [List.take_succ_eq_append_getElem (by simpa using h)]; rfl
theorem has_walk (s : ByteArray) (c : Int) (w : World) (hs : s.size ≤ 100) :
    Calls Tryz.prog 29 #[.string s, .int .u8 c] w fun e w' => e = .returned (.bool (hasL s c)) ∧ w = w' := by
  go_enter Tryz.func29, Tryz.ntmps29
  go_wp2
  go_loop [5] (fun i => ∃ k : Nat, k ≤ s.size ∧ i = .int .i64 k ∧ (s.data.toList.take k).any (fun x => (x.toNat : Int) == c) = false) (fun i => s.size - (intOf i).toNat)
  case atStart => exact ⟨0, Nat.zero_le _, rfl, rfl⟩
  case round =>
    obtain ⟨k, hk, rfl, hn⟩ := hrel
    have HN := Lib.hid hn
    clear hn
    by_cases hlt : k < s.size
    · have hts := Lib.hid (take_snoc s k hlt)
      cases hq : ((s[k].toNat : Int) == c) with
      | false =>
        go_wp2
        go_round
        case rel => exact ⟨k + 1, by omega, by go_num, by rw [hts.out, List.any_append, HN.out]; simpa using hq⟩
        case measure => simp [intOf]; omega
      | true =>
        go_wp2
        go_returns
        refine ⟨ret_bool ?_, rfl⟩
        unfold hasL
        symm
        rw [List.any_eq_true]
        exact ⟨s[k], (by have h : s.data[k]'(by simpa using hlt) ∈ s.data := Array.getElem_mem _; exact Array.mem_toList_iff.2 h), hq⟩
    · go_wp2
      go_returns
      refine ⟨ret_bool ?_, rfl⟩
      have := HN.out
      rw [List.take_of_length_le (by simp; omega)] at this
      exact this.symm
def usesS (op : Int) : ByteArray :=
  if op = 1 ∨ (7 ≤ op ∧ op ≤ 13) then ⟨#[100, 115]⟩
  else if op = 2 ∨ (14 ≤ op ∧ op ≤ 20) ∨ (24 ≤ op ∧ op ≤ 26) then ⟨#[100, 105]⟩
  else if op = 3 then ⟨#[100, 115, 105, 122, 103]⟩
  else if op = 4 then ⟨#[100, 115, 105, 122]⟩
  else if op = 5 then ⟨#[100, 115, 105]⟩
  else if op = 6 then ⟨#[100, 116]⟩
  else if (21 ≤ op ∧ op ≤ 23) ∨ op = 28 ∨ op = 29 ∨ op = 36 ∨ op = 37 ∨ op = 40 then ⟨#[100]⟩
  else if op = 30 then ⟨#[100, 115, 122, 103]⟩
  else if op = 31 then ⟨#[100, 99]⟩
  else if op = 32 then ⟨#[100, 115, 99]⟩
  else if op = 34 then ⟨#[99, 116]⟩
  else if op = 33 ∨ op = 35 then ⟨#[116]⟩
  else ByteArray.empty
theorem c41 {op : Int} (h : 1 ≤ op ∧ op ≤ 41) : op = 1 ∨ op = 2 ∨ op = 3 ∨ op = 4 ∨ op = 5 ∨ op = 6 ∨ op = 7 ∨ op = 8 ∨ op = 9 ∨ op = 10 ∨ op = 11 ∨ op = 12 ∨ op = 13 ∨ op = 14 ∨ op = 15 ∨ op = 16 ∨ op = 17 ∨ op = 18 ∨ op = 19 ∨ op = 20 ∨ op = 21 ∨ op = 22 ∨ op = 23 ∨ op = 24 ∨ op = 25 ∨ op = 26 ∨ op = 27 ∨ op = 28 ∨ op = 29 ∨ op = 30 ∨ op = 31 ∨ op = 32 ∨ op = 33 ∨ op = 34 ∨ op = 35 ∨ op = 36 ∨ op = 37 ∨ op = 38 ∨ op = 39 ∨ op = 40 ∨ op = 41 := by omega
theorem uses_walk (op : Int) (w : World) (h : 1 ≤ op ∧ op ≤ 41) :
    Calls Tryz.prog 28 #[.int .i64 op] w fun e w' => e = .returned (.string (usesS op)) ∧ w = w' := by
  rcases c41 h with rfl | rfl | rfl | rfl | rfl | rfl | rfl | rfl | rfl | rfl | rfl | rfl | rfl | rfl | rfl | rfl | rfl | rfl | rfl | rfl | rfl | rfl | rfl | rfl | rfl | rfl | rfl | rfl | rfl | rfl | rfl | rfl | rfl | rfl | rfl | rfl | rfl | rfl | rfl | rfl | rfl
  all_goals
    go_enter Tryz.func28, Tryz.ntmps28
    go_wp2
    go_returns
    exact ⟨rfl, rfl⟩
end Go.Proofs.YtmmpkkpmlaiapaaGreatDoor
