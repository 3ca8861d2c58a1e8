/- x86.Right lets pass what may be. pick's law: uses, stack, Right on a line that is good. No condition. -/
import Derived.Test.YtbogcompeefoaaaDoorPlX0
import Derived.Test.YtbogcompeefoaaaDoorPlX1
import Derived.Test.YtbogcompeefoaaaDoorPlX2
import Derived.Test.YtbogcompeefoaaaDoorQc
namespace Go.Proofs.YtbogcompeefoaaaDoor
open Go.RowKit
set_option linter.unusedVariables false
/-- an instruction that may be, is let pass -/
theorem right_l (op dst src imm size s cond e : Int) (to_ : ByteArray) (w : World) (ho : In64 op) (hd : In64 dst) (hsr : In64 src) (hi : In64 imm) (hs : s = 0 ∨ s = 1) (he : e = 0 ∨ e = 1) (hE : to_.toList.isEmpty = decide (e = 1)) (hz : In64 size) (hc : In64 cond) (hR : RP op dst src imm size s cond e) :
    Calls Tryd.prog 9 #[.agg #[.int .i64 op, .int .i64 dst, .int .i64 src, .int .i64 imm, .int .i64 size, .bool (decide (s = 1)), .int .i64 cond, .string to_]] w fun en w' => en = .returned (.bool true) ∧ Below w.heap.size w w' := by
  have fin : ∀ en w', (RightIs (RP op dst src imm size s cond e) en ∧ Below w.heap.size w w') → (en = .returned (.bool true) ∧ Below w.heap.size w w') := by
    rintro en w' ⟨⟨b, rfl, hb⟩, h2⟩
    rw [hb.2 hR]; exact ⟨rfl, h2⟩
  obtain ⟨o1, o2, d1, d2, s1, s2, him, _⟩ := hR
  have im : ¬ op = 2 → -2147483648 ≤ imm ∧ imm ≤ 2147483647 := by omega
  refine Calls.mono ?_ fin
  clear fin
  have hop : op = 1 ∨ (7 ≤ op ∧ op ≤ 13) ∨ op = 2 ∨ (14 ≤ op ∧ op ≤ 20) ∨ (24 ≤ op ∧ op ≤ 26) ∨ op = 3 ∨ op = 4 ∨ op = 5 ∨ op = 6 ∨ (21 ≤ op ∧ op ≤ 23) ∨ op = 28 ∨ op = 29 ∨ op = 36 ∨ op = 37 ∨ op = 40 ∨ op = 30 ∨ op = 31 ∨ op = 32 ∨ op = 34 ∨ op = 33 ∨ op = 35 ∨ op = 27 ∨ op = 38 ∨ op = 39 ∨ op = 41 := by omega
  rcases hop with rfl | ⟨o1, o2⟩ | rfl | ⟨o1, o2⟩ | ⟨o1, o2⟩ | rfl | rfl | rfl | rfl | ⟨o1, o2⟩ | rfl | rfl | rfl | rfl | rfl | rfl | rfl | rfl | rfl | rfl | rfl | rfl | rfl | rfl | rfl
  · exact right_x1 dst src imm size s cond e to_ w d1 d2 s1 s2 hi (im (by decide)).1 (im (by decide)).2 hs he hE hz hc
  · exact right_xa op dst src imm size s cond e to_ w o1 o2 d1 d2 s1 s2 hi (im (by omega)).1 (im (by omega)).2 hs he hE hz hc
  · exact right_x2 dst src imm size s cond e to_ w d1 d2 s1 s2 hi hs he hE hz hc
  · exact right_xb op dst src imm size s cond e to_ w o1 o2 d1 d2 s1 s2 hi (im (by omega)).1 (im (by omega)).2 hs he hE hz hc
  · exact right_xc op dst src imm size s cond e to_ w o1 o2 d1 d2 s1 s2 hi (im (by omega)).1 (im (by omega)).2 hs he hE hz hc
  · exact right_x3 dst src imm size s cond e to_ w d1 d2 s1 s2 hi (im (by decide)).1 (im (by decide)).2 hs he hE hz hc
  · exact right_x4 dst src imm size s cond e to_ w d1 d2 s1 s2 hi (im (by decide)).1 (im (by decide)).2 hs he hE hz hc
  · exact right_x5 dst src imm size s cond e to_ w d1 d2 s1 s2 hi (im (by decide)).1 (im (by decide)).2 hs he hE hz hc
  · exact right_x6 dst src imm size s cond e to_ w d1 d2 s1 s2 hi (im (by decide)).1 (im (by decide)).2 hs he hE hz hc
  · exact right_xd op dst src imm size s cond e to_ w o1 o2 d1 d2 s1 s2 hi (im (by omega)).1 (im (by omega)).2 hs he hE hz hc
  · exact right_x28 dst src imm size s cond e to_ w d1 d2 s1 s2 hi (im (by decide)).1 (im (by decide)).2 hs he hE hz hc
  · exact right_x29 dst src imm size s cond e to_ w d1 d2 s1 s2 hi (im (by decide)).1 (im (by decide)).2 hs he hE hz hc
  · exact right_x36 dst src imm size s cond e to_ w d1 d2 s1 s2 hi (im (by decide)).1 (im (by decide)).2 hs he hE hz hc
  · exact right_x37 dst src imm size s cond e to_ w d1 d2 s1 s2 hi (im (by decide)).1 (im (by decide)).2 hs he hE hz hc
  · exact right_x40 dst src imm size s cond e to_ w d1 d2 s1 s2 hi (im (by decide)).1 (im (by decide)).2 hs he hE hz hc
  · exact right_x30 dst src imm size s cond e to_ w d1 d2 s1 s2 hi (im (by decide)).1 (im (by decide)).2 hs he hE hz hc
  · exact right_x31 dst src imm size s cond e to_ w d1 d2 s1 s2 hi (im (by decide)).1 (im (by decide)).2 hs he hE hz hc
  · exact right_x32 dst src imm size s cond e to_ w d1 d2 s1 s2 hi (im (by decide)).1 (im (by decide)).2 hs he hE hz hc
  · exact right_x34 dst src imm size s cond e to_ w d1 d2 s1 s2 hi (im (by decide)).1 (im (by decide)).2 hs he hE hz hc
  · exact right_x33 dst src imm size s cond e to_ w d1 d2 s1 s2 hi (im (by decide)).1 (im (by decide)).2 hs he hE hz hc
  · exact right_x35 dst src imm size s cond e to_ w d1 d2 s1 s2 hi (im (by decide)).1 (im (by decide)).2 hs he hE hz hc
  · exact right_x27 dst src imm size s cond e to_ w d1 d2 s1 s2 hi (im (by decide)).1 (im (by decide)).2 hs he hE hz hc
  · exact right_x38 dst src imm size s cond e to_ w d1 d2 s1 s2 hi (im (by decide)).1 (im (by decide)).2 hs he hE hz hc
  · exact right_x39 dst src imm size s cond e to_ w d1 d2 s1 s2 hi (im (by decide)).1 (im (by decide)).2 hs he hE hz hc
  · exact right_x41 dst src imm size s cond e to_ w d1 d2 s1 s2 hi (im (by decide)).1 (im (by decide)).2 hs he hE hz hc
end Go.Proofs.YtbogcompeefoaaaDoor
namespace Go.Proofs.YtbogcompeefoaaaDoor
open Go.RowKit
set_option linter.unusedVariables false
set_option maxHeartbeats 8000000
set_option maxRecDepth 100000 in
theorem uses_any (w : World) (op dst src imm size : Int) (sg : Bool) (cond : Int) (to_ : ByteArray) (o1 : 1 ≤ op) (o2 : op ≤ 41) (h1 : dst ≠ 15) (h2 : src ≠ 15) :
    Calls Tryd.prog 10 #[.agg #[.int .i64 op, .int .i64 dst, .int .i64 src, .int .i64 imm, .int .i64 size, .bool sg, .int .i64 cond, .string to_], .int .i64 15] w fun e w' => e = .returned (.bool false) ∧ Below w.heap.size w w' := by
  have hc : op = 1 ∨ op = 2 ∨ op = 3 ∨ op = 4 ∨ op = 5 ∨ op = 6 ∨ op = 7 ∨ op = 8 ∨ op = 9 ∨ op = 10 ∨ op = 11 ∨ op = 12 ∨ op = 13 ∨ op = 14 ∨ op = 15 ∨ op = 16 ∨ op = 17 ∨ op = 18 ∨ op = 19 ∨ op = 20 ∨ op = 21 ∨ op = 22 ∨ op = 23 ∨ op = 24 ∨ op = 25 ∨ op = 26 ∨ op = 27 ∨ op = 28 ∨ op = 29 ∨ op = 30 ∨ op = 31 ∨ op = 32 ∨ op = 33 ∨ op = 34 ∨ op = 35 ∨ op = 36 ∨ op = 37 ∨ op = 38 ∨ op = 39 ∨ op = 40 ∨ op = 41 := by omega
  have b1 : (dst == 15) = false := by simpa using h1
  have b2 : (src == 15) = false := by simpa using h2
  clear o1 o2 h1 h2
  rcases hc with rfl | rfl | rfl | rfl | rfl | rfl | rfl | rfl | rfl | rfl | rfl | rfl | rfl | rfl | rfl | rfl | rfl | rfl | rfl | rfl | rfl | rfl | rfl | rfl | rfl | rfl | rfl | rfl | rfl | rfl | rfl | rfl | rfl | rfl | rfl | rfl | rfl | rfl | rfl | rfl | rfl
  all_goals
    go_enter Tryd.func10, Tryd.ntmps10
    go_wp2_with fail
    go_returns
    exact ⟨rfl, by first | exact Below.refl _ _ | exact below_alloc _ (Below.refl _ _)⟩
theorem stack_any (w : World) (op dst src imm size : Int) (sg : Bool) (cond : Int) (to_ : ByteArray) :
    Calls Tryd.prog 11 #[.agg #[.int .i64 op, .int .i64 dst, .int .i64 src, .int .i64 imm, .int .i64 size, .bool sg, .int .i64 cond, .string to_]] w fun e w' => e = .returned (.bool (decide ((op = 3 ∧ src = 4) ∨ (op = 4 ∧ dst = 4)))) ∧ Below w.heap.size w w' := by
  obtain ⟨b, hb⟩ : ∃ b, b = decide ((op = 3 ∧ src = 4) ∨ (op = 4 ∧ dst = 4)) := ⟨_, rfl⟩
  rw [← hb]
  have HB := Lib.hid hb
  clear hb
  by_cases h3 : op = 3
  · by_cases hs : src = 4
    · have b3 : (op == 3) = true := by simpa using h3
      have b5 : (src == 4) = true := by simpa using hs
      have HE := Lib.hid (show b = true by rw [HB.out]; simp [h3, hs])
      clear h3 hs
      go_enter Tryd.func11, Tryd.ntmps11
      go_wp2_with fail
      go_returns
      exact ⟨by rw [HE.out]; rfl, by first | exact Below.refl _ _ | exact below_alloc _ (Below.refl _ _)⟩
    · have b3 : (op == 3) = true := by simpa using h3
      have b4 : (op == 4) = false := by simp [h3]
      have b5 : (src == 4) = false := by simpa using hs
      have HE := Lib.hid (show b = false by rw [HB.out]; simp [h3, hs])
      clear h3 hs
      go_enter Tryd.func11, Tryd.ntmps11
      go_wp2_with fail
      go_returns
      exact ⟨by rw [HE.out]; rfl, by first | exact Below.refl _ _ | exact below_alloc _ (Below.refl _ _)⟩
  · by_cases h4 : op = 4
    · by_cases hd : dst = 4
      · have b3 : (op == 3) = false := by simpa using h3
        have b4 : (op == 4) = true := by simpa using h4
        have b5 : (dst == 4) = true := by simpa using hd
        have HE := Lib.hid (show b = true by rw [HB.out]; simp [h4, hd])
        clear h3 h4 hd
        go_enter Tryd.func11, Tryd.ntmps11
        go_wp2_with fail
        go_returns
        exact ⟨by rw [HE.out]; rfl, by first | exact Below.refl _ _ | exact below_alloc _ (Below.refl _ _)⟩
      · have b3 : (op == 3) = false := by simpa using h3
        have b4 : (op == 4) = true := by simpa using h4
        have b5 : (dst == 4) = false := by simpa using hd
        have HE := Lib.hid (show b = false by rw [HB.out]; simp [h4, hd])
        clear h3 h4 hd
        go_enter Tryd.func11, Tryd.ntmps11
        go_wp2_with fail
        go_returns
        exact ⟨by rw [HE.out]; rfl, by first | exact Below.refl _ _ | exact below_alloc _ (Below.refl _ _)⟩
    · have b3 : (op == 3) = false := by simpa using h3
      have b4 : (op == 4) = false := by simpa using h4
      have HE := Lib.hid (show b = false by rw [HB.out]; simp [h3, h4])
      clear h3 h4
      go_enter Tryd.func11, Tryd.ntmps11
      go_wp2_with fail
      go_returns
      exact ⟨by rw [HE.out]; rfl, by first | exact Below.refl _ _ | exact below_alloc _ (Below.refl _ _)⟩
/-- a line that is good is right -/
theorem right_line (w : World) (l : LineD) (h : InsL9 l) : Calls Tryd.prog 9 #[.agg #[.int .i64 l.op, .int .i64 l.dst, .int .i64 l.src, .int .i64 l.imm, .int .i64 l.size, .bool l.signed, .int .i64 l.cond, .string ⟨⟨l.to_⟩⟩]] w fun en w' => en = .returned (.bool true) ∧ Below w.heap.size w w' := by
  have hs : decide (oneL l.signed = 1) = l.signed := by cases l.signed <;> rfl
  have hE : (⟨⟨l.to_⟩⟩ : ByteArray).toList.isEmpty = decide (empL l.to_ = 1) := by
    rw [Lib.toList_data]
    cases l.to_ <;> rfl
  obtain ⟨h1, h2, _⟩ := h
  obtain ⟨o1, o2, d1, d2, s1, s2, _, _, _, _, z1, _, c1, _, z2, _, c2, _⟩ := id h1
  have hz : In64 l.size := by unfold In64; unfold lZ at z1 z2; omega
  have hc : In64 l.cond := by unfold In64; unfold lC at c1 c2; omega
  have := right_l l.op l.dst l.src l.imm l.size (oneL l.signed) l.cond (empL l.to_) ⟨⟨l.to_⟩⟩ w ⟨by omega, by omega⟩ ⟨by omega, by omega⟩ ⟨by omega, by omega⟩ h2 (by cases l.signed <;> simp [oneL]) (by unfold empL; split <;> simp) hE hz hc h1
  rw [hs] at this
  exact this
end Go.Proofs.YtbogcompeefoaaaDoor
