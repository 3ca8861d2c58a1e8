/- Walks: the example of the statements on rtl. No condition. -/
import Derived.Test.YticgaknkonolnaaRtlA
import Derived.Test.YticgaknkonolnaaStruct
namespace Go.Proofs.Yticgaknkonolnaa
open Go.RowKit
set_option linter.unusedVariables false
set_option maxHeartbeats 2000000
theorem r_walk (n : Int) (w : World) : Calls Try.prog 30 #[.int .i64 n] w fun e w' => e = .returned (.agg #[.int .i64 n, .int .i64 0]) ∧ Below w.heap.size w w' := by
  go_enter Try.func30, Try.ntmps30
  go_wp2
  go_returns
  exact ⟨rfl, below_alloc _ (Below.refl _ _)⟩
theorem n_walk (n : Int) (w : World) : Calls Try.prog 31 #[.int .i64 n] w fun e w' => e = .returned (.agg #[.int .i64 (-1), .int .i64 n]) ∧ Below w.heap.size w w' := by
  go_enter Try.func31, Try.ntmps31
  go_wp2
  go_returns
  exact ⟨rfl, below_alloc _ (Below.refl _ _)⟩
def mainS : ByteArray := ⟨#[109, 97, 105, 110]⟩
/-- the block of the one block, of the one function; the value of the program -/
def oneB : Array Value := #[.slice none 0 0, .int .i64 3, .int .i64 0, .int .i64 (-1), .int .i64 7, .int .i64 0, .int .i64 0, .int .i64 0, .int .i64 0]
def oneF (bb : Nat) : Array Value := #[.string mainS, .int .i64 0, .slice none 0 0, .int .i64 0, .slice none 0 0, .slice (some ⟨bb, 0, none⟩) 1 1]
def oneP (fb : Nat) : Value := .agg #[.slice (some ⟨fb, 0, none⟩) 1 1, .slice none 0 0, .int .i64 0, .int .i64 0]
def OneIs (w : World) (e : Ending) (w' : World) : Prop :=
  ∃ fb bb, e = .returned (oneP fb) ∧ w'.heap[fb]? = some (.cells (oneF bb) 44 (0, 0)) ∧ w'.heap[bb]? = some (.cells oneB 51 (0, 0)) ∧ Below w.heap.size w w'
set_option maxRecDepth 100000 in
theorem one_walk (w : World) : Calls Try.prog 29 #[] w (OneIs w) := by
  go_enter Try.func29, Try.ntmps29
  go_wp2_with fail
  refine (n_walk _ _).mono ?_
  rintro e w1 ⟨rfl, hb1⟩
  obtain ⟨hc1, hf1⟩ := bcell hb1
  have hz1 : w.heap.size < w1.heap.size := by have := hb1.size; simp at this; omega
  have kb1 := below_new hb1
  clear hb1
  go_wp2_with fail
  refine bodyPost_ret (v := oneP (w1.heap.size + 1)) (by simp [oneP, results, Try.results29, go_sem, hc1, hz1, Nat.lt_succ_of_lt hz1]) rfl ⟨w1.heap.size + 1, w1.heap.size, rfl, ?_, ?_, ?_⟩
  · exact blk_new' (by simp)
  · exact blk_alloc (blk_new' (by simp)) _
  · go_grown
def oneT : Value := .agg #[.int .i64 3, .int .i64 0, .int .i64 (-1), .int .i64 7, .int .i64 0, .int .i64 0, .int .i64 0, .int .i64 0]
def ReadsIs (w : World) (e : Ending) (w' : World) : Prop :=
  ∃ b, e = .returned (.slice (some ⟨b, 0, none⟩) 1 1) ∧ w'.heap[b]? = some (.cells #[.int .i64 (-1), .int .i64 7] 47 (0, 0)) ∧ w.heap.size ≤ b ∧ Below w.heap.size w w'
theorem reads_one (w : World) : Calls Try.prog 24 #[oneT] w (ReadsIs w) := by
  unfold oneT
  go_enter Try.func24, Try.ntmps24
  go_wp2
  go_returns
  exact ⟨w.heap.size + 1, rfl, blk_new' (by simp), by omega, by go_grown⟩
theorem next_one (w : World) : Calls Try.prog 25 #[oneT] w fun e w' => e = .returned (.slice none 0 0) ∧ Below w.heap.size w w' := by
  unfold oneT
  go_enter Try.func25, Try.ntmps25
  go_wp2
  go_returns
  exact ⟨rfl, by go_grown⟩
theorem args_one (w : World) (fb b : Nat) (k : Int) (hb : w.heap[b]? = some (.cells #[.int .i64 (-1), .int .i64 7] 47 (0, 0))) (f3 : w.cell? ⟨fb, 3, none⟩ = some (.int .i64 k)) (hk : 0 ≤ k) (hlt : fb < w.heap.size) :
    Calls Try.prog 47 #[.pointer (some ⟨fb, 0, none⟩), .slice (some ⟨b, 0, none⟩) 1 1] w fun e w' => e = .returned (.bool true) ∧ Below w.heap.size w w' := by
  have l1 := blk_lt hb
  have b0 : w.cell? ⟨b, 0, none⟩ = some (.int .i64 (-1)) := blk_cell hb rfl
  have b1 : w.cell? ⟨b, 1, none⟩ = some (.int .i64 7) := blk_cell hb rfl
  clear hb
  go_enter Try.func47, Try.ntmps47
  go_wp2_with fail
  refine wp_loop_rounds 2 ?_
  rw [rounds_succ]
  go_wp2_with fail
  go_quiet (fail)
  go_wp2_with fail
  rw [rounds_succ]
  go_wp2_with fail
  go_returns
  exact ⟨rfl, below_drewN (by go_grown) _⟩
theorem ends_one (w : World) (fb : Nat) (k : Int) (f3 : w.cell? ⟨fb, 3, none⟩ = some (.int .i64 k)) (hk : 0 ≤ k) (hlt : fb < w.heap.size) :
    Calls Try.prog 38 #[.pointer (some ⟨fb, 0, none⟩), oneT] w fun e w' => e = .returned (.bool true) ∧ Below w.heap.size w w' := by
  have R1 := Lib.hid reads_one
  have N1 := Lib.hid next_one
  unfold oneT at *
  go_enter Try.func38, Try.ntmps38
  go_wp2_with fail
  refine (R1.out _).mono ?_
  rintro e w1 ⟨b, rfl, hb, hlb, hb1⟩
  have kb1 := below_new hb1
  have hz1 : w.heap.size < w1.heap.size := by have := hb1.size; simp at this; omega
  have t3 : w1.cell? ⟨fb, 3, none⟩ = some (.int .i64 k) := by rw [kb1.cell (p := ⟨fb, 3, none⟩) hlt]; exact f3
  obtain ⟨hc1, hf1⟩ := bcell hb1
  have A1 := Lib.hid (args_one w1 fb b k hb t3 hk (by omega))
  clear hb hlb hb1
  go_wp2_with fail
  refine A1.out.mono ?_
  rintro e w2 ⟨rfl, hb2⟩
  have kb2 := kb1.bt hb2
  have hz2 : w.heap.size < w2.heap.size := by have := hb2.size; omega
  obtain ⟨hc2, hf2⟩ := bcell hb2
  clear hb2 A1
  go_wp2_with fail
  refine (N1.out _).mono ?_
  rintro e w3 ⟨rfl, hb3⟩
  have kb3 := kb2.bt hb3
  go_wp2_with fail
  go_rounds 1
  go_returns
  exact ⟨rfl, kb3⟩
end Go.Proofs.Yticgaknkonolnaa
