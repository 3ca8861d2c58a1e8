/- The walk of MemBytes: a stored number is its bytes. No condition. -/
import Derived.Test.YthkaachgfiljmaaMemFit
import Derived.Test.YthkaachgfiljmaaBits
namespace Go.Proofs.Ythkaachgfiljmaa
open Go.RowKit
set_option linter.unusedVariables false
set_option maxHeartbeats 1000000
/-- 100 zeros: no byte is set -/
theorem zero_new (k : Nat) : newF (fun _ => 0) k = fun _ => 0 := by
  funext x; unfold newF; split <;> rfl
/-- a byte of a memory of 100 zeros in which n bytes from 'base + a' on are v's -/
theorem byte_back (base a i v : Int) (n : Nat) (ha : 0 ≤ a) (hi : 0 ≤ i) (hv : 0 ≤ v) :
    stV (fun _ => 0) (base + a) n v (base + i) = if a ≤ i ∧ i < a + n then v / 2 ^ (8 * (i - a).toNat) % 256 else 0 := by
  unfold stV
  by_cases h : a ≤ i ∧ i < a + n
  · rw [if_pos (by omega), if_pos h, show base + i - (base + a) = i - a by omega]
  · rw [if_neg (by omega), if_neg h]
theorem ld_one (f : Int → Int) (x : Int) : ldV f x 1 = f x := by simp [ldV]
def zeros100 : Array Value := Array.replicate 100 (.int .u8 0)
theorem zeros100_at (i : Nat) (h : i < 100) : zeros100[i]? = some (.int .u8 0) := by simp [zeros100, h]
theorem make100 (w : World) : (Instr.makeSlice 27 (.int .i64 100) (.int .i64 100)).run Try.prog w = .ok (.slice (some ⟨w.heap.size, 0, none⟩) 100 100) (w.alloc (.cells zeros100 5)) := by kernel_rfl
theorem new100 (w : World) : Calls Try.prog 7 #[.slice (some ⟨w.heap.size, 0, none⟩) 100 100] (w.alloc (.cells zeros100 5)) (Newly (w.alloc (.cells zeros100 5)) 100 (fun _ => 0)) := by
  have := new_any (w.alloc (.cells zeros100 5)) (.slice (some ⟨w.heap.size, 0, none⟩) 100 100) 100 100 (fun _ => 0) (by decide)
    (Or.inr ⟨_, _, _, rfl, by decide, by decide, by simp, fun i hi => ⟨by rw [Nat.zero_add]; exact blk_cell (blk_new w _) (zeros100_at i hi), by simp, by simp⟩⟩)
  rwa [zero_new] at this
theorem load_back (base : Int) (a n k : Nat) (v : Int) (hb : base = 65536 ∨ base = 134213600) (hv : 0 ≤ v) (hk : k < 90) (ha : a < 64) (hn : n ≤ 8) :
    loadS 100 (stV (fun _ => 0) (base + a) n v) (base + k) 1 = (if (a : Int) ≤ k ∧ (k : Int) < a + n then v / 2 ^ (8 * (k - a)) % 256 else 0, true) := by
  have : hasS 100 (base + k) 1 = true := by
    unfold hasS; apply decide_eq_true; omega
  unfold loadS
  rw [this]
  simp only [if_true]
  rw [show (1 : Int).toNat = 1 from rfl, ld_one, byte_back base a k v n (by omega) (by omega) hv]
  have e : ((k : Int) - (a : Int)).toNat = k - a := by omega
  rw [e]
theorem has_back (base n : Int) (a : Nat) (hb : base = 65536 ∨ base = 134213600) (ha : a < 64) (hn : 1 ≤ n ∧ n ≤ 8) : hasS 100 (base + a) n = true := by
  unfold hasS; apply decide_eq_true; omega
theorem shift_in (v : Int) (s : Nat) (h : 0 ≤ v ∧ v ≤ 18446744073709551615) : 0 ≤ v / 2 ^ s ∧ v / 2 ^ s < 18446744073709551616 := by
  have hp : (0 : Int) < 2 ^ s := Int.pow_pos (by decide)
  refine ⟨Int.ediv_nonneg h.1 (by omega), ?_⟩
  have := Int.ediv_le_self (2 ^ s) h.1; omega
theorem bytes_1_true (h0 h1 v : Int) (w : World) (i0 : In64 h0) (i1 : In64 h1) (iv : InU64 v) (hb3 : bits .and .i64 h1 3 = 0) :
    Calls Try.prog 3 #[.agg #[.int .i64 h0, .int .i64 h1], .int .u64 v, .bool true] w fun e w' => e = .returned (.bool true) ∧ Below w.heap.size w w' := by
  obtain ⟨a, ha, hal⟩ : ∃ a : Nat, (h0.tmod 64 + 64) % 64 = (a : Int) ∧ a < 64 := ⟨((h0.tmod 64 + 64) % 64).toNat, by omega, by omega⟩
  have hlo : -63 ≤ h0.tmod 64 ∧ h0.tmod 64 ≤ 63 := by rw [tmod_eq_if]; split <;> omega
  have hmk := make100
  obtain ⟨hv1, hv2⟩ := iv
  clear i0 i1
  go_enter Try.func3, Try.ntmps3
  go_wp2_with fail
  refine (mem_fit _).mono ?_
  rintro e w1 ⟨rfl, hb1⟩
  obtain ⟨hc1, hf1⟩ := bcell hb1
  have hz1 : w.heap.size < w1.heap.size := by have := hb1.size; simp at this; omega
  have kb1 := below_new hb1
  go_wp2_with fail
  refine (new100 w1).mono ?_
  rintro e w2 ⟨b, S, rfl, hm, hs, hb2⟩
  have kb2 := kb1.bt (below_new hb2)
  have ST := store_any w2 b 100 _ S (134213600 + a) 1 v hm (by decide) ⟨by omega, by omega⟩ ⟨by decide, by decide⟩ ⟨hv1, hv2⟩
  rw [storeS, has_back 134213600 1 a (by decide) hal (by decide)] at ST
  simp only [if_true] at ST
  rw [show (1 : Int).toNat = 1 from rfl] at ST
  have ST := Lib.hid ST
  have HS := Lib.hid hs
  rename_i ST'
  clear ST' hm hs hc1 hf1 hb1 hb2
  go_wp2_with fail
  refine ST.out.mono ?_
  rintro e w3 ⟨rfl, S3, hm3, hs3, ho3⟩
  have kb3 : Below w.heap.size w w3 := kb2.trans (ho3.below kb2.size (fun k hk => by have := HS.out k hk; simp at this; omega))
  have LD := Lib.hid (fun (k : Nat) (hk : k < 90) => load_any w3 b 100 _ S3 (134213600 + k) 1 hm3 (by decide) ⟨by omega, by omega⟩ ⟨by decide, by decide⟩)
  clear hm3 hs3 ho3
  go_wp2_with fail
  go_loop [38] (fun i => ∃ k : Nat, k ≤ 90 ∧ i = .int .i64 k) (fun i => 90 - (intOf i).toNat)
  case atStart => exact ⟨0, by omega, rfl⟩
  case round =>
    obtain ⟨k, hk, rfl⟩ := hrel
    by_cases hlt : k < 90
    · have L := LD.out k hlt
      rw [load_back 134213600 a 1 k v (by decide) hv1 hlt hal (by decide)] at L
      by_cases hin : (a : Int) ≤ k ∧ (k : Int) < a + (1 : Nat)
      · rw [if_pos hin] at L
        have L := Lib.hid L
        rename_i L'
        clear L'
        obtain ⟨hi1, hi2⟩ := hin
        have hi2' : (k : Int) < a + 1 := by simpa using hi2
        clear hi2
        have hsh := shift_in v (8 * (k - a)) ⟨hv1, hv2⟩
        have hmu := mask_u (v / 2 ^ (8 * (k - a))) 8 (by decide) 255 (by decide) hsh
        go_wp2_with fail
        refine L.out.mono ?_
        rintro e w4 ⟨rfl, rfl⟩
        go_wp2_with fail
        all_goals
          go_round
          case rel => exact ⟨k + 1, by omega, by go_num⟩
          case measure => simp [intOf]; omega
      · rw [if_neg hin] at L
        have L := Lib.hid L
        rename_i L'
        clear L'
        go_wp2_with fail
        refine L.out.mono ?_
        rintro e w4 ⟨rfl, rfl⟩
        go_wp2_with fail
        all_goals
          go_round
          case rel => exact ⟨k + 1, by omega, by go_num⟩
          case measure => simp [intOf]; omega
    · have e : k = 90 := by omega
      subst e
      go_wp2_with fail
      go_returns
      exact ⟨rfl, kb3⟩
theorem bytes_1_false (h0 h1 v : Int) (w : World) (i0 : In64 h0) (i1 : In64 h1) (iv : InU64 v) (hb3 : bits .and .i64 h1 3 = 0) :
    Calls Try.prog 3 #[.agg #[.int .i64 h0, .int .i64 h1], .int .u64 v, .bool false] w fun e w' => e = .returned (.bool true) ∧ Below w.heap.size w w' := by
  obtain ⟨a, ha, hal⟩ : ∃ a : Nat, (h0.tmod 64 + 64) % 64 = (a : Int) ∧ a < 64 := ⟨((h0.tmod 64 + 64) % 64).toNat, by omega, by omega⟩
  have hlo : -63 ≤ h0.tmod 64 ∧ h0.tmod 64 ≤ 63 := by rw [tmod_eq_if]; split <;> omega
  have hmk := make100
  obtain ⟨hv1, hv2⟩ := iv
  clear i0 i1
  go_enter Try.func3, Try.ntmps3
  go_wp2_with fail
  refine (mem_fit _).mono ?_
  rintro e w1 ⟨rfl, hb1⟩
  obtain ⟨hc1, hf1⟩ := bcell hb1
  have hz1 : w.heap.size < w1.heap.size := by have := hb1.size; simp at this; omega
  have kb1 := below_new hb1
  go_wp2_with fail
  refine (new100 w1).mono ?_
  rintro e w2 ⟨b, S, rfl, hm, hs, hb2⟩
  have kb2 := kb1.bt (below_new hb2)
  have ST := store_any w2 b 100 _ S (65536 + a) 1 v hm (by decide) ⟨by omega, by omega⟩ ⟨by decide, by decide⟩ ⟨hv1, hv2⟩
  rw [storeS, has_back 65536 1 a (by decide) hal (by decide)] at ST
  simp only [if_true] at ST
  rw [show (1 : Int).toNat = 1 from rfl] at ST
  have ST := Lib.hid ST
  have HS := Lib.hid hs
  rename_i ST'
  clear ST' hm hs hc1 hf1 hb1 hb2
  go_wp2_with fail
  refine ST.out.mono ?_
  rintro e w3 ⟨rfl, S3, hm3, hs3, ho3⟩
  have kb3 : Below w.heap.size w w3 := kb2.trans (ho3.below kb2.size (fun k hk => by have := HS.out k hk; simp at this; omega))
  have LD := Lib.hid (fun (k : Nat) (hk : k < 90) => load_any w3 b 100 _ S3 (65536 + k) 1 hm3 (by decide) ⟨by omega, by omega⟩ ⟨by decide, by decide⟩)
  clear hm3 hs3 ho3
  go_wp2_with fail
  go_loop [38] (fun i => ∃ k : Nat, k ≤ 90 ∧ i = .int .i64 k) (fun i => 90 - (intOf i).toNat)
  case atStart => exact ⟨0, by omega, rfl⟩
  case round =>
    obtain ⟨k, hk, rfl⟩ := hrel
    by_cases hlt : k < 90
    · have L := LD.out k hlt
      rw [load_back 65536 a 1 k v (by decide) hv1 hlt hal (by decide)] at L
      by_cases hin : (a : Int) ≤ k ∧ (k : Int) < a + (1 : Nat)
      · rw [if_pos hin] at L
        have L := Lib.hid L
        rename_i L'
        clear L'
        obtain ⟨hi1, hi2⟩ := hin
        have hi2' : (k : Int) < a + 1 := by simpa using hi2
        clear hi2
        have hsh := shift_in v (8 * (k - a)) ⟨hv1, hv2⟩
        have hmu := mask_u (v / 2 ^ (8 * (k - a))) 8 (by decide) 255 (by decide) hsh
        go_wp2_with fail
        refine L.out.mono ?_
        rintro e w4 ⟨rfl, rfl⟩
        go_wp2_with fail
        all_goals
          go_round
          case rel => exact ⟨k + 1, by omega, by go_num⟩
          case measure => simp [intOf]; omega
      · rw [if_neg hin] at L
        have L := Lib.hid L
        rename_i L'
        clear L'
        go_wp2_with fail
        refine L.out.mono ?_
        rintro e w4 ⟨rfl, rfl⟩
        go_wp2_with fail
        all_goals
          go_round
          case rel => exact ⟨k + 1, by omega, by go_num⟩
          case measure => simp [intOf]; omega
    · have e : k = 90 := by omega
      subst e
      go_wp2_with fail
      go_returns
      exact ⟨rfl, kb3⟩
theorem bytes_2_true (h0 h1 v : Int) (w : World) (i0 : In64 h0) (i1 : In64 h1) (iv : InU64 v) (hb3 : bits .and .i64 h1 3 = 1) :
    Calls Try.prog 3 #[.agg #[.int .i64 h0, .int .i64 h1], .int .u64 v, .bool true] w fun e w' => e = .returned (.bool true) ∧ Below w.heap.size w w' := by
  obtain ⟨a, ha, hal⟩ : ∃ a : Nat, (h0.tmod 64 + 64) % 64 = (a : Int) ∧ a < 64 := ⟨((h0.tmod 64 + 64) % 64).toNat, by omega, by omega⟩
  have hlo : -63 ≤ h0.tmod 64 ∧ h0.tmod 64 ≤ 63 := by rw [tmod_eq_if]; split <;> omega
  have hmk := make100
  obtain ⟨hv1, hv2⟩ := iv
  clear i0 i1
  go_enter Try.func3, Try.ntmps3
  go_wp2_with fail
  refine (mem_fit _).mono ?_
  rintro e w1 ⟨rfl, hb1⟩
  obtain ⟨hc1, hf1⟩ := bcell hb1
  have hz1 : w.heap.size < w1.heap.size := by have := hb1.size; simp at this; omega
  have kb1 := below_new hb1
  go_wp2_with fail
  refine (new100 w1).mono ?_
  rintro e w2 ⟨b, S, rfl, hm, hs, hb2⟩
  have kb2 := kb1.bt (below_new hb2)
  have ST := store_any w2 b 100 _ S (134213600 + a) 2 v hm (by decide) ⟨by omega, by omega⟩ ⟨by decide, by decide⟩ ⟨hv1, hv2⟩
  rw [storeS, has_back 134213600 2 a (by decide) hal (by decide)] at ST
  simp only [if_true] at ST
  rw [show (2 : Int).toNat = 2 from rfl] at ST
  have ST := Lib.hid ST
  have HS := Lib.hid hs
  rename_i ST'
  clear ST' hm hs hc1 hf1 hb1 hb2
  go_wp2_with fail
  refine ST.out.mono ?_
  rintro e w3 ⟨rfl, S3, hm3, hs3, ho3⟩
  have kb3 : Below w.heap.size w w3 := kb2.trans (ho3.below kb2.size (fun k hk => by have := HS.out k hk; simp at this; omega))
  have LD := Lib.hid (fun (k : Nat) (hk : k < 90) => load_any w3 b 100 _ S3 (134213600 + k) 1 hm3 (by decide) ⟨by omega, by omega⟩ ⟨by decide, by decide⟩)
  clear hm3 hs3 ho3
  go_wp2_with fail
  go_loop [38] (fun i => ∃ k : Nat, k ≤ 90 ∧ i = .int .i64 k) (fun i => 90 - (intOf i).toNat)
  case atStart => exact ⟨0, by omega, rfl⟩
  case round =>
    obtain ⟨k, hk, rfl⟩ := hrel
    by_cases hlt : k < 90
    · have L := LD.out k hlt
      rw [load_back 134213600 a 2 k v (by decide) hv1 hlt hal (by decide)] at L
      by_cases hin : (a : Int) ≤ k ∧ (k : Int) < a + (2 : Nat)
      · rw [if_pos hin] at L
        have L := Lib.hid L
        rename_i L'
        clear L'
        obtain ⟨hi1, hi2⟩ := hin
        have hi2' : (k : Int) < a + 2 := by simpa using hi2
        clear hi2
        have hsh := shift_in v (8 * (k - a)) ⟨hv1, hv2⟩
        have hmu := mask_u (v / 2 ^ (8 * (k - a))) 8 (by decide) 255 (by decide) hsh
        go_wp2_with fail
        refine L.out.mono ?_
        rintro e w4 ⟨rfl, rfl⟩
        go_wp2_with fail
        all_goals
          go_round
          case rel => exact ⟨k + 1, by omega, by go_num⟩
          case measure => simp [intOf]; omega
      · rw [if_neg hin] at L
        have L := Lib.hid L
        rename_i L'
        clear L'
        go_wp2_with fail
        refine L.out.mono ?_
        rintro e w4 ⟨rfl, rfl⟩
        go_wp2_with fail
        all_goals
          go_round
          case rel => exact ⟨k + 1, by omega, by go_num⟩
          case measure => simp [intOf]; omega
    · have e : k = 90 := by omega
      subst e
      go_wp2_with fail
      go_returns
      exact ⟨rfl, kb3⟩
theorem bytes_2_false (h0 h1 v : Int) (w : World) (i0 : In64 h0) (i1 : In64 h1) (iv : InU64 v) (hb3 : bits .and .i64 h1 3 = 1) :
    Calls Try.prog 3 #[.agg #[.int .i64 h0, .int .i64 h1], .int .u64 v, .bool false] w fun e w' => e = .returned (.bool true) ∧ Below w.heap.size w w' := by
  obtain ⟨a, ha, hal⟩ : ∃ a : Nat, (h0.tmod 64 + 64) % 64 = (a : Int) ∧ a < 64 := ⟨((h0.tmod 64 + 64) % 64).toNat, by omega, by omega⟩
  have hlo : -63 ≤ h0.tmod 64 ∧ h0.tmod 64 ≤ 63 := by rw [tmod_eq_if]; split <;> omega
  have hmk := make100
  obtain ⟨hv1, hv2⟩ := iv
  clear i0 i1
  go_enter Try.func3, Try.ntmps3
  go_wp2_with fail
  refine (mem_fit _).mono ?_
  rintro e w1 ⟨rfl, hb1⟩
  obtain ⟨hc1, hf1⟩ := bcell hb1
  have hz1 : w.heap.size < w1.heap.size := by have := hb1.size; simp at this; omega
  have kb1 := below_new hb1
  go_wp2_with fail
  refine (new100 w1).mono ?_
  rintro e w2 ⟨b, S, rfl, hm, hs, hb2⟩
  have kb2 := kb1.bt (below_new hb2)
  have ST := store_any w2 b 100 _ S (65536 + a) 2 v hm (by decide) ⟨by omega, by omega⟩ ⟨by decide, by decide⟩ ⟨hv1, hv2⟩
  rw [storeS, has_back 65536 2 a (by decide) hal (by decide)] at ST
  simp only [if_true] at ST
  rw [show (2 : Int).toNat = 2 from rfl] at ST
  have ST := Lib.hid ST
  have HS := Lib.hid hs
  rename_i ST'
  clear ST' hm hs hc1 hf1 hb1 hb2
  go_wp2_with fail
  refine ST.out.mono ?_
  rintro e w3 ⟨rfl, S3, hm3, hs3, ho3⟩
  have kb3 : Below w.heap.size w w3 := kb2.trans (ho3.below kb2.size (fun k hk => by have := HS.out k hk; simp at this; omega))
  have LD := Lib.hid (fun (k : Nat) (hk : k < 90) => load_any w3 b 100 _ S3 (65536 + k) 1 hm3 (by decide) ⟨by omega, by omega⟩ ⟨by decide, by decide⟩)
  clear hm3 hs3 ho3
  go_wp2_with fail
  go_loop [38] (fun i => ∃ k : Nat, k ≤ 90 ∧ i = .int .i64 k) (fun i => 90 - (intOf i).toNat)
  case atStart => exact ⟨0, by omega, rfl⟩
  case round =>
    obtain ⟨k, hk, rfl⟩ := hrel
    by_cases hlt : k < 90
    · have L := LD.out k hlt
      rw [load_back 65536 a 2 k v (by decide) hv1 hlt hal (by decide)] at L
      by_cases hin : (a : Int) ≤ k ∧ (k : Int) < a + (2 : Nat)
      · rw [if_pos hin] at L
        have L := Lib.hid L
        rename_i L'
        clear L'
        obtain ⟨hi1, hi2⟩ := hin
        have hi2' : (k : Int) < a + 2 := by simpa using hi2
        clear hi2
        have hsh := shift_in v (8 * (k - a)) ⟨hv1, hv2⟩
        have hmu := mask_u (v / 2 ^ (8 * (k - a))) 8 (by decide) 255 (by decide) hsh
        go_wp2_with fail
        refine L.out.mono ?_
        rintro e w4 ⟨rfl, rfl⟩
        go_wp2_with fail
        all_goals
          go_round
          case rel => exact ⟨k + 1, by omega, by go_num⟩
          case measure => simp [intOf]; omega
      · rw [if_neg hin] at L
        have L := Lib.hid L
        rename_i L'
        clear L'
        go_wp2_with fail
        refine L.out.mono ?_
        rintro e w4 ⟨rfl, rfl⟩
        go_wp2_with fail
        all_goals
          go_round
          case rel => exact ⟨k + 1, by omega, by go_num⟩
          case measure => simp [intOf]; omega
    · have e : k = 90 := by omega
      subst e
      go_wp2_with fail
      go_returns
      exact ⟨rfl, kb3⟩
theorem bytes_4_true (h0 h1 v : Int) (w : World) (i0 : In64 h0) (i1 : In64 h1) (iv : InU64 v) (hb3 : bits .and .i64 h1 3 = 2) :
    Calls Try.prog 3 #[.agg #[.int .i64 h0, .int .i64 h1], .int .u64 v, .bool true] w fun e w' => e = .returned (.bool true) ∧ Below w.heap.size w w' := by
  obtain ⟨a, ha, hal⟩ : ∃ a : Nat, (h0.tmod 64 + 64) % 64 = (a : Int) ∧ a < 64 := ⟨((h0.tmod 64 + 64) % 64).toNat, by omega, by omega⟩
  have hlo : -63 ≤ h0.tmod 64 ∧ h0.tmod 64 ≤ 63 := by rw [tmod_eq_if]; split <;> omega
  have hmk := make100
  obtain ⟨hv1, hv2⟩ := iv
  clear i0 i1
  go_enter Try.func3, Try.ntmps3
  go_wp2_with fail
  refine (mem_fit _).mono ?_
  rintro e w1 ⟨rfl, hb1⟩
  obtain ⟨hc1, hf1⟩ := bcell hb1
  have hz1 : w.heap.size < w1.heap.size := by have := hb1.size; simp at this; omega
  have kb1 := below_new hb1
  go_wp2_with fail
  refine (new100 w1).mono ?_
  rintro e w2 ⟨b, S, rfl, hm, hs, hb2⟩
  have kb2 := kb1.bt (below_new hb2)
  have ST := store_any w2 b 100 _ S (134213600 + a) 4 v hm (by decide) ⟨by omega, by omega⟩ ⟨by decide, by decide⟩ ⟨hv1, hv2⟩
  rw [storeS, has_back 134213600 4 a (by decide) hal (by decide)] at ST
  simp only [if_true] at ST
  rw [show (4 : Int).toNat = 4 from rfl] at ST
  have ST := Lib.hid ST
  have HS := Lib.hid hs
  rename_i ST'
  clear ST' hm hs hc1 hf1 hb1 hb2
  go_wp2_with fail
  refine ST.out.mono ?_
  rintro e w3 ⟨rfl, S3, hm3, hs3, ho3⟩
  have kb3 : Below w.heap.size w w3 := kb2.trans (ho3.below kb2.size (fun k hk => by have := HS.out k hk; simp at this; omega))
  have LD := Lib.hid (fun (k : Nat) (hk : k < 90) => load_any w3 b 100 _ S3 (134213600 + k) 1 hm3 (by decide) ⟨by omega, by omega⟩ ⟨by decide, by decide⟩)
  clear hm3 hs3 ho3
  go_wp2_with fail
  go_loop [38] (fun i => ∃ k : Nat, k ≤ 90 ∧ i = .int .i64 k) (fun i => 90 - (intOf i).toNat)
  case atStart => exact ⟨0, by omega, rfl⟩
  case round =>
    obtain ⟨k, hk, rfl⟩ := hrel
    by_cases hlt : k < 90
    · have L := LD.out k hlt
      rw [load_back 134213600 a 4 k v (by decide) hv1 hlt hal (by decide)] at L
      by_cases hin : (a : Int) ≤ k ∧ (k : Int) < a + (4 : Nat)
      · rw [if_pos hin] at L
        have L := Lib.hid L
        rename_i L'
        clear L'
        obtain ⟨hi1, hi2⟩ := hin
        have hi2' : (k : Int) < a + 4 := by simpa using hi2
        clear hi2
        have hsh := shift_in v (8 * (k - a)) ⟨hv1, hv2⟩
        have hmu := mask_u (v / 2 ^ (8 * (k - a))) 8 (by decide) 255 (by decide) hsh
        go_wp2_with fail
        refine L.out.mono ?_
        rintro e w4 ⟨rfl, rfl⟩
        go_wp2_with fail
        all_goals
          go_round
          case rel => exact ⟨k + 1, by omega, by go_num⟩
          case measure => simp [intOf]; omega
      · rw [if_neg hin] at L
        have L := Lib.hid L
        rename_i L'
        clear L'
        go_wp2_with fail
        refine L.out.mono ?_
        rintro e w4 ⟨rfl, rfl⟩
        go_wp2_with fail
        all_goals
          go_round
          case rel => exact ⟨k + 1, by omega, by go_num⟩
          case measure => simp [intOf]; omega
    · have e : k = 90 := by omega
      subst e
      go_wp2_with fail
      go_returns
      exact ⟨rfl, kb3⟩
theorem bytes_4_false (h0 h1 v : Int) (w : World) (i0 : In64 h0) (i1 : In64 h1) (iv : InU64 v) (hb3 : bits .and .i64 h1 3 = 2) :
    Calls Try.prog 3 #[.agg #[.int .i64 h0, .int .i64 h1], .int .u64 v, .bool false] w fun e w' => e = .returned (.bool true) ∧ Below w.heap.size w w' := by
  obtain ⟨a, ha, hal⟩ : ∃ a : Nat, (h0.tmod 64 + 64) % 64 = (a : Int) ∧ a < 64 := ⟨((h0.tmod 64 + 64) % 64).toNat, by omega, by omega⟩
  have hlo : -63 ≤ h0.tmod 64 ∧ h0.tmod 64 ≤ 63 := by rw [tmod_eq_if]; split <;> omega
  have hmk := make100
  obtain ⟨hv1, hv2⟩ := iv
  clear i0 i1
  go_enter Try.func3, Try.ntmps3
  go_wp2_with fail
  refine (mem_fit _).mono ?_
  rintro e w1 ⟨rfl, hb1⟩
  obtain ⟨hc1, hf1⟩ := bcell hb1
  have hz1 : w.heap.size < w1.heap.size := by have := hb1.size; simp at this; omega
  have kb1 := below_new hb1
  go_wp2_with fail
  refine (new100 w1).mono ?_
  rintro e w2 ⟨b, S, rfl, hm, hs, hb2⟩
  have kb2 := kb1.bt (below_new hb2)
  have ST := store_any w2 b 100 _ S (65536 + a) 4 v hm (by decide) ⟨by omega, by omega⟩ ⟨by decide, by decide⟩ ⟨hv1, hv2⟩
  rw [storeS, has_back 65536 4 a (by decide) hal (by decide)] at ST
  simp only [if_true] at ST
  rw [show (4 : Int).toNat = 4 from rfl] at ST
  have ST := Lib.hid ST
  have HS := Lib.hid hs
  rename_i ST'
  clear ST' hm hs hc1 hf1 hb1 hb2
  go_wp2_with fail
  refine ST.out.mono ?_
  rintro e w3 ⟨rfl, S3, hm3, hs3, ho3⟩
  have kb3 : Below w.heap.size w w3 := kb2.trans (ho3.below kb2.size (fun k hk => by have := HS.out k hk; simp at this; omega))
  have LD := Lib.hid (fun (k : Nat) (hk : k < 90) => load_any w3 b 100 _ S3 (65536 + k) 1 hm3 (by decide) ⟨by omega, by omega⟩ ⟨by decide, by decide⟩)
  clear hm3 hs3 ho3
  go_wp2_with fail
  go_loop [38] (fun i => ∃ k : Nat, k ≤ 90 ∧ i = .int .i64 k) (fun i => 90 - (intOf i).toNat)
  case atStart => exact ⟨0, by omega, rfl⟩
  case round =>
    obtain ⟨k, hk, rfl⟩ := hrel
    by_cases hlt : k < 90
    · have L := LD.out k hlt
      rw [load_back 65536 a 4 k v (by decide) hv1 hlt hal (by decide)] at L
      by_cases hin : (a : Int) ≤ k ∧ (k : Int) < a + (4 : Nat)
      · rw [if_pos hin] at L
        have L := Lib.hid L
        rename_i L'
        clear L'
        obtain ⟨hi1, hi2⟩ := hin
        have hi2' : (k : Int) < a + 4 := by simpa using hi2
        clear hi2
        have hsh := shift_in v (8 * (k - a)) ⟨hv1, hv2⟩
        have hmu := mask_u (v / 2 ^ (8 * (k - a))) 8 (by decide) 255 (by decide) hsh
        go_wp2_with fail
        refine L.out.mono ?_
        rintro e w4 ⟨rfl, rfl⟩
        go_wp2_with fail
        all_goals
          go_round
          case rel => exact ⟨k + 1, by omega, by go_num⟩
          case measure => simp [intOf]; omega
      · rw [if_neg hin] at L
        have L := Lib.hid L
        rename_i L'
        clear L'
        go_wp2_with fail
        refine L.out.mono ?_
        rintro e w4 ⟨rfl, rfl⟩
        go_wp2_with fail
        all_goals
          go_round
          case rel => exact ⟨k + 1, by omega, by go_num⟩
          case measure => simp [intOf]; omega
    · have e : k = 90 := by omega
      subst e
      go_wp2_with fail
      go_returns
      exact ⟨rfl, kb3⟩
theorem bytes_8_true (h0 h1 v : Int) (w : World) (i0 : In64 h0) (i1 : In64 h1) (iv : InU64 v) (hb3 : bits .and .i64 h1 3 = 3) :
    Calls Try.prog 3 #[.agg #[.int .i64 h0, .int .i64 h1], .int .u64 v, .bool true] w fun e w' => e = .returned (.bool true) ∧ Below w.heap.size w w' := by
  obtain ⟨a, ha, hal⟩ : ∃ a : Nat, (h0.tmod 64 + 64) % 64 = (a : Int) ∧ a < 64 := ⟨((h0.tmod 64 + 64) % 64).toNat, by omega, by omega⟩
  have hlo : -63 ≤ h0.tmod 64 ∧ h0.tmod 64 ≤ 63 := by rw [tmod_eq_if]; split <;> omega
  have hmk := make100
  obtain ⟨hv1, hv2⟩ := iv
  clear i0 i1
  go_enter Try.func3, Try.ntmps3
  go_wp2_with fail
  refine (mem_fit _).mono ?_
  rintro e w1 ⟨rfl, hb1⟩
  obtain ⟨hc1, hf1⟩ := bcell hb1
  have hz1 : w.heap.size < w1.heap.size := by have := hb1.size; simp at this; omega
  have kb1 := below_new hb1
  go_wp2_with fail
  refine (new100 w1).mono ?_
  rintro e w2 ⟨b, S, rfl, hm, hs, hb2⟩
  have kb2 := kb1.bt (below_new hb2)
  have ST := store_any w2 b 100 _ S (134213600 + a) 8 v hm (by decide) ⟨by omega, by omega⟩ ⟨by decide, by decide⟩ ⟨hv1, hv2⟩
  rw [storeS, has_back 134213600 8 a (by decide) hal (by decide)] at ST
  simp only [if_true] at ST
  rw [show (8 : Int).toNat = 8 from rfl] at ST
  have ST := Lib.hid ST
  have HS := Lib.hid hs
  rename_i ST'
  clear ST' hm hs hc1 hf1 hb1 hb2
  go_wp2_with fail
  refine ST.out.mono ?_
  rintro e w3 ⟨rfl, S3, hm3, hs3, ho3⟩
  have kb3 : Below w.heap.size w w3 := kb2.trans (ho3.below kb2.size (fun k hk => by have := HS.out k hk; simp at this; omega))
  have LD := Lib.hid (fun (k : Nat) (hk : k < 90) => load_any w3 b 100 _ S3 (134213600 + k) 1 hm3 (by decide) ⟨by omega, by omega⟩ ⟨by decide, by decide⟩)
  clear hm3 hs3 ho3
  go_wp2_with fail
  go_loop [38] (fun i => ∃ k : Nat, k ≤ 90 ∧ i = .int .i64 k) (fun i => 90 - (intOf i).toNat)
  case atStart => exact ⟨0, by omega, rfl⟩
  case round =>
    obtain ⟨k, hk, rfl⟩ := hrel
    by_cases hlt : k < 90
    · have L := LD.out k hlt
      rw [load_back 134213600 a 8 k v (by decide) hv1 hlt hal (by decide)] at L
      by_cases hin : (a : Int) ≤ k ∧ (k : Int) < a + (8 : Nat)
      · rw [if_pos hin] at L
        have L := Lib.hid L
        rename_i L'
        clear L'
        obtain ⟨hi1, hi2⟩ := hin
        have hi2' : (k : Int) < a + 8 := by simpa using hi2
        clear hi2
        have hsh := shift_in v (8 * (k - a)) ⟨hv1, hv2⟩
        have hmu := mask_u (v / 2 ^ (8 * (k - a))) 8 (by decide) 255 (by decide) hsh
        go_wp2_with fail
        refine L.out.mono ?_
        rintro e w4 ⟨rfl, rfl⟩
        go_wp2_with fail
        all_goals
          go_round
          case rel => exact ⟨k + 1, by omega, by go_num⟩
          case measure => simp [intOf]; omega
      · rw [if_neg hin] at L
        have L := Lib.hid L
        rename_i L'
        clear L'
        go_wp2_with fail
        refine L.out.mono ?_
        rintro e w4 ⟨rfl, rfl⟩
        go_wp2_with fail
        all_goals
          go_round
          case rel => exact ⟨k + 1, by omega, by go_num⟩
          case measure => simp [intOf]; omega
    · have e : k = 90 := by omega
      subst e
      go_wp2_with fail
      go_returns
      exact ⟨rfl, kb3⟩
theorem bytes_8_false (h0 h1 v : Int) (w : World) (i0 : In64 h0) (i1 : In64 h1) (iv : InU64 v) (hb3 : bits .and .i64 h1 3 = 3) :
    Calls Try.prog 3 #[.agg #[.int .i64 h0, .int .i64 h1], .int .u64 v, .bool false] w fun e w' => e = .returned (.bool true) ∧ Below w.heap.size w w' := by
  obtain ⟨a, ha, hal⟩ : ∃ a : Nat, (h0.tmod 64 + 64) % 64 = (a : Int) ∧ a < 64 := ⟨((h0.tmod 64 + 64) % 64).toNat, by omega, by omega⟩
  have hlo : -63 ≤ h0.tmod 64 ∧ h0.tmod 64 ≤ 63 := by rw [tmod_eq_if]; split <;> omega
  have hmk := make100
  obtain ⟨hv1, hv2⟩ := iv
  clear i0 i1
  go_enter Try.func3, Try.ntmps3
  go_wp2_with fail
  refine (mem_fit _).mono ?_
  rintro e w1 ⟨rfl, hb1⟩
  obtain ⟨hc1, hf1⟩ := bcell hb1
  have hz1 : w.heap.size < w1.heap.size := by have := hb1.size; simp at this; omega
  have kb1 := below_new hb1
  go_wp2_with fail
  refine (new100 w1).mono ?_
  rintro e w2 ⟨b, S, rfl, hm, hs, hb2⟩
  have kb2 := kb1.bt (below_new hb2)
  have ST := store_any w2 b 100 _ S (65536 + a) 8 v hm (by decide) ⟨by omega, by omega⟩ ⟨by decide, by decide⟩ ⟨hv1, hv2⟩
  rw [storeS, has_back 65536 8 a (by decide) hal (by decide)] at ST
  simp only [if_true] at ST
  rw [show (8 : Int).toNat = 8 from rfl] at ST
  have ST := Lib.hid ST
  have HS := Lib.hid hs
  rename_i ST'
  clear ST' hm hs hc1 hf1 hb1 hb2
  go_wp2_with fail
  refine ST.out.mono ?_
  rintro e w3 ⟨rfl, S3, hm3, hs3, ho3⟩
  have kb3 : Below w.heap.size w w3 := kb2.trans (ho3.below kb2.size (fun k hk => by have := HS.out k hk; simp at this; omega))
  have LD := Lib.hid (fun (k : Nat) (hk : k < 90) => load_any w3 b 100 _ S3 (65536 + k) 1 hm3 (by decide) ⟨by omega, by omega⟩ ⟨by decide, by decide⟩)
  clear hm3 hs3 ho3
  go_wp2_with fail
  go_loop [38] (fun i => ∃ k : Nat, k ≤ 90 ∧ i = .int .i64 k) (fun i => 90 - (intOf i).toNat)
  case atStart => exact ⟨0, by omega, rfl⟩
  case round =>
    obtain ⟨k, hk, rfl⟩ := hrel
    by_cases hlt : k < 90
    · have L := LD.out k hlt
      rw [load_back 65536 a 8 k v (by decide) hv1 hlt hal (by decide)] at L
      by_cases hin : (a : Int) ≤ k ∧ (k : Int) < a + (8 : Nat)
      · rw [if_pos hin] at L
        have L := Lib.hid L
        rename_i L'
        clear L'
        obtain ⟨hi1, hi2⟩ := hin
        have hi2' : (k : Int) < a + 8 := by simpa using hi2
        clear hi2
        have hsh := shift_in v (8 * (k - a)) ⟨hv1, hv2⟩
        have hmu := mask_u (v / 2 ^ (8 * (k - a))) 8 (by decide) 255 (by decide) hsh
        go_wp2_with fail
        refine L.out.mono ?_
        rintro e w4 ⟨rfl, rfl⟩
        go_wp2_with fail
        all_goals
          go_round
          case rel => exact ⟨k + 1, by omega, by go_num⟩
          case measure => simp [intOf]; omega
      · rw [if_neg hin] at L
        have L := Lib.hid L
        rename_i L'
        clear L'
        go_wp2_with fail
        refine L.out.mono ?_
        rintro e w4 ⟨rfl, rfl⟩
        go_wp2_with fail
        all_goals
          go_round
          case rel => exact ⟨k + 1, by omega, by go_num⟩
          case measure => simp [intOf]; omega
    · have e : k = 90 := by omega
      subst e
      go_wp2_with fail
      go_returns
      exact ⟨rfl, kb3⟩
theorem bytes_walk (h0 h1 v : Int) (stack : Bool) (w : World) (i0 : In64 h0) (i1 : In64 h1) (iv : InU64 v) :
    Calls Try.prog 3 #[.agg #[.int .i64 h0, .int .i64 h1], .int .u64 v, .bool stack] w fun e w' => e = .returned (.bool true) ∧ Below w.heap.size w w' := by
  have hc : bits .and .i64 h1 3 = 0 ∨ bits .and .i64 h1 3 = 1 ∨ bits .and .i64 h1 3 = 2 ∨ bits .and .i64 h1 3 = 3 := by
    rw [and3 h1]; omega
  rcases hc with h | h | h | h <;> cases stack
  · exact bytes_1_false h0 h1 v w i0 i1 iv h
  · exact bytes_1_true h0 h1 v w i0 i1 iv h
  · exact bytes_2_false h0 h1 v w i0 i1 iv h
  · exact bytes_2_true h0 h1 v w i0 i1 iv h
  · exact bytes_4_false h0 h1 v w i0 i1 iv h
  · exact bytes_4_true h0 h1 v w i0 i1 iv h
  · exact bytes_8_false h0 h1 v w i0 i1 iv h
  · exact bytes_8_true h0 h1 v w i0 i1 iv h
end Go.Proofs.Ythkaachgfiljmaa
