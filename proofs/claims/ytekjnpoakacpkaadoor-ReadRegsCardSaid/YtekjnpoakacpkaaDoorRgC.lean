/- The registers' names: the program's and the document's table. No condition. -/
import Derived.Test.YtekjnpoakacpkaaDoorRegJ
namespace Go.Proofs.YtekjnpoakacpkaaDoor
open Go.RowKit
set_option linter.unusedVariables false
def GsOk (w : World) : Prop := NeedOk gs w ∧ gn ≤ w.heap.size
theorem GsOk.below {w w' : World} (h : GsOk w) (hb : Below w.heap.size w w') : GsOk w' := by
  refine ⟨fun g hg k v hv => ?_, Nat.le_trans h.2 (hb.size)⟩
  rw [(bcell hb).1 _ _ (Nat.lt_of_lt_of_le (gs_ok g hg).1 h.2)]
  exact h.1 g hg k v hv
def sameB : Bool := (List.range 16).all fun r => (List.range 16).all fun s => (List.range 4).all fun k => (List.range 4).all fun m => (regN r k == regN s m) == (r == s && k == m)
theorem same_all : sameB = true := by kernel_rfl
theorem same {r s k m : Nat} (hr : r < 16) (hs : s < 16) (hk : k < 4) (hm : m < 4) : (regN r k == regN s m) = (r == s && k == m) := by
  have h := same_all
  simp only [sameB, List.all_eq_true, List.mem_range] at h
  exact eq_of_beq (h r hr s hs k hk m hm)
def wantF (r x : Int) : List UInt8 := if 0 ≤ r ∧ r ≤ 15 then (if x = 8 then regN r.toNat 3 else if x = 4 then regN r.toNat 2 else if x = 2 then regN r.toNat 1 else if x = 1 then regN r.toNat 0 else []) else []
theorem reg_all (w : World) (hN : GsOk w) (r x : Int) : Calls Tryd.prog 10 #[.int .i64 r, .int .i64 x] w fun e w' => e = .returned (.string ⟨⟨wantF r x⟩⟩) ∧ Below w.heap.size w w' := by
  unfold wantF
  by_cases h0 : r < 0
  · rw [if_neg (by omega)]; exact reg_low w r x h0
  by_cases h1 : 15 < r
  · rw [if_neg (by omega)]; exact reg_high w r x h0 h1
  rw [if_pos (by omega)]
  obtain ⟨n, rfl⟩ : ∃ n : Nat, r = n := ⟨r.toNat, by omega⟩
  have hn : n < 16 := by omega
  rw [Int.toNat_natCast]
  by_cases h8 : x = 8
  · subst h8; rw [if_pos rfl]; exact reg_sizes w hN n 3 hn (by decide)
  rw [if_neg h8]
  by_cases h4 : x = 4
  · subst h4; rw [if_pos rfl]; exact reg_sizes w hN n 2 hn (by decide)
  rw [if_neg h4]
  by_cases h2 : x = 2
  · subst h2; rw [if_pos rfl]; exact reg_sizes w hN n 1 hn (by decide)
  rw [if_neg h2]
  by_cases hx1 : x = 1
  · subst hx1; rw [if_pos rfl]; exact reg_sizes w hN n 0 hn (by decide)
  rw [if_neg hx1]
  exact reg_else w hN n x hn ⟨h8, h4, h2, hx1⟩
def regC : List Value := [.string ⟨⟨[114, 97, 120]⟩⟩, .string ⟨⟨[101, 97, 120]⟩⟩, .string ⟨⟨[97, 120]⟩⟩, .string ⟨⟨[97, 108]⟩⟩, .string ⟨⟨[114, 99, 120]⟩⟩, .string ⟨⟨[101, 99, 120]⟩⟩, .string ⟨⟨[99, 120]⟩⟩, .string ⟨⟨[99, 108]⟩⟩, .string ⟨⟨[114, 100, 120]⟩⟩, .string ⟨⟨[101, 100, 120]⟩⟩, .string ⟨⟨[100, 120]⟩⟩, .string ⟨⟨[100, 108]⟩⟩, .string ⟨⟨[114, 98, 120]⟩⟩, .string ⟨⟨[101, 98, 120]⟩⟩, .string ⟨⟨[98, 120]⟩⟩, .string ⟨⟨[98, 108]⟩⟩, .string ⟨⟨[114, 115, 112]⟩⟩, .string ⟨⟨[101, 115, 112]⟩⟩, .string ⟨⟨[115, 112]⟩⟩, .string ⟨⟨[115, 112, 108]⟩⟩, .string ⟨⟨[114, 98, 112]⟩⟩, .string ⟨⟨[101, 98, 112]⟩⟩, .string ⟨⟨[98, 112]⟩⟩, .string ⟨⟨[98, 112, 108]⟩⟩, .string ⟨⟨[114, 115, 105]⟩⟩, .string ⟨⟨[101, 115, 105]⟩⟩, .string ⟨⟨[115, 105]⟩⟩, .string ⟨⟨[115, 105, 108]⟩⟩, .string ⟨⟨[114, 100, 105]⟩⟩, .string ⟨⟨[101, 100, 105]⟩⟩, .string ⟨⟨[100, 105]⟩⟩, .string ⟨⟨[100, 105, 108]⟩⟩, .string ⟨⟨[114, 56]⟩⟩, .string ⟨⟨[114, 56, 100]⟩⟩, .string ⟨⟨[114, 56, 119]⟩⟩, .string ⟨⟨[114, 56, 98]⟩⟩, .string ⟨⟨[114, 57]⟩⟩, .string ⟨⟨[114, 57, 100]⟩⟩, .string ⟨⟨[114, 57, 119]⟩⟩, .string ⟨⟨[114, 57, 98]⟩⟩, .string ⟨⟨[114, 49, 48]⟩⟩, .string ⟨⟨[114, 49, 48, 100]⟩⟩, .string ⟨⟨[114, 49, 48, 119]⟩⟩, .string ⟨⟨[114, 49, 48, 98]⟩⟩, .string ⟨⟨[114, 49, 49]⟩⟩, .string ⟨⟨[114, 49, 49, 100]⟩⟩, .string ⟨⟨[114, 49, 49, 119]⟩⟩, .string ⟨⟨[114, 49, 49, 98]⟩⟩, .string ⟨⟨[114, 49, 50]⟩⟩, .string ⟨⟨[114, 49, 50, 100]⟩⟩, .string ⟨⟨[114, 49, 50, 119]⟩⟩, .string ⟨⟨[114, 49, 50, 98]⟩⟩, .string ⟨⟨[114, 49, 51]⟩⟩, .string ⟨⟨[114, 49, 51, 100]⟩⟩, .string ⟨⟨[114, 49, 51, 119]⟩⟩, .string ⟨⟨[114, 49, 51, 98]⟩⟩, .string ⟨⟨[114, 49, 52]⟩⟩, .string ⟨⟨[114, 49, 52, 100]⟩⟩, .string ⟨⟨[114, 49, 52, 119]⟩⟩, .string ⟨⟨[114, 49, 52, 98]⟩⟩, .string ⟨⟨[114, 49, 53]⟩⟩, .string ⟨⟨[114, 49, 53, 100]⟩⟩, .string ⟨⟨[114, 49, 53, 119]⟩⟩, .string ⟨⟨[114, 49, 53, 98]⟩⟩]
theorem regC_len : regC.length = 64 := by kernel_rfl
theorem regC_all : ((List.range 16).all fun r => (List.range 4).all fun k => match regC[r * 4 + k]? with | some (.string s) => s.data.toList == regN r (3 - k) | _ => false) = true := by kernel_rfl
theorem regC_at {r k : Nat} (hr : r < 16) (hk : k < 4) : regC[r * 4 + k]? = some (.string ⟨⟨regN r (3 - k)⟩⟩) := by
  have h := regC_all
  simp only [List.all_eq_true, List.mem_range] at h
  have h1 := h r hr k hk
  split at h1
  · rename_i s e
    rw [e]
    have h2 : s.data.toList = regN r (3 - k) := by simpa using h1
    rw [← h2]
  · cases h1
theorem regs_run (w : World) (hN : NeedOk gs w ∧ gn ≤ w.heap.size) : Calls Tryd.prog 6 #[] w fun e w' => e = .returned (.agg ⟨regC⟩) ∧ Below w.heap.size w w' :=
  vrunG (Sy.none Tryd.prog (fun _ => none) gn) mixed 100000 60 6 gn gs [] [] (.agg ⟨regC⟩) (fun g hg => Nat.blt_eq.mp hg) w hN.2 gs_ok hN.1 (fun _ => LR.of_pfs rfl) rfl (by kernel_rfl)
end Go.Proofs.YtekjnpoakacpkaaDoor
