/- Parts of an instruction's line, as bytes; the functions that make them. No condition. -/
import Derived.Test.YtmmpkkpmlaiapaaGreatDoorQe
import Derived.Test.YtmmpkkpmlaiapaaGreatDoorShelf
import Derived.Test.YtmmpkkpmlaiapaaGreatDoorQa
import Derived.Lib.AppendIntMem
namespace Go.Proofs.YtmmpkkpmlaiapaaGreatDoor
open Go.RowKit
set_option linter.unusedVariables false
set_option maxHeartbeats 4000000
def pS (n s : Int) : ByteArray := ⟨⟨37 :: wantF n s⟩⟩
def rB (n s : Int) : ByteArray := ⟨⟨wantF n s⟩⟩
def numB (n : Int) : ByteArray := ⟨⟨Lib.itoa n⟩⟩
def immB (n : Int) : ByteArray := ⟨⟨36 :: Lib.itoa n⟩⟩
def atL (b off : Int) : List UInt8 := (if off = 0 then [] else Lib.itoa off) ++ (40 :: 37 :: wantF b 8) ++ [41]
def atB (b off : Int) : ByteArray := ⟨⟨atL b off⟩⟩
theorem size_mk (l : List UInt8) : (⟨⟨l⟩⟩ : ByteArray).size = l.length := rfl
theorem want_len (n s : Int) : (wantF n s).length ≤ 4 := by
  have hall : (regT.all fun l => decide (l.length ≤ 4)) = true := by kernel_rfl
  have hreg : ∀ r k, (regN r k).length ≤ 4 := fun r k => by
    unfold regN
    rw [List.getD_eq_getElem?_getD]
    cases h : regT[r * 4 + k]? with
    | none => simp
    | some l =>
      rw [List.all_eq_true] at hall
      simpa using hall l (List.mem_of_getElem? h)
  unfold wantF
  split
  · split
    · exact hreg _ _
    · split
      · exact hreg _ _
      · split
        · exact hreg _ _
        · split
          · exact hreg _ _
          · simp
  · simp
theorem cond_len (c : Int) : (condF c).length ≤ 2 := by
  have hall : (condT.all fun l => decide (l.length ≤ 2)) = true := by kernel_rfl
  unfold condF
  split
  · rw [List.getD_eq_getElem?_getD]
    cases h : condT[c.toNat]? with
    | none => simp
    | some l =>
      rw [List.all_eq_true] at hall
      simpa using hall l (List.mem_of_getElem? h)
  · simp
theorem move_len (k : Nat) (g : Bool) : (moveF k g).1.length ≤ 6 := by unfold moveF; split <;> simp
theorem dec_len : ∀ (k u : Nat), u < 10 ^ (k + 1) → (Lib.decDigits u).length ≤ k + 1
  | 0, u, h => by rw [Lib.decDigits, dif_pos (by omega)]; simp
  | k + 1, u, h => by
    rw [Lib.decDigits]
    split
    · simp
    · rw [List.length_append]
      have := dec_len k (u / 10) (by rw [Nat.div_lt_iff_lt_mul (by decide)]; rw [Nat.pow_succ] at h; exact h)
      simp; omega
theorem itoa_len {n : Int} (h : In64 n) : (Lib.itoa n).length ≤ 20 := by
  obtain ⟨h1, h2⟩ := h
  unfold Lib.itoa
  split
  · have := dec_len 18 n.natAbs (by omega)
    simp; omega
  · have := dec_len 18 n.toNat (by omega)
    omega
theorem pS_size (n s : Int) : (pS n s).size ≤ 5 := by have := want_len n s; unfold pS; rw [size_mk, List.length_cons]; omega
theorem rB_size (n s : Int) : (rB n s).size ≤ 4 := by have := want_len n s; unfold rB; rw [size_mk]; omega
theorem numB_size {n : Int} (h : In64 n) : (numB n).size ≤ 20 := by have := itoa_len h; unfold numB; rw [size_mk]; omega
theorem immB_size {n : Int} (h : In64 n) : (immB n).size ≤ 21 := by have := itoa_len h; unfold immB; rw [size_mk, List.length_cons]; omega
theorem atB_size (b : Int) {n : Int} (h : In64 n) : (atB b n).size ≤ 30 := by
  have h1 := itoa_len h
  have h2 := want_len b 8
  unfold atB atL
  rw [size_mk]
  split <;> simp <;> omega
theorem fmt_any (w : World) (hP : PowOk w) (n : Int) (h : In64 n) : Calls Tryz.prog 72 #[.int .i64 n, .int .i64 10] w fun e w' => e = .returned (.string (numB n)) ∧ Below w.heap.size w w' :=
  (Tryz.strconv_FormatInt_10 n h.1 h.2 w hP.1).mono (fun e w' ⟨h1, k, os, h2⟩ => ⟨h1, by rw [h2]; exact Lib.below_grow _ w (Nat.le_refl _) k os⟩)
theorem reg_b (w : World) (hN : GsOk w) (n s : Int) : Calls Tryz.prog 55 #[.int .i64 n, .int .i64 s] w fun e w' => e = .returned (.string (rB n s)) ∧ Below w.heap.size w w' := reg_all w hN n s
theorem app_eq (a b : List UInt8) : (⟨⟨a⟩⟩ ++ ⟨⟨b⟩⟩ : ByteArray) = ⟨⟨a ++ b⟩⟩ := ByteArray.mk_append_mk a b
theorem r_any (w : World) (hN : GsOk w) (n : Int) : Calls Tryz.prog 51 #[.int .i64 n] w fun e w' => e = .returned (.string (pS n 8)) ∧ Below w.heap.size w w' := by
  have HR := Lib.hid (reg_b w hN n 8)
  have hz := rB_size n 8
  go_enter Tryz.func51, Tryz.ntmps51
  go_wp2_with fail
  refine HR.out.mono ?_
  rintro e w1 ⟨rfl, kb⟩
  go_wp2_with fail
  go_returns
  exact ⟨by rw [show pS n 8 = ({ data := #[37] } ++ rB n 8 : ByteArray) from (app_eq [37] (wantF n 8)).symm]; rfl, kb⟩
theorem imm_any (w : World) (hP : PowOk w) (n : Int) (hn : In64 n) : Calls Tryz.prog 52 #[.int .i64 n] w fun e w' => e = .returned (.string (immB n)) ∧ Below w.heap.size w w' := by
  have HR := Lib.hid (fmt_any w hP n hn)
  have hz := numB_size hn
  clear hn
  go_enter Tryz.func52, Tryz.ntmps52
  go_wp2_with fail
  refine HR.out.mono ?_
  rintro e w1 ⟨rfl, kb⟩
  go_wp2_with fail
  go_returns
  exact ⟨by rw [show immB n = ({ data := #[36] } ++ numB n : ByteArray) from (app_eq [36] (Lib.itoa n)).symm]; rfl, kb⟩
theorem at_any (w : World) (hN : GsOk w) (hP : PowOk w) (b n : Int) (hn : In64 n) : Calls Tryz.prog 54 #[.int .i64 b, .int .i64 n] w fun e w' => e = .returned (.string (atB b n)) ∧ Below w.heap.size w w' := by
  have hz1 := pS_size b 8
  by_cases h0 : n = 0
  · subst h0
    have HR := Lib.hid (r_any w hN b)
    clear hn
    go_enter Tryz.func54, Tryz.ntmps54
    go_wp2_with fail
    refine HR.out.mono ?_
    rintro e w1 ⟨rfl, kb⟩
    go_wp2_with fail
    go_returns
    exact ⟨by rw [show atB b 0 = (({ data := #[40] } ++ pS b 8) ++ { data := #[41] } : ByteArray) from by
      rw [show ({ data := #[40] } ++ pS b 8 : ByteArray) = ⟨⟨40 :: 37 :: wantF b 8⟩⟩ from app_eq [40] (37 :: wantF b 8)]
      rw [show ({ data := #[41] } : ByteArray) = ⟨⟨[41]⟩⟩ from rfl, app_eq]
      unfold atB atL; rw [if_pos rfl]; rfl]; rfl, kb⟩
  · have HF := Lib.hid (fmt_any w hP n hn)
    have HG := Lib.hid hN
    have hz := numB_size hn
    have HL := Lib.hid (show atB b n = (((numB n ++ { data := #[40] }) ++ pS b 8) ++ { data := #[41] } : ByteArray) from by
      rw [show ({ data := #[41] } : ByteArray) = ⟨⟨[41]⟩⟩ from rfl, show ({ data := #[40] } : ByteArray) = ⟨⟨[40]⟩⟩ from rfl, numB, app_eq, pS, app_eq, app_eq]
      unfold atB atL; rw [if_neg h0]; simp)
    have h0' : (n == 0) = false := by simpa using h0
    clear hn
    go_enter Tryz.func54, Tryz.ntmps54
    go_wp2_with fail
    refine HF.out.mono ?_
    rintro e w1 ⟨rfl, kb⟩
    have HR := Lib.hid (r_any w1 (HG.out.below kb) b)
    have KB := Lib.hid kb
    clear kb
    go_wp2_with fail
    refine HR.out.mono ?_
    rintro e w2 ⟨rfl, kb2⟩
    go_wp2_with fail
    go_returns
    exact ⟨by rw [HL.out]; rfl, KB.out.bt kb2⟩
theorem digit_0 (w : World) (hN : GsOk w) : Calls Tryz.prog 40 #[.int .u64 0] w fun e w' => e = .returned (.string ⟨⟨[48]⟩⟩) ∧ Below w.heap.size w w' :=
  vrunG _ mixed 100000 60 40 gn gs _ [.int .u64 0] (.string ⟨⟨[48]⟩⟩) (fun g hg => Nat.blt_eq.mp hg) w hN.2 gs_ok hN.1 (fun _ => LR.of_pfs rfl) rfl (by kernel_rfl : (vcall (Sy.none Tryz.prog (fun _ => none) gn) 100000 60 gn 40 [.int .u64 0] (globW gn gs)).map (·.1) = some (.string ⟨⟨[48]⟩⟩))
theorem digit_1 (w : World) (hN : GsOk w) : Calls Tryz.prog 40 #[.int .u64 1] w fun e w' => e = .returned (.string ⟨⟨[49]⟩⟩) ∧ Below w.heap.size w w' :=
  vrunG _ mixed 100000 60 40 gn gs _ [.int .u64 1] (.string ⟨⟨[49]⟩⟩) (fun g hg => Nat.blt_eq.mp hg) w hN.2 gs_ok hN.1 (fun _ => LR.of_pfs rfl) rfl (by kernel_rfl : (vcall (Sy.none Tryz.prog (fun _ => none) gn) 100000 60 gn 40 [.int .u64 1] (globW gn gs)).map (·.1) = some (.string ⟨⟨[49]⟩⟩))
theorem digit_2 (w : World) (hN : GsOk w) : Calls Tryz.prog 40 #[.int .u64 2] w fun e w' => e = .returned (.string ⟨⟨[50]⟩⟩) ∧ Below w.heap.size w w' :=
  vrunG _ mixed 100000 60 40 gn gs _ [.int .u64 2] (.string ⟨⟨[50]⟩⟩) (fun g hg => Nat.blt_eq.mp hg) w hN.2 gs_ok hN.1 (fun _ => LR.of_pfs rfl) rfl (by kernel_rfl : (vcall (Sy.none Tryz.prog (fun _ => none) gn) 100000 60 gn 40 [.int .u64 2] (globW gn gs)).map (·.1) = some (.string ⟨⟨[50]⟩⟩))
theorem digit_3 (w : World) (hN : GsOk w) : Calls Tryz.prog 40 #[.int .u64 3] w fun e w' => e = .returned (.string ⟨⟨[51]⟩⟩) ∧ Below w.heap.size w w' :=
  vrunG _ mixed 100000 60 40 gn gs _ [.int .u64 3] (.string ⟨⟨[51]⟩⟩) (fun g hg => Nat.blt_eq.mp hg) w hN.2 gs_ok hN.1 (fun _ => LR.of_pfs rfl) rfl (by kernel_rfl : (vcall (Sy.none Tryz.prog (fun _ => none) gn) 100000 60 gn 40 [.int .u64 3] (globW gn gs)).map (·.1) = some (.string ⟨⟨[51]⟩⟩))
theorem digit_4 (w : World) (hN : GsOk w) : Calls Tryz.prog 40 #[.int .u64 4] w fun e w' => e = .returned (.string ⟨⟨[52]⟩⟩) ∧ Below w.heap.size w w' :=
  vrunG _ mixed 100000 60 40 gn gs _ [.int .u64 4] (.string ⟨⟨[52]⟩⟩) (fun g hg => Nat.blt_eq.mp hg) w hN.2 gs_ok hN.1 (fun _ => LR.of_pfs rfl) rfl (by kernel_rfl : (vcall (Sy.none Tryz.prog (fun _ => none) gn) 100000 60 gn 40 [.int .u64 4] (globW gn gs)).map (·.1) = some (.string ⟨⟨[52]⟩⟩))
theorem digit_5 (w : World) (hN : GsOk w) : Calls Tryz.prog 40 #[.int .u64 5] w fun e w' => e = .returned (.string ⟨⟨[53]⟩⟩) ∧ Below w.heap.size w w' :=
  vrunG _ mixed 100000 60 40 gn gs _ [.int .u64 5] (.string ⟨⟨[53]⟩⟩) (fun g hg => Nat.blt_eq.mp hg) w hN.2 gs_ok hN.1 (fun _ => LR.of_pfs rfl) rfl (by kernel_rfl : (vcall (Sy.none Tryz.prog (fun _ => none) gn) 100000 60 gn 40 [.int .u64 5] (globW gn gs)).map (·.1) = some (.string ⟨⟨[53]⟩⟩))
theorem digit_6 (w : World) (hN : GsOk w) : Calls Tryz.prog 40 #[.int .u64 6] w fun e w' => e = .returned (.string ⟨⟨[54]⟩⟩) ∧ Below w.heap.size w w' :=
  vrunG _ mixed 100000 60 40 gn gs _ [.int .u64 6] (.string ⟨⟨[54]⟩⟩) (fun g hg => Nat.blt_eq.mp hg) w hN.2 gs_ok hN.1 (fun _ => LR.of_pfs rfl) rfl (by kernel_rfl : (vcall (Sy.none Tryz.prog (fun _ => none) gn) 100000 60 gn 40 [.int .u64 6] (globW gn gs)).map (·.1) = some (.string ⟨⟨[54]⟩⟩))
theorem digit_7 (w : World) (hN : GsOk w) : Calls Tryz.prog 40 #[.int .u64 7] w fun e w' => e = .returned (.string ⟨⟨[55]⟩⟩) ∧ Below w.heap.size w w' :=
  vrunG _ mixed 100000 60 40 gn gs _ [.int .u64 7] (.string ⟨⟨[55]⟩⟩) (fun g hg => Nat.blt_eq.mp hg) w hN.2 gs_ok hN.1 (fun _ => LR.of_pfs rfl) rfl (by kernel_rfl : (vcall (Sy.none Tryz.prog (fun _ => none) gn) 100000 60 gn 40 [.int .u64 7] (globW gn gs)).map (·.1) = some (.string ⟨⟨[55]⟩⟩))
theorem digit_8 (w : World) (hN : GsOk w) : Calls Tryz.prog 40 #[.int .u64 8] w fun e w' => e = .returned (.string ⟨⟨[56]⟩⟩) ∧ Below w.heap.size w w' :=
  vrunG _ mixed 100000 60 40 gn gs _ [.int .u64 8] (.string ⟨⟨[56]⟩⟩) (fun g hg => Nat.blt_eq.mp hg) w hN.2 gs_ok hN.1 (fun _ => LR.of_pfs rfl) rfl (by kernel_rfl : (vcall (Sy.none Tryz.prog (fun _ => none) gn) 100000 60 gn 40 [.int .u64 8] (globW gn gs)).map (·.1) = some (.string ⟨⟨[56]⟩⟩))
theorem digit_9 (w : World) (hN : GsOk w) : Calls Tryz.prog 40 #[.int .u64 9] w fun e w' => e = .returned (.string ⟨⟨[57]⟩⟩) ∧ Below w.heap.size w w' :=
  vrunG _ mixed 100000 60 40 gn gs _ [.int .u64 9] (.string ⟨⟨[57]⟩⟩) (fun g hg => Nat.blt_eq.mp hg) w hN.2 gs_ok hN.1 (fun _ => LR.of_pfs rfl) rfl (by kernel_rfl : (vcall (Sy.none Tryz.prog (fun _ => none) gn) 100000 60 gn 40 [.int .u64 9] (globW gn gs)).map (·.1) = some (.string ⟨⟨[57]⟩⟩))
theorem digits_any : ∀ (u : Nat) (w : World), GsOk w → u < 18446744073709551616 → Calls Tryz.prog 40 #[.int .u64 (u : Int)] w fun e w' => e = .returned (.string ⟨⟨Lib.decDigits u⟩⟩) ∧ Below w.heap.size w w' := by
  intro u
  induction u using Nat.strongRecOn with
  | ind u ih =>
    intro w hN hu
    have HU := Lib.hid hu
    clear hu
    by_cases h : u < 10
    · rw [Lib.decDigits, dif_pos h]
      have hc : u = 0 ∨ u = 1 ∨ u = 2 ∨ u = 3 ∨ u = 4 ∨ u = 5 ∨ u = 6 ∨ u = 7 ∨ u = 8 ∨ u = 9 := by omega
      rcases hc with rfl | rfl | rfl | rfl | rfl | rfl | rfl | rfl | rfl | rfl
      · exact digit_0 w hN
      · exact digit_1 w hN
      · exact digit_2 w hN
      · exact digit_3 w hN
      · exact digit_4 w hN
      · exact digit_5 w hN
      · exact digit_6 w hN
      · exact digit_7 w hN
      · exact digit_8 w hN
      · exact digit_9 w hN
    · have HD := Lib.hid (show Lib.decDigits u = Lib.decDigits (u / 10) ++ [UInt8.ofNat (48 + u % 10)] by rw [Lib.decDigits, dif_neg h])
      have HD2 := Lib.hid (show Lib.decDigits (u % 10) = [UInt8.ofNat (48 + u % 10)] by rw [Lib.decDigits, dif_pos (by omega)])
      have i1 := fun W (hW : GsOk W) => ih (u / 10) (by omega) W hW (by have := HU.out; omega)
      have i2 := fun W (hW : GsOk W) => ih (u % 10) (by omega) W hW (by have := HU.out; omega)
      rw [show ((u / 10 : Nat) : Int) = (u : Int) / 10 by omega] at i1
      rw [show ((u % 10 : Nat) : Int) = (u : Int) % 10 by omega] at i2
      have I1 := Lib.hid i1
      have I2 := Lib.hid i2
      clear i1 i2
      have hz1 : (⟨⟨Lib.decDigits (u / 10)⟩⟩ : ByteArray).size ≤ 20 := by rw [size_mk]; exact dec_len 19 _ (by have := HU.out; omega)
      have hz2 : (⟨⟨Lib.decDigits (u % 10)⟩⟩ : ByteArray).size ≤ 20 := by rw [size_mk]; exact dec_len 19 _ (by have := HU.out; omega)
      obtain ⟨A, hA⟩ : ∃ A : ByteArray, A = ⟨⟨Lib.decDigits (u / 10)⟩⟩ := ⟨_, rfl⟩
      obtain ⟨B, hB⟩ : ∃ B : ByteArray, B = ⟨⟨Lib.decDigits (u % 10)⟩⟩ := ⟨_, rfl⟩
      rw [← hA] at I1 hz1
      rw [← hB] at I2 hz2
      have HE := Lib.hid (show (⟨⟨Lib.decDigits u⟩⟩ : ByteArray) = A ++ B by rw [hA, hB, app_eq, HD.out, HD2.out])
      have HG := Lib.hid hN
      have hwr : IntKind.u64.wrap ((u : Int) / 10) = (u : Int) / 10 := by rw [IntKind.wrap_u64]; have := HU.out; omega
      clear ih hA hB hN
      go_enter Tryz.func40, Tryz.ntmps40
      go_wp2_with fail
      refine (I1.out w HG.out).mono ?_
      rintro e w1 ⟨rfl, kb⟩
      have KB := Lib.hid kb
      clear kb
      go_wp2_with fail
      refine (I2.out w1 (HG.out.below KB.out)).mono ?_
      rintro e w2 ⟨rfl, kb2⟩
      go_wp2_with fail
      go_returns
      exact ⟨by rw [HE.out]; rfl, KB.out.bt kb2⟩
theorem num_any (w : World) (hN : GsOk w) (n : Int) (hn : In64 n) : Calls Tryz.prog 19 #[.int .i64 n] w fun e w' => e = .returned (.string (numB n)) ∧ Below w.heap.size w w' := by
  obtain ⟨h1, h2⟩ := hn
  have hl := itoa_len ⟨h1, h2⟩
  by_cases h0 : n < 0
  · have HD := Lib.hid (digits_any n.natAbs w hN (by omega))
    have hz : (⟨⟨Lib.decDigits n.natAbs⟩⟩ : ByteArray).size ≤ 30 := by rw [size_mk]; unfold Lib.itoa at hl; rw [if_pos h0] at hl; simp at hl; omega
    obtain ⟨A, hA⟩ : ∃ A : ByteArray, A = ⟨⟨Lib.decDigits n.natAbs⟩⟩ := ⟨_, rfl⟩
    obtain ⟨m, hm⟩ : ∃ m : Int, m = (n.natAbs : Int) := ⟨_, rfl⟩
    rw [← hA, ← hm] at HD
    rw [← hA] at hz
    have HE := Lib.hid (show numB n = ({ data := #[45] } ++ A : ByteArray) from by
      rw [hA, show ({ data := #[45] } : ByteArray) = ⟨⟨[45]⟩⟩ from rfl, app_eq]; unfold numB Lib.itoa; rw [if_pos h0]; rfl)
    have e3 := Lib.hid (show -(n + 1) + 1 = m by omega)
    clear hm hA hl hN
    go_enter Tryz.func19, Tryz.ntmps19
    go_wp2_with fail
    rw [e3.out]
    refine HD.out.mono ?_
    rintro e w1 ⟨rfl, kb⟩
    go_wp2_with fail
    go_returns
    exact ⟨by rw [HE.out]; rfl, kb⟩
  · have HD := Lib.hid (digits_any n.toNat w hN (by omega))
    obtain ⟨m, hm⟩ : ∃ m : Int, m = (n.toNat : Int) := ⟨_, rfl⟩
    rw [← hm] at HD
    have e3 := Lib.hid (show IntKind.u64.wrap n = m by rw [IntKind.wrap_u64]; omega)
    have e4 := Lib.hid (show n = m by omega)
    have HE := Lib.hid (show numB n = ⟨⟨Lib.decDigits n.toNat⟩⟩ from by unfold numB Lib.itoa; rw [if_neg h0])
    clear hm h1 h2 hl hN
    go_enter Tryz.func19, Tryz.ntmps19
    go_wp2_with fail
    (try rw [e3.out])
    (try rw [e4.out])
    refine HD.out.mono ?_
    rintro e w1 ⟨rfl, kb⟩
    go_wp2_with fail
    go_returns
    exact ⟨by rw [HE.out]; rfl, kb⟩
set_option maxRecDepth 100000 in
theorem rr_any (w : World) (hN : GsOk w) (n : Nat) (hn : n < 16) (s : Int) (hs : s = 8 ∨ s = 4 ∨ s = 2 ∨ s = 1) : Calls Tryz.prog 18 #[.int .i64 (n : Int), .int .i64 s] w fun e w' => e = .returned (.string (pS n s)) ∧ Below w.heap.size w w' := by
  have HR := Lib.hid (regs_run w hN)
  have HP := Lib.hid (show pS (n : Int) s = ({ data := #[37] } ++ rB n s : ByteArray) from (app_eq [37] (wantF n s)).symm)
  have hsz := rB_size n s
  have hw : ∀ x, wantF (n : Int) x = if x = 8 then regN n 3 else if x = 4 then regN n 2 else if x = 2 then regN n 1 else if x = 1 then regN n 0 else [] := fun x => by unfold wantF; rw [if_pos (by omega), Int.toNat_natCast]
  rcases hs with rfl | rfl | rfl | rfl
  · have HRB := Lib.hid (show rB (n : Int) 8 = ⟨⟨regN n 3⟩⟩ by unfold rB; rw [hw]; rfl)
    go_enter Tryz.func18, Tryz.ntmps18
    go_wp2_with fail
    refine HR.out.mono ?_
    rintro e w1 ⟨rfl, kb⟩
    have hc : (w1.alloc (.cells ⟨regC⟩ 84)).cell? ⟨w1.heap.size, n * 4, none⟩ = some (.string (rB n 8)) := by rw [HRB.out]; exact blk_cell (blk_new w1 _) (by simpa using regC_at hn (k := 0) (by decide))
    have KB := Lib.hid (below_alloc (.cells ⟨regC⟩ 84) kb)
    clear kb hw
    go_wp2_with (first | (refine wpList_store_new (cs := ⟨regC⟩) (by rfl) 84 _ _ (by rfl) (by rfl) (by rfl) (by rfl) (by kernel_rfl) (by kernel_rfl) ?_))
    go_returns
    exact ⟨by rw [HP.out]; rfl, KB.out⟩
  · have HRB := Lib.hid (show rB (n : Int) 4 = ⟨⟨regN n 2⟩⟩ by unfold rB; rw [hw]; rfl)
    go_enter Tryz.func18, Tryz.ntmps18
    go_wp2_with fail
    refine HR.out.mono ?_
    rintro e w1 ⟨rfl, kb⟩
    have hc : (w1.alloc (.cells ⟨regC⟩ 84)).cell? ⟨w1.heap.size, n * 4 + 1, none⟩ = some (.string (rB n 4)) := by rw [HRB.out]; exact blk_cell (blk_new w1 _) (by simpa using regC_at hn (k := 1) (by decide))
    have KB := Lib.hid (below_alloc (.cells ⟨regC⟩ 84) kb)
    clear kb hw
    go_wp2_with (first | (refine wpList_store_new (cs := ⟨regC⟩) (by rfl) 84 _ _ (by rfl) (by rfl) (by rfl) (by rfl) (by kernel_rfl) (by kernel_rfl) ?_))
    go_returns
    exact ⟨by rw [HP.out]; rfl, KB.out⟩
  · have HRB := Lib.hid (show rB (n : Int) 2 = ⟨⟨regN n 1⟩⟩ by unfold rB; rw [hw]; rfl)
    go_enter Tryz.func18, Tryz.ntmps18
    go_wp2_with fail
    refine HR.out.mono ?_
    rintro e w1 ⟨rfl, kb⟩
    have hc : (w1.alloc (.cells ⟨regC⟩ 84)).cell? ⟨w1.heap.size, n * 4 + 2, none⟩ = some (.string (rB n 2)) := by rw [HRB.out]; exact blk_cell (blk_new w1 _) (by simpa using regC_at hn (k := 2) (by decide))
    have KB := Lib.hid (below_alloc (.cells ⟨regC⟩ 84) kb)
    clear kb hw
    go_wp2_with (first | (refine wpList_store_new (cs := ⟨regC⟩) (by rfl) 84 _ _ (by rfl) (by rfl) (by rfl) (by rfl) (by kernel_rfl) (by kernel_rfl) ?_))
    go_returns
    exact ⟨by rw [HP.out]; rfl, KB.out⟩
  · have HRB := Lib.hid (show rB (n : Int) 1 = ⟨⟨regN n 0⟩⟩ by unfold rB; rw [hw]; rfl)
    go_enter Tryz.func18, Tryz.ntmps18
    go_wp2_with fail
    refine HR.out.mono ?_
    rintro e w1 ⟨rfl, kb⟩
    have hc : (w1.alloc (.cells ⟨regC⟩ 84)).cell? ⟨w1.heap.size, n * 4 + 3, none⟩ = some (.string (rB n 1)) := by rw [HRB.out]; exact blk_cell (blk_new w1 _) (by simpa using regC_at hn (k := 3) (by decide))
    have KB := Lib.hid (below_alloc (.cells ⟨regC⟩ 84) kb)
    clear kb hw
    go_wp2_with (first | (refine wpList_store_new (cs := ⟨regC⟩) (by rfl) 84 _ _ (by rfl) (by rfl) (by rfl) (by rfl) (by kernel_rfl) (by kernel_rfl) ?_))
    go_returns
    exact ⟨by rw [HP.out]; rfl, KB.out⟩
theorem rat_any (w : World) (hN : GsOk w) (b : Nat) (hb : b < 16) (n : Int) (hn : In64 n) : Calls Tryz.prog 21 #[.int .i64 (b : Int), .int .i64 n] w fun e w' => e = .returned (.string (atB b n)) ∧ Below w.heap.size w w' := by
  have hz1 := pS_size b 8
  have HR := Lib.hid (rr_any w hN b hb 8 (Or.inl rfl))
  have E0 := Lib.hid (show ({ data := #[40] } ++ pS b 8 ++ { data := #[41] } : ByteArray) = ⟨⟨40 :: 37 :: wantF b 8 ++ [41]⟩⟩ from by
    rw [show ({ data := #[41] } : ByteArray) = ⟨⟨[41]⟩⟩ from rfl, show ({ data := #[40] } : ByteArray) = ⟨⟨[40]⟩⟩ from rfl, pS, app_eq, app_eq]; rfl)
  by_cases h0 : n = 0
  · subst h0
    have HE := Lib.hid (show atB b 0 = ({ data := #[40] } ++ pS b 8 ++ { data := #[41] } : ByteArray) from by rw [E0.out]; unfold atB atL; rw [if_pos rfl]; rfl)
    clear hn
    go_enter Tryz.func21, Tryz.ntmps21
    go_wp2_with fail
    refine HR.out.mono ?_
    rintro e w1 ⟨rfl, kb⟩
    go_wp2_with fail
    go_returns
    exact ⟨by rw [HE.out]; rfl, kb⟩
  · have HF := Lib.hid (fun W (hW : GsOk W) => num_any W hW n hn)
    have hz := numB_size hn
    have HG := Lib.hid hN
    have HE := Lib.hid (show atB b n = (numB n ++ ({ data := #[40] } ++ pS b 8 ++ { data := #[41] }) : ByteArray) from by rw [E0.out]; unfold atB atL numB; rw [app_eq, if_neg h0]; simp)
    have h0' : (n == 0) = false := by simpa using h0
    have h0'' : (n != 0) = true := by simpa using h0
    clear hn hN
    go_enter Tryz.func21, Tryz.ntmps21
    go_wp2_with fail
    refine HR.out.mono ?_
    rintro e w1 ⟨rfl, kb⟩
    have KB := Lib.hid kb
    clear kb
    go_wp2_with fail
    refine (HF.out w1 (HG.out.below KB.out)).mono ?_
    rintro e w2 ⟨rfl, kb2⟩
    go_wp2_with fail
    go_returns
    exact ⟨by rw [HE.out]; rfl, KB.out.bt kb2⟩
end Go.Proofs.YtmmpkkpmlaiapaaGreatDoor
