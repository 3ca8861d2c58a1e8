/- Walks: alloc's begins, keeps, where the places may be. No condition. -/
import Derived.Test.YtegnaeinpacafaaAm2
namespace Go.Proofs.Ytegnaeinpacafaa
open Go.RowKit
set_option linter.unusedVariables false
set_option maxHeartbeats 4000000
set_option maxRecDepth 100000 in
theorem begins_g (w : World) (fb fo : Nat) (P R : Nat) (c1 : w.cell? ⟨fb, fo + 1, none⟩ = some (.int .i64 (P : Nat))) (hP : P ≤ R) (hR : R ≤ 1000000) (base gp : Nat) (pl : List Int) (hp : OwnI w base (.slice (some ⟨gp, 0, none⟩) R R) pl) (hpl : pl.length = R) (cells : Int) (bs : Nat) (sv : Value) (I : Nat → Bool) (hs : SetB w bs sv R I)
    (hG : ∀ (a b : Nat) (x : Int), a < P → b < P → a ≠ b → pl[a]? = some x → pl[b]? = some x → I a = false ∧ I b = false) :
    Calls Try.prog 15 #[.pointer (some ⟨fb, fo, none⟩), .agg #[.slice (some ⟨gp, 0, none⟩) R R, .int .i64 cells], sv] w fun e w' => e = .returned (.bool true) ∧ Below w.heap.size w w' := by
  have HP := Lib.hid hp
  have HPL := Lib.hid hpl
  have HS := Lib.hid hs
  have HG := Lib.hid hG
  have C1 := Lib.hid c1
  have hP6 : P ≤ 1000000 := by omega
  have HBB := Lib.hid (below_alloc (.cells #[.slice (some ⟨gp, 0, none⟩) R R, .int .i64 cells] 45) (Below.refl w.heap.size w))
  have HBO := Lib.hid (blk_new w (.cells #[.slice (some ⟨gp, 0, none⟩) R R, .int .i64 cells] 45))
  have hfl := World.block_lt_of_cell? _ _ c1
  clear hp hpl hs hG
  go_enter Try.func15, Try.ntmps15
  go_wp2_with fail
  obtain ⟨wa, hwa⟩ : ∃ z, z = w.alloc (.cells #[.slice (some ⟨gp, 0, none⟩) R R, .int .i64 cells] 45) := ⟨_, rfl⟩
  obtain ⟨ga, hga⟩ : ∃ z, z = w.heap.size := ⟨_, rfl⟩
  rw [← hwa] at HBB HBO ⊢
  rw [← hga] at HBO ⊢
  clear hwa hga c1 hfl
  go_loopw [13] (fun s wr => ∃ x : Nat, x ≤ P ∧ s = .int .i64 x ∧ Below wa.heap.size wa wr) (fun s _ => P - (intOf s).toNat)
  case atStart => exact ⟨0, by omega, rfl, Below.refl _ _⟩
  case round =>
    obtain ⟨x, hx, rfl, hB⟩ := hrel
    have HB := Lib.hid hB
    clear hB
    by_cases hltx : x < P
    · go_wp2_with fail
      obtain ⟨wx, rfl⟩ : ∃ z : World, z = wr := ⟨_, rfl⟩
      go_loopw [17] (fun s wr => ∃ y : Nat, y ≤ x ∧ s = .int .i64 y ∧ Below wx.heap.size wx wr) (fun s _ => x - (intOf s).toNat)
      case atStart => exact ⟨0, by omega, rfl, Below.refl _ _⟩
      case round =>
        obtain ⟨y, hy, rfl, hB⟩ := hrel
        have HBy := Lib.hid hB
        clear hB
        by_cases hlty : y < x
        · have HW := Lib.hid (HB.out.bt HBy.out)
          have HW2 := Lib.hid (HBB.out.bt HW.out)
          obtain ⟨px, hpx⟩ : ∃ z, pl[x]? = some z := ⟨_, List.getElem?_eq_getElem (by rw [HPL.out]; omega)⟩
          obtain ⟨py, hpy⟩ : ∃ z, pl[y]? = some z := ⟨_, List.getElem?_eq_getElem (by rw [HPL.out]; omega)⟩
          have k1 := later (OwnI.cell HP.out (by rw [HPL.out]; omega) px hpx) HW2.out
          have k2 := later (OwnI.cell HP.out (by rw [HPL.out]; omega) py hpy) HW2.out
          have ka : wr.cell? ⟨ga, 0, none⟩ = some (.slice (some ⟨gp, 0, none⟩) R R) := later (blk_cell HBO.out rfl) HW.out
          have l1 := World.block_lt_of_cell? _ _ k1
          have l2 := World.block_lt_of_cell? _ _ ka
          have A1 := Lib.hid (fun q => (has_b (wr.drewN q) x ((HS.out.more HW2.out).more (below_drewN (Below.refl _ _) q)) hR (by omega)).mono (fun _ _ h => (⟨h.1, h.2.symm⟩ : _ ∧ _)))
          have A2 := Lib.hid (fun q => (has_b (wr.drewN q) y ((HS.out.more HW2.out).more (below_drewN (Below.refl _ _) q)) hR (by omega)).mono (fun _ _ h => (⟨h.1, h.2.symm⟩ : _ ∧ _)))
          by_cases he : px = py
          · obtain ⟨i1, i2⟩ := HG.out x y px hltx (by omega) (by omega) hpx (by rw [hpy, he])
            rw [i1] at A1
            rw [i2] at A2
            have b1 : (px == py) = true := by simpa using he
            clear he hpx hpy i1 i2
            go_wp2_with fail
            go_quiet (first | (go_at_call 25; with_reducible exact Calls.quiet_of_same (A1.out _)) | (go_at_call 25; with_reducible exact Calls.quiet_of_same (A2.out _)))
            go_wp2_with fail
            go_roundw
            case rel => exact ⟨y + 1, by omega, by go_num, below_drewN HBy.out _⟩
            case measure => first | omega | (simp [intOf]; done) | (simp [intOf]; omega)
          · have b1 : (px == py) = false := by simpa using he
            clear he hpx hpy
            go_wp2_with fail
            go_quiet (fail)
            go_wp2_with fail
            go_roundw
            case rel => exact ⟨y + 1, by omega, by go_num, below_drewN HBy.out _⟩
            case measure => first | omega | (simp [intOf]; done) | (simp [intOf]; omega)
        · have e : y = x := by omega
          subst e
          go_wp2_with fail
          go_roundw
          case rel => exact ⟨y + 1, by omega, by go_num, HB.out.bt HBy.out⟩
          case measure => first | omega | (simp [intOf]; done) | (simp [intOf]; omega)
    · have e : x = P := by omega
      subst e
      go_wp2_with fail
      go_returns
      exact ⟨rfl, HBB.out.bt HB.out⟩
/-- the registers that are live behind an instruction have other places, or stand in memory across a call -/
def KeepOk (R : Nat) (S : Nat → Bool) (x : InsD) (pl : List Int) : Prop :=
  ∀ r, r < R → S r = true → x.dst ≠ (r : Int) → ∀ y, pl[r]? = some y → (callB x = true → 5 ≤ y) ∧ ∀ d : Nat, x.dst = (d : Int) → pl[d]? = some y → x.op = 2 ∧ x.a.reg = (r : Int)
set_option maxRecDepth 100000 in
theorem keeps_g (w : World) (fb fo : Nat) (R : Nat) (c3 : w.cell? ⟨fb, fo + 3, none⟩ = some (.int .i64 (R : Nat))) (hR : R ≤ 1000000) (base gp : Nat) (pl : List Int) (hp : OwnI w base (.slice (some ⟨gp, 0, none⟩) R R) pl) (hpl : pl.length = R) (cells : Int)
    (bs : Nat) (sv : Value) (S : Nat → Bool) (hs : SetB w bs sv R S) (x : InsD) (A5 : Option Addr) (n5 c5 : Nat) (hd1 : -1 ≤ x.dst) (hd2 : x.dst < R) (hK : KeepOk R S x pl) :
    Calls Try.prog 19 #[.pointer (some ⟨fb, fo, none⟩), .agg #[.slice (some ⟨gp, 0, none⟩) R R, .int .i64 cells], sv, insV x (.slice A5 n5 c5)] w fun e w' => e = .returned (.bool true) ∧ Below w.heap.size w w' := by
  have HP := Lib.hid hp
  have HPL := Lib.hid hpl
  have HS := Lib.hid hs
  have HK := Lib.hid hK
  have HBB := Lib.hid (below_alloc (.cells #[.int .i64 x.op, .int .i64 x.dst, .int .i64 x.a.reg, .int .i64 x.a.num, .int .i64 x.b.reg, .int .i64 x.b.num, .int .i64 x.size, .bool x.signed, .bool x.secret, .int .i64 x.ref, .int .i64 x.off, .slice A5 n5 c5] 28) (below_alloc (.cells #[.slice (some ⟨gp, 0, none⟩) R R, .int .i64 cells] 45) (Below.refl w.heap.size w)))
  have HBO := Lib.hid (blk_alloc (blk_new w (.cells #[.slice (some ⟨gp, 0, none⟩) R R, .int .i64 cells] 45)) (.cells #[.int .i64 x.op, .int .i64 x.dst, .int .i64 x.a.reg, .int .i64 x.a.num, .int .i64 x.b.reg, .int .i64 x.b.num, .int .i64 x.size, .bool x.signed, .bool x.secret, .int .i64 x.ref, .int .i64 x.off, .slice A5 n5 c5] 28))
  have HBX := Lib.hid (show ((w.alloc (.cells #[.slice (some ⟨gp, 0, none⟩) R R, .int .i64 cells] 45)).alloc (.cells #[.int .i64 x.op, .int .i64 x.dst, .int .i64 x.a.reg, .int .i64 x.a.num, .int .i64 x.b.reg, .int .i64 x.b.num, .int .i64 x.size, .bool x.signed, .bool x.secret, .int .i64 x.ref, .int .i64 x.off, .slice A5 n5 c5] 28)).heap[w.heap.size + 1]? = some (.cells #[.int .i64 x.op, .int .i64 x.dst, .int .i64 x.a.reg, .int .i64 x.a.num, .int .i64 x.b.reg, .int .i64 x.b.num, .int .i64 x.size, .bool x.signed, .bool x.secret, .int .i64 x.ref, .int .i64 x.off, .slice A5 n5 c5] 28 (0, 0)) by
    have := blk_new (w.alloc (.cells #[.slice (some ⟨gp, 0, none⟩) R R, .int .i64 cells] 45)) (.cells #[.int .i64 x.op, .int .i64 x.dst, .int .i64 x.a.reg, .int .i64 x.a.num, .int .i64 x.b.reg, .int .i64 x.b.num, .int .i64 x.size, .bool x.signed, .bool x.secret, .int .i64 x.ref, .int .i64 x.off, .slice A5 n5 c5] 28)
    simpa using this)
  have hfl := World.block_lt_of_cell? _ _ c3
  clear hp hpl hs hK
  go_enter Try.func19, Try.ntmps19
  go_wp2_with fail
  obtain ⟨wa, hwa⟩ : ∃ z, z = (w.alloc (.cells #[.slice (some ⟨gp, 0, none⟩) R R, .int .i64 cells] 45)).alloc (.cells #[.int .i64 x.op, .int .i64 x.dst, .int .i64 x.a.reg, .int .i64 x.a.num, .int .i64 x.b.reg, .int .i64 x.b.num, .int .i64 x.size, .bool x.signed, .bool x.secret, .int .i64 x.ref, .int .i64 x.off, .slice A5 n5 c5] 28) := ⟨_, rfl⟩
  obtain ⟨ga, hga⟩ : ∃ z, z = w.heap.size := ⟨_, rfl⟩
  rw [← hwa] at HBB HBO HBX ⊢
  rw [← hga] at HBO HBX ⊢
  clear hwa hga c3 hfl
  go_loopw [14] (fun s wr => ∃ r : Nat, r ≤ R ∧ s = .int .i64 r ∧ Below wa.heap.size wa wr) (fun s _ => R - (intOf s).toNat)
  case atStart => exact ⟨0, by omega, rfl, Below.refl _ _⟩
  case round =>
    obtain ⟨r, hr, rfl, hB⟩ := hrel
    have HB := Lib.hid hB
    clear hB
    by_cases hltr : r < R
    · have HW := Lib.hid (HBB.out.bt HB.out)
      obtain ⟨y, hy⟩ : ∃ z, pl[r]? = some z := ⟨_, List.getElem?_eq_getElem (by rw [HPL.out]; omega)⟩
      have k1 := later (OwnI.cell HP.out (by rw [HPL.out]; omega) y hy) HW.out
      have HY := Lib.hid hy
      have ka : wr.cell? ⟨ga, 0, none⟩ = some (.slice (some ⟨gp, 0, none⟩) R R) := later (blk_cell HBO.out rfl) HB.out
      have kx0 : wr.cell? ⟨ga + 1, 0, none⟩ = some (.int .i64 x.op) := later (blk_cell HBX.out rfl) HB.out
      have kx1 : wr.cell? ⟨ga + 1, 1, none⟩ = some (.int .i64 x.dst) := later (blk_cell HBX.out rfl) HB.out
      have kx2 : wr.cell? ⟨ga + 1, 2, none⟩ = some (.int .i64 x.a.reg) := later (blk_cell HBX.out rfl) HB.out
      have l1 := World.block_lt_of_cell? _ _ k1
      have l2 := World.block_lt_of_cell? _ _ ka
      have l3 := World.block_lt_of_cell? _ _ kx0
      have HH := Lib.hid (has_b wr r (HS.out.more HW.out) hR hltr)
      obtain ⟨hb, hhb⟩ : ∃ z, z = S r := ⟨_, rfl⟩
      rw [← hhb] at HH
      obtain ⟨op, hop⟩ : ∃ z, z = x.op := ⟨_, rfl⟩
      obtain ⟨ds, hds⟩ : ∃ z, z = x.dst := ⟨_, rfl⟩
      obtain ⟨rg, hrg⟩ : ∃ z, z = x.a.reg := ⟨_, rfl⟩
      rw [← hop] at kx0
      rw [← hds] at kx1 hd1 hd2
      rw [← hrg] at kx2
      have HOP := Lib.hid (And.intro hop (And.intro hds (And.intro hrg hhb)))
      clear hy hhb hop hds hrg
      cases hb
      · go_wp2_with fail
        refine HH.out.mono ?_
        rintro e w7 ⟨rfl, rfl⟩
        go_wp2_with fail
        go_roundw
        case rel => exact ⟨r + 1, by omega, by go_num, HB.out⟩
        case measure => first | omega | (simp [intOf]; done) | (simp [intOf]; omega)
      · by_cases hd : (r : Int) = ds
        · have b1 : ((r : Int) == ds) = true := by simpa using hd
          clear hd
          go_wp2_with fail
          refine HH.out.mono ?_
          rintro e w7 ⟨rfl, rfl⟩
          go_wp2_with fail
          go_roundw
          case rel => exact ⟨r + 1, by omega, by go_num, HB.out⟩
          case measure => first | omega | (simp [intOf]; done) | (simp [intOf]; omega)
        · have b1 : ((r : Int) == ds) = false := by simpa using hd
          have hk := HK.out r hltr HOP.out.2.2.2.symm (by rw [← HOP.out.2.1]; exact fun e => hd e.symm) y HY.out
          have HKr := Lib.hid hk
          have HC5 := Lib.hid (fun (h : op = 28 ∨ op = 29) => show decide (y < 5) = false from decide_eq_false (by
            have := hk.1 (by unfold callB; rw [← HOP.out.1]; rcases h with h | h <;> rw [h] <;> rfl)
            omega))
          clear hk hd
          by_cases hx0 : 0 ≤ ds
          · obtain ⟨d, hdd⟩ : ∃ d : Nat, ds = d := ⟨ds.toNat, by omega⟩
            subst hdd
            obtain ⟨pd, hpd⟩ : ∃ z, pl[d]? = some z := ⟨_, List.getElem?_eq_getElem (by rw [HPL.out]; omega)⟩
            have k4 := later (OwnI.cell HP.out (by rw [HPL.out]; omega) pd hpd) HW.out
            have l4 := World.block_lt_of_cell? _ _ k4
            have HPD := Lib.hid hpd
            have d0 : decide ((0 : Int) ≤ (d : Int)) = true := decide_eq_true hx0
            have hdR : d < R := by omega
            clear hpd hx0 hd1 hd2
            by_cases he : y = pd
            · obtain ⟨q1, q2⟩ := HKr.out.2 d HOP.out.2.1.symm (by rw [HPD.out, he])
              have h28 : (op == 28) = false := by rw [HOP.out.1, q1]; rfl
              have h29 : (op == 29) = false := by rw [HOP.out.1, q1]; rfl
              have h2 : (op == 2) = true := by rw [HOP.out.1, q1]; rfl
              have h3 : (rg == (r : Int)) = true := by rw [HOP.out.2.2.1, q2]; simp
              have b2 : (y == pd) = true := by simpa using he
              clear he q1 q2
              go_wp2_with fail
              refine HH.out.mono ?_
              rintro e w7 ⟨rfl, rfl⟩
              go_wp2_with fail
              go_quiet (fail)
              go_wp2_with fail
              go_roundw
              case rel => exact ⟨r + 1, by omega, by go_num, below_drewN HB.out _⟩
              case measure => first | omega | (simp [intOf]; done) | (simp [intOf]; omega)
            · have b2 : (y == pd) = false := by simpa using he
              clear he
              by_cases c28 : op = 28
              · have h28 : (op == 28) = true := by simpa using c28
                have h5 := HC5.out (Or.inl c28)
                clear c28
                go_wp2_with fail
                refine HH.out.mono ?_
                rintro e w7 ⟨rfl, rfl⟩
                go_wp2_with fail
                go_quiet (fail)
                go_wp2_with fail
                go_roundw
                case rel => exact ⟨r + 1, by omega, by go_num, below_drewN HB.out _⟩
                case measure => first | omega | (simp [intOf]; done) | (simp [intOf]; omega)
              · have h28 : (op == 28) = false := by simpa using c28
                by_cases c29 : op = 29
                · have h29 : (op == 29) = true := by simpa using c29
                  have h5 := HC5.out (Or.inr c29)
                  clear c28 c29
                  go_wp2_with fail
                  refine HH.out.mono ?_
                  rintro e w7 ⟨rfl, rfl⟩
                  go_wp2_with fail
                  go_quiet (fail)
                  go_wp2_with fail
                  go_roundw
                  case rel => exact ⟨r + 1, by omega, by go_num, below_drewN HB.out _⟩
                  case measure => first | omega | (simp [intOf]; done) | (simp [intOf]; omega)
                · have h29 : (op == 29) = false := by simpa using c29
                  clear c28 c29
                  go_wp2_with fail
                  refine HH.out.mono ?_
                  rintro e w7 ⟨rfl, rfl⟩
                  go_wp2_with fail
                  go_quiet (fail)
                  go_wp2_with fail
                  go_roundw
                  case rel => exact ⟨r + 1, by omega, by go_num, below_drewN HB.out _⟩
                  case measure => first | omega | (simp [intOf]; done) | (simp [intOf]; omega)
          · have d0 : decide (0 ≤ ds) = false := decide_eq_false hx0
            clear hx0
            by_cases c28 : op = 28
            · have h28 : (op == 28) = true := by simpa using c28
              have h5 := HC5.out (Or.inl c28)
              clear c28
              go_wp2_with fail
              refine HH.out.mono ?_
              rintro e w7 ⟨rfl, rfl⟩
              go_wp2_with fail
              go_quiet (fail)
              go_wp2_with fail
              go_roundw
              case rel => exact ⟨r + 1, by omega, by go_num, below_drewN HB.out _⟩
              case measure => first | omega | (simp [intOf]; done) | (simp [intOf]; omega)
            · have h28 : (op == 28) = false := by simpa using c28
              by_cases c29 : op = 29
              · have h29 : (op == 29) = true := by simpa using c29
                have h5 := HC5.out (Or.inr c29)
                clear c28 c29
                go_wp2_with fail
                refine HH.out.mono ?_
                rintro e w7 ⟨rfl, rfl⟩
                go_wp2_with fail
                go_quiet (fail)
                go_wp2_with fail
                go_roundw
                case rel => exact ⟨r + 1, by omega, by go_num, below_drewN HB.out _⟩
                case measure => first | omega | (simp [intOf]; done) | (simp [intOf]; omega)
              · have h29 : (op == 29) = false := by simpa using c29
                clear c28 c29
                go_wp2_with fail
                refine HH.out.mono ?_
                rintro e w7 ⟨rfl, rfl⟩
                go_wp2_with fail
                go_quiet (fail)
                go_wp2_with fail
                go_roundw
                case rel => exact ⟨r + 1, by omega, by go_num, below_drewN HB.out _⟩
                case measure => first | omega | (simp [intOf]; done) | (simp [intOf]; omega)
    · have e : r = R := by omega
      subst e
      go_wp2_with fail
      go_returns
      exact ⟨rfl, HBB.out.bt HB.out⟩
end Go.Proofs.Ytegnaeinpacafaa
