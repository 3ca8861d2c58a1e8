/- Walks: alloc's keeps where each register has its own cell of memory. No condition. -/
import Derived.Test.YtegnaeinpacafaaAl1
namespace Go.Proofs.Ytegnaeinpacafaa
open Go.RowKit
set_option linter.unusedVariables false
set_option maxHeartbeats 4000000
set_option maxRecDepth 100000 in
theorem keeps_any (w : World) (fb fo : Nat) (R : Nat) (c3 : w.cell? ⟨fb, fo + 3, none⟩ = some (.int .i64 (R : Nat))) (hR : R ≤ 1000000) (base : Nat) (A : Option Addr) (cap : Nat) (hp : OwnI w base (.slice A R cap) (ownP R)) (cells : Int)
    (bs : Nat) (sv : Value) (l : List Nat) (hs : SetR w bs sv l) (x : InsD) (A5 : Option Addr) (n5 c5 : Nat) (hop : In64 x.op) (hd1 : -1 ≤ x.dst) (hd2 : x.dst < R) :
    Calls Try.prog 19 #[.pointer (some ⟨fb, fo, none⟩), .agg #[.slice A R cap, .int .i64 cells], sv, insV x (.slice A5 n5 c5)] w fun e w' => e = .returned (.bool true) ∧ Below w.heap.size w w' := by
  have HP := Lib.hid hp
  have HS := Lib.hid hs
  have HBB := Lib.hid (below_alloc (.cells #[.int .i64 x.op, .int .i64 x.dst, .int .i64 x.a.reg, .int .i64 x.a.num, .int .i64 x.b.reg, .int .i64 x.b.num, .int .i64 x.size, .bool x.signed, .bool x.secret, .int .i64 x.ref, .int .i64 x.off, .slice A5 n5 c5] 28) (below_alloc (.cells #[.slice A R cap, .int .i64 cells] 45) (Below.refl w.heap.size w)))
  have HBO := Lib.hid (blk_alloc (blk_new w (.cells #[.slice A R cap, .int .i64 cells] 45)) (.cells #[.int .i64 x.op, .int .i64 x.dst, .int .i64 x.a.reg, .int .i64 x.a.num, .int .i64 x.b.reg, .int .i64 x.b.num, .int .i64 x.size, .bool x.signed, .bool x.secret, .int .i64 x.ref, .int .i64 x.off, .slice A5 n5 c5] 28))
  have HBX := Lib.hid (show ((w.alloc (.cells #[.slice A R cap, .int .i64 cells] 45)).alloc (.cells #[.int .i64 x.op, .int .i64 x.dst, .int .i64 x.a.reg, .int .i64 x.a.num, .int .i64 x.b.reg, .int .i64 x.b.num, .int .i64 x.size, .bool x.signed, .bool x.secret, .int .i64 x.ref, .int .i64 x.off, .slice A5 n5 c5] 28)).heap[w.heap.size + 1]? = some (.cells #[.int .i64 x.op, .int .i64 x.dst, .int .i64 x.a.reg, .int .i64 x.a.num, .int .i64 x.b.reg, .int .i64 x.b.num, .int .i64 x.size, .bool x.signed, .bool x.secret, .int .i64 x.ref, .int .i64 x.off, .slice A5 n5 c5] 28 (0, 0)) by
    have := blk_new (w.alloc (.cells #[.slice A R cap, .int .i64 cells] 45)) (.cells #[.int .i64 x.op, .int .i64 x.dst, .int .i64 x.a.reg, .int .i64 x.a.num, .int .i64 x.b.reg, .int .i64 x.b.num, .int .i64 x.size, .bool x.signed, .bool x.secret, .int .i64 x.ref, .int .i64 x.off, .slice A5 n5 c5] 28)
    simpa using this)
  have hfl := World.block_lt_of_cell? _ _ c3
  obtain ⟨o1, o2⟩ := hop
  clear hp hs
  go_enter Try.func19, Try.ntmps19
  go_wp2_with fail
  obtain ⟨wa, hwa⟩ : ∃ z, z = (w.alloc (.cells #[.slice A R cap, .int .i64 cells] 45)).alloc (.cells #[.int .i64 x.op, .int .i64 x.dst, .int .i64 x.a.reg, .int .i64 x.a.num, .int .i64 x.b.reg, .int .i64 x.b.num, .int .i64 x.size, .bool x.signed, .bool x.secret, .int .i64 x.ref, .int .i64 x.off, .slice A5 n5 c5] 28) := ⟨_, rfl⟩
  obtain ⟨ga, hga⟩ : ∃ z, z = w.heap.size := ⟨_, rfl⟩
  rw [← hwa] at HBB HBO HBX ⊢
  rw [← hga] at HBO HBX ⊢
  clear hwa hga c3 hfl
  go_loopw [14] (fun s wr => ∃ r : Nat, r ≤ R ∧ s = .int .i64 r ∧ Below wa.heap.size wa wr) (fun s _ => R - (intOf s).toNat)
  case atStart => exact ⟨0, by omega, rfl, Below.refl _ _⟩
  case round =>
    obtain ⟨r, hr, rfl, hB⟩ := hrel
    have HB := Lib.hid hB
    clear hB
    by_cases hltr : r < R
    · have HW := Lib.hid (HBB.out.bt HB.out)
      obtain ⟨g, cp, e, _⟩ := own_form HP.out (by rw [ownP_len]; omega)
      rw [ownP_len] at e
      cases e
      have k1 := later (place_cell HP.out hltr) HW.out
      have ka : wr.cell? ⟨ga, 0, none⟩ = some (.slice (some ⟨g, 0, none⟩) R cap) := later (blk_cell HBO.out rfl) HB.out
      have kx0 : wr.cell? ⟨ga + 1, 0, none⟩ = some (.int .i64 x.op) := later (blk_cell HBX.out rfl) HB.out
      have kx1 : wr.cell? ⟨ga + 1, 1, none⟩ = some (.int .i64 x.dst) := later (blk_cell HBX.out rfl) HB.out
      have kx2 : wr.cell? ⟨ga + 1, 2, none⟩ = some (.int .i64 x.a.reg) := later (blk_cell HBX.out rfl) HB.out
      have l1 := World.block_lt_of_cell? _ _ k1
      have l2 := World.block_lt_of_cell? _ _ ka
      have l3 := World.block_lt_of_cell? _ _ kx0
      have HH := Lib.hid (has_any wr bs sv l (r : Nat) (set_below HS.out HW.out) (by omega))
      obtain ⟨hb, hhb⟩ : ∃ z, z = hasL l ((r : Nat) : Int) := ⟨_, rfl⟩
      rw [← hhb] at HH
      have n1 : decide ((5 : Int) + (r : Int) < 5) = false := decide_eq_false (by omega)
      clear hhb
      cases hb
      · go_wp2_with fail
        refine HH.out.mono ?_
        rintro e w7 ⟨rfl, rfl⟩
        go_wp2_with fail
        go_roundw
        case rel => exact ⟨r + 1, by omega, by go_num, HB.out⟩
        case measure => first | omega | (simp [intOf]; done) | (simp [intOf]; omega)
      · by_cases hd : (r : Int) = x.dst
        · have b1 : ((r : Int) == x.dst) = true := by simpa using hd
          clear hd
          go_wp2_with fail
          refine HH.out.mono ?_
          rintro e w7 ⟨rfl, rfl⟩
          go_wp2_with fail
          go_roundw
          case rel => exact ⟨r + 1, by omega, by go_num, HB.out⟩
          case measure => first | omega | (simp [intOf]; done) | (simp [intOf]; omega)
        · have b1 : ((r : Int) == x.dst) = false := by simpa using hd
          obtain ⟨p28, h28⟩ : ∃ z, (x.op == 28) = z := ⟨_, rfl⟩
          obtain ⟨p29, h29⟩ : ∃ z, (x.op == 29) = z := ⟨_, rfl⟩
          by_cases hx0 : 0 ≤ x.dst
          · obtain ⟨d, hdd⟩ : ∃ d : Nat, x.dst = d := ⟨x.dst.toNat, by omega⟩
            have HDD := Lib.hid hdd
            have k4 := later (place_cell HP.out (show d < R by omega)) HW.out
            have l4 := World.block_lt_of_cell? _ _ k4
            rw [hdd] at kx1 b1
            have b2 : ((5 : Int) + (r : Int) == (5 : Int) + (d : Int)) = false := by simp; omega
            have hdR : d < R := by omega
            clear hd hdd hd1 hd2 hx0
            cases p28 <;> cases p29
            all_goals
              go_wp2_with fail
              refine HH.out.mono ?_
              rintro e w7 ⟨rfl, rfl⟩
              go_wp2_with fail
              go_quiet (fail)
              go_wp2_with fail
              go_roundw
              case rel => exact ⟨r + 1, by omega, by go_num, below_drewN HB.out _⟩
              case measure => first | omega | (simp [intOf]; done) | (simp [intOf]; omega)
          · have b3 : decide ((0 : Int) ≤ x.dst) = false := decide_eq_false hx0
            clear hd
            cases p28 <;> cases p29
            all_goals
              go_wp2_with fail
              refine HH.out.mono ?_
              rintro e w7 ⟨rfl, rfl⟩
              go_wp2_with fail
              go_quiet (fail)
              go_wp2_with fail
              go_roundw
              case rel => exact ⟨r + 1, by omega, by go_num, below_drewN HB.out _⟩
              case measure => first | omega | (simp [intOf]; done) | (simp [intOf]; omega)
    · have e : r = R := by omega
      subst e
      go_wp2_with fail
      go_returns
      exact ⟨rfl, HBB.out.bt HB.out⟩
end Go.Proofs.Ytegnaeinpacafaa
