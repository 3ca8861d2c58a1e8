/- ctype.Table's Add: it answers, and leaves a table as Add makes it. No condition. -/
import Derived.Test.YtpcfibnnboenhaaOlV
namespace Go.Proofs.Ytpcfibnnboenhaa
open Go.RowKit
set_option linter.unusedVariables false
set_option maxHeartbeats 4000000
set_option maxRecDepth 100000
def AddV (w : World) (B p : Nat) (e : Ending) (w' : World) : Prop := ∃ (i er : Int) (tab : List RecP) (v : Value) (css : List (List Value)), e = .returned (.tuple #[.int .i64 i, .int .i64 er]) ∧ WfT tab ∧ TabO w' B p tab v css ∧ Below B w w' ∧ KeptT w w'
theorem add_same {w w' : World} {B p : Nat} {tab : List RecP} {v : Value} {css : List (List Value)} {i er : Int} (hT : TabO w B p tab v css) (hW : WfT tab) (hB : B ≤ w.heap.size) (hb : Below w.heap.size w w') : AddV w B p (.returned (.tuple #[.int .i64 i, .int .i64 er])) w' :=
  ⟨i, er, tab, v, css, rfl, hW, hT.later hb, hb.mono hB, KeptT.below hb⟩
theorem step_append_run {P : Program} {ops : Array Oper} {o : Oper} {a : Act} {w : World} {K : Act → World → Prop} {Q : Exit → Act → World → Prop} {E : Prop} (hg : o.guard = none) (s x : Operand) (t : TypeId)
    (hop : o.op = .call { callee := .builtin .append, args := #[s, x], argTypes := #[t, t] }) (v u v' : Value) (w' : World) (hs : a.eval s = v) (hx : a.eval x = u)
    (hr : (Builtin.append_ #[t, t] o.type #[v, u]).run P w = .ok v' w') (hK : K (a.put o.dst v') w') : if Region.wanted o (yielded ops a.tmps) = true then Oper.wp P o a w K Q else E := by
  have hw : Region.wanted o (yielded ops a.tmps) = true := by simp [Region.wanted, hg]
  rw [if_pos hw]
  unfold Oper.wp execOp
  simp only [hop, resolve, invoke, builtin, Sem.run_bind, Sem.run_pure, Result.andThen_ok, List.map_toArray, List.map_cons, List.map_nil, hs, hx, hr]
  exact hK
theorem set_below {w x : World} {b j : Nat} {v : Value} (h : Below w.heap.size w x) (hb : w.heap.size ≤ b) : Below w.heap.size w (x.setCell ⟨b, j, none⟩ v) :=
  below_of_grown h (Nat.le_refl _) (grown_set x b j v) (fun k hk => by cases hk; exact hb)
theorem own_set {w : World} {base size n b j : Nat} {T : TypeId} {v u : Value} {xs : List Value} (h : w.ownsRow base T size v n xs) (hne : v.ownBlock ≠ some b) : (w.setCell ⟨b, j, none⟩ u).ownsRow base T size v n xs :=
  World.ownsRow.kept (row := some b) h (grown_set w b j u) (Or.inr hne)
theorem own_old {w : World} {base size n : Nat} {T : TypeId} {v : Value} {xs : List Value} (h : w.ownsRow base T size v n xs) : v.ownBlock ≠ some w.heap.size := by
  rcases h.2 with ⟨rfl, e⟩ | ⟨g, cap, cur, rfl, h1, h2, _⟩
  · simp [Value.ownBlock]
  · have := blk_lt h2
    simp [Value.ownBlock]
    omega
theorem own_lo {w : World} {base size n k : Nat} {T : TypeId} {v : Value} {xs : List Value} (h : w.ownsRow base T size v n xs) (hk : v.ownBlock = some k) : base ≤ k := by
  rcases h.2 with ⟨rfl, e⟩ | ⟨g, cap, cur, rfl, h1, h2, _⟩
  · simp [Value.ownBlock] at hk
  · simp only [Value.ownBlock, Option.some.injEq] at hk
    omega
theorem own_lt {w : World} {base size n k : Nat} {T : TypeId} {v : Value} {xs : List Value} (h : w.ownsRow base T size v n xs) (hk : v.ownBlock = some k) : k < w.heap.size := by
  rcases h.2 with ⟨rfl, e⟩ | ⟨g, cap, cur, rfl, h1, h2, _⟩
  · simp [Value.ownBlock] at hk
  · simp only [Value.ownBlock, Option.some.injEq] at hk
    have := blk_lt h2
    omega
theorem own_neb {w : World} {base size n b : Nat} {v : Value} {xs : List Value} {cs : Array Value} (h : w.ownsRow base 43 size v n xs) (h2 : w.heap[b]? = some (.cells cs 69 (0, 0))) : v.ownBlock ≠ some b := by
  rcases own_blk h h2 (by decide) with e | e
  · rw [e]; simp
  · exact e
theorem add_any (w : World) (B p : Nat) (tab : List RecP) (vt : Value) (css : List (List Value)) (nm : ByteArray) (v : Value) (fs : List FldP) (hT : TabO w B p tab vt css) (hW : WfT tab) (hB : B ≤ w.heap.size) (hp : B ≤ p) (hv : SlR w 11 (FldR w) v fs) (hok : ∀ f ∈ fs, OkT f.ty) (hn : fs.length ≤ 20) :
    Calls Try.prog 6 #[.pointer (some ⟨p, 0, none⟩), .string nm, v] w (AddV w B p) := by
  have HT := Lib.hid hT
  have HW := Lib.hid hW
  have HB := Lib.hid hB
  have HP := Lib.hid hp
  obtain ⟨A, cap, rfl, k1, k2, k3⟩ := hv
  have HV := Lib.hid (show SlR w 11 (FldR w) (.slice A fs.length cap) fs from ⟨A, cap, rfl, k1, k2, k3⟩)
  have HOK := Lib.hid hok
  have hlt20 := hT.len
  obtain ⟨AT, ct, et, _⟩ := own_slice hT.own
  subst et
  have HK1 := Lib.hid k1
  unfold maxLen at k2
  clear hT hW hB hp k3 hok
  go_enter Try.func6, Try.ntmps6
  go_wp2_with fail
  refine (find_any w p tab nm HT.out.tabC).mono ?_
  rintro e w2 ⟨i2, ok, rfl, kb⟩
  have HB2 := Lib.hid kb
  clear kb
  cases ok with
  | true =>
    go_wp2_with fail
    go_returns
    exact add_same HT.out HW.out HB.out HB2.out
  | false =>
    have hTb := blk_below HT.out.blk HB2.out
    have c0 := blk_cell (i := 0) hTb rfl
    have lp := blk_lt hTb
    clear hTb
    by_cases h20 : tab.length = 20
    · have d20 : ((tab.length : Int) == 20) = true := by simp; omega
      go_wp2_with fail
      go_returns
      exact add_same HT.out HW.out HB.out HB2.out
    · have d20 : ((tab.length : Int) == 20) = false := by simp; omega
      have dn : decide ((fs.length : Int) > 20) = false := decide_eq_false (by omega)
      have HLT := Lib.hid (show tab.length < 20 by omega)
      go_wp2_with fail
      obtain ⟨w3, hw3⟩ : ∃ w3, w3 = w2.alloc (.cells #[.string nm, .slice none 0 0, .int .i64 0, .int .i64 1] 69) := ⟨_, rfl⟩
      have HR3 := Lib.hid (show w3.heap[w2.heap.size]? = some (.cells #[.string nm, .slice none 0 0, .int .i64 0, .int .i64 1] 69 (0, 0)) by rw [hw3]; exact blk_new _ _)
      have HB3 := Lib.hid (show Below w.heap.size w w3 by rw [hw3]; exact below_alloc _ HB2.out)
      have HZ2 := Lib.hid HB2.out.size
      rw [← hw3]
      clear hw3 c0 lp d20 dn h20
      go_loopw [39] (fun i wr => ∃ (j : Nat) (gs : List FldP) (vf : Value) (fss : List (List Value)) (rs ra : Int), j ≤ fs.length ∧ i = .int .i64 j ∧ wr.heap[w2.heap.size]? = some (.cells #[.string nm, vf, .int .i64 rs, .int .i64 ra] 69 (0, 0)) ∧ wr.ownsRow w.heap.size 43 11 vf gs.length fss.flatten ∧ El 11 (FldR wr) gs fss ∧ gs.length = j ∧ RecI tab gs rs ra ∧ Below w.heap.size w wr) (fun i _ => fs.length - (intOf i).toNat)
      case atStart => exact ⟨0, [], _, [], 0, 1, by omega, rfl, HR3.out, World.ownsRow_nil _ _ _ _, El.nil _ _, rfl, RecI.nil tab, HB3.out⟩
      case round =>
        obtain ⟨j, gs, vf, fss, rs, ra, hj, rfl, hR, hO, hE, hgl, hI, hb⟩ := hrel
        rename World => wo
        have HR := Lib.hid hR
        have HO := Lib.hid hO
        have HE := Lib.hid hE
        have HI := Lib.hid hI
        have HBr := Lib.hid hb
        obtain ⟨Af, cf, rfl, hfl⟩ := own_slice hO
        obtain ⟨rs0, rs1, ra0, ra1, _⟩ := id hI
        have HGL := Lib.hid hgl
        clear hgl
        by_cases hlt : j < fs.length
        · obtain ⟨f, hf⟩ : ∃ f, fs[j]? = some f := ⟨_, List.getElem?_eq_getElem hlt⟩
          have hfok := HOK.out f (List.mem_of_getElem? hf)
          obtain ⟨A4, c4, e1, _, _, e4⟩ := (HV.out.later (by decide) HBr.out).weaken (fun cs x hx => hx.later HBr.out)
          simp only [Value.slice.injEq] at e1
          obtain ⟨rfl, _, rfl⟩ := e1
          obtain ⟨b, o, cs, rfl, g2, g3, ds, rfl, r1, r2, r3⟩ := e4 j f hf
          obtain ⟨k', s', g', c', p', n', num', A', q1', q2', rt', rfl⟩ := r2.ten
          have HTY := Lib.hid r2
          unfold tyCells at g3
          have z0 : wo.cell? ⟨b, o + j * 11, none⟩ = some (.string f.name) := g3 0 (by decide)
          have z1 : wo.cell? ⟨b, o + j * 11 + 1, none⟩ = some (.int .i64 k') := g3 1 (by decide)
          have z2 : wo.cell? ⟨b, o + j * 11 + 2, none⟩ = some (.int .i64 s') := g3 2 (by decide)
          have z3 : wo.cell? ⟨b, o + j * 11 + 3, none⟩ = some (.bool g') := g3 3 (by decide)
          have z4 : wo.cell? ⟨b, o + j * 11 + 4, none⟩ = some (.bool c') := g3 4 (by decide)
          have z5 : wo.cell? ⟨b, o + j * 11 + 5, none⟩ = some (.pointer p') := g3 5 (by decide)
          have z6 : wo.cell? ⟨b, o + j * 11 + 6, none⟩ = some (.int .i64 n') := g3 6 (by decide)
          have z7 : wo.cell? ⟨b, o + j * 11 + 7, none⟩ = some (.int .i64 num') := g3 7 (by decide)
          have z8 : wo.cell? ⟨b, o + j * 11 + 8, none⟩ = some (.slice A' q1' q2') := g3 8 (by decide)
          have z9 : wo.cell? ⟨b, o + j * 11 + 9, none⟩ = some (.pointer rt') := g3 9 (by decide)
          have z10 : wo.cell? ⟨b, o + j * 11 + 10, none⟩ = some (.int .i64 f.at_) := g3 10 (by decide)
          have hlx := World.block_lt_of_cell? _ _ z0
          have HLT2 := Lib.hid hlt
          have HAT := Lib.hid r3
          obtain ⟨w4, hw4⟩ : ∃ w4, w4 = wo.alloc (.cells #[.string f.name, .int .i64 k', .int .i64 s', .bool g', .bool c', .pointer p', .int .i64 n', .int .i64 num', .slice A' q1' q2', .pointer rt', .int .i64 f.at_] 43) := ⟨_, rfl⟩
          have hb4 : Below wo.heap.size wo w4 := by rw [hw4]; exact below_alloc _ (Below.refl _ _)
          have HB4 := Lib.hid hb4
          have HF4 := Lib.hid (show w4.heap[wo.heap.size]? = some (.cells #[.string f.name, .int .i64 k', .int .i64 s', .bool g', .bool c', .pointer p', .int .i64 n', .int .i64 num', .slice A' q1' q2', .pointer rt', .int .i64 f.at_] 43 (0, 0)) by rw [hw4]; exact blk_new _ _)
          have hdl : decide ((j : Int) ≤ cap) = true := decide_eq_true (by have := HK1.out; omega)
          have hjc : j ≤ cap := by have := HK1.out; omega
          have HFOK := Lib.hid hfok
          have HFF := Lib.hid hf
          clear hR hO hE hI hb g3 e4 r1 r2 r3 hb4 hf hfok
          go_wp2_with fail
          rw [← hw4]
          clear hw4 z0 z1 z2 z3 z4 z5 z6 z7 z8 z9 z10 hlx
          go_loopw [48] (fun i wx => ∃ k : Nat, k ≤ j ∧ i = .int .i64 k ∧ Below w4.heap.size w4 wx) (fun i _ => j - (intOf i).toNat)
          case atStart => exact ⟨0, by omega, rfl, Below.refl _ _⟩
          case round =>
            obtain ⟨k, hk, rfl, hbx⟩ := hrel
            have HBX := Lib.hid hbx
            clear hbx
            by_cases hkj : k < j
            · obtain ⟨h, hh⟩ : ∃ h, fs[k]? = some h := ⟨_, List.getElem?_eq_getElem (by omega)⟩
              have hbA : Below w.heap.size w wr := HBr.out.bt (HB4.out.bt HBX.out)
              obtain ⟨A4, c4, e1, _, _, e4⟩ := (HV.out.later (by decide) hbA).weaken (fun cs x hx => hx.later hbA)
              simp only [Value.slice.injEq, Option.some.injEq] at e1
              obtain ⟨rfl, _, rfl⟩ := e1
              obtain ⟨bb, oo, cs, e5, g2, g3, ds, rfl, r1, r2, r3⟩ := e4 k h hh
              simp only [Option.some.injEq, Addr.mk.injEq, and_true] at e5
              obtain ⟨rfl, rfl⟩ := e5
              obtain ⟨k9, s9, g9, c9, p9, n9, num9, A9, q19, q29, rt9, rfl⟩ := r2.ten
              unfold tyCells at g3
              have y0 : wr.cell? ⟨b, o + k * 11, none⟩ = some (.string h.name) := g3 0 (by decide)
              have y1 : wr.cell? ⟨b, o + k * 11 + 1, none⟩ = some (.int .i64 k9) := g3 1 (by decide)
              have y2 : wr.cell? ⟨b, o + k * 11 + 2, none⟩ = some (.int .i64 s9) := g3 2 (by decide)
              have y3 : wr.cell? ⟨b, o + k * 11 + 3, none⟩ = some (.bool g9) := g3 3 (by decide)
              have y4 : wr.cell? ⟨b, o + k * 11 + 4, none⟩ = some (.bool c9) := g3 4 (by decide)
              have y5 : wr.cell? ⟨b, o + k * 11 + 5, none⟩ = some (.pointer p9) := g3 5 (by decide)
              have y6 : wr.cell? ⟨b, o + k * 11 + 6, none⟩ = some (.int .i64 n9) := g3 6 (by decide)
              have y7 : wr.cell? ⟨b, o + k * 11 + 7, none⟩ = some (.int .i64 num9) := g3 7 (by decide)
              have y8 : wr.cell? ⟨b, o + k * 11 + 8, none⟩ = some (.slice A9 q19 q29) := g3 8 (by decide)
              have y9 : wr.cell? ⟨b, o + k * 11 + 9, none⟩ = some (.pointer rt9) := g3 9 (by decide)
              have y10 : wr.cell? ⟨b, o + k * 11 + 10, none⟩ = some (.int .i64 h.at_) := g3 10 (by decide)
              have hlx := World.block_lt_of_cell? _ _ y0
              have x0 := blk_cell (i := 0) (blk_below HF4.out HBX.out) rfl
              have xl := blk_lt (blk_below HF4.out HBX.out)
              have HKJ := Lib.hid hkj
              have HBY := Lib.hid (below_alloc (.cells #[.string h.name, .int .i64 k9, .int .i64 s9, .bool g9, .bool c9, .pointer p9, .int .i64 n9, .int .i64 num9, .slice A9 q19 q29, .pointer rt9, .int .i64 h.at_] 43) HBX.out)
              clear g3 e4 r1 r2 r3 hbA hh
              cases hq : h.name.toList == f.name.toList with
              | true =>
                go_wp2_with fail
                go_returns
                exact add_same HT.out HW.out HB.out (HBr.out.bt (HB4.out.bt HBY.out))
              | false =>
                go_wp2_with fail
                have hkj := HKJ.out
                go_roundw
                case rel => exact ⟨k + 1, by omega, by go_num, HBY.out⟩
                case measure => simp [intOf]; omega
            · have e : k = j := by omega
              subst e
              have HB5 := Lib.hid (HBr.out.bt (HB4.out.bt HBX.out))
              have HF5 := Lib.hid (blk_below HF4.out HBX.out)
              have HR5 := Lib.hid (blk_below HR.out (HB4.out.bt HBX.out))
              have HSZ := Lib.hid (fun W hb => size_any p tab HW.out.huge f.ty W _ HFOK.out (HT.out.tabC.later (HB5.out.bt hb)) (HTY.out.later ((HB4.out.bt HBX.out).bt hb)))
              have HAL := Lib.hid (fun W hb => align_any p tab f.ty W _ HFOK.out (HT.out.tabC.later (HB5.out.bt hb)) (HTY.out.later ((HB4.out.bt HBX.out).bt hb)))
              obtain ⟨n, hnn⟩ : ∃ n, n = sizeT tab f.ty := ⟨_, rfl⟩
              obtain ⟨a, haa⟩ : ∃ a, a = alignT tab f.ty := ⟨_, rfl⟩
              obtain ⟨n0, n1⟩ := size_bound tab HW.out.huge f.ty HFOK.out
              obtain ⟨a0, a1⟩ := align_bound tab HW.out f.ty HFOK.out
              rw [← hnn] at n0 n1 HSZ
              rw [← haa] at a0 a1 HAL
              unfold hugeS at n1
              unfold tyCells at HSZ HAL
              have HNN := Lib.hid hnn
              have HAA := Lib.hid haa
              have c1 := blk_cell (i := 1) HF5.out rfl
              have c2 := blk_cell (i := 2) HF5.out rfl
              have c3 := blk_cell (i := 3) HF5.out rfl
              have c4 := blk_cell (i := 4) HF5.out rfl
              have c5 := blk_cell (i := 5) HF5.out rfl
              have c6 := blk_cell (i := 6) HF5.out rfl
              have c7 := blk_cell (i := 7) HF5.out rfl
              have c8 := blk_cell (i := 8) HF5.out rfl
              have c9 := blk_cell (i := 9) HF5.out rfl
              have cl := blk_lt HF5.out
              clear hnn haa
              go_wp2_with fail
              refine wp_region_over (by kernel_rfl) (by kernel_rfl) ?_
              repeat (first | go_big_quiet_step ((go_at_call 7; exact calls_over (by exact Nat.le_refl _) (HSZ.out _ (over_below _ _ _)))) | go_big_quiet_step ((go_at_call 19; exact calls_over (by exact Nat.le_refl _) (HAL.out _ (over_below _ _ _)))))
              refine wpQuiet_nil ?_
              intro w6 kb6
              have HB6 := Lib.hid (HB5.out.bt kb6)
              have HF6 := Lib.hid (blk_below HF5.out kb6)
              have HR6 := Lib.hid (blk_below HR5.out kb6)
              have HBO := Lib.hid ((HB4.out.bt HBX.out).bt kb6)
              clear kb6 c1 c2 c3 c4 c5 c6 c7 c8 c9 cl
              by_cases h0 : n = 0
              · subst h0
                go_wp2_with fail
                go_returns
                exact add_same HT.out HW.out HB.out HB6.out
              · have d0 : (n == 0) = false := by simpa using h0
                have HN0 := Lib.hid (show 0 < n by omega)
                obtain ⟨v0, v1⟩ := up_bound (n := rs) (a := a) rs0 a0
                have HUP := Lib.hid (fun W => up_any W rs a ⟨rs0, by omega⟩ ⟨a0, by omega⟩ ⟨by omega, by omega⟩)
                obtain ⟨u, hu⟩ : ∃ u, u = (rs + a - 1) / a * a := ⟨_, rfl⟩
                rw [← hu] at HUP v0 v1
                have r2 := blk_cell (i := 2) HR6.out rfl
                have rl := blk_lt HR6.out
                clear h0 hu
                go_wp2_with fail
                refine (HUP.out w6).mono ?_
                rintro e w7 ⟨rfl, kb7⟩
                have HB7 := Lib.hid (HB6.out.bt kb7)
                have HF7 := Lib.hid (blk_below HF6.out kb7)
                have HR7 := Lib.hid (blk_below HR6.out kb7)
                have HBO7 := Lib.hid (HBO.out.bt kb7)
                clear kb7 r2 rl
                have fl := blk_lt HF7.out
                have f10 := blk_free (i := 10) HF7.out
                have c10 := blk_cell (i := 10) HF7.out rfl
                have rl := blk_lt HR7.out
                have r2 := blk_cell (i := 2) HR7.out rfl
                have r3 := blk_cell (i := 3) HR7.out rfl
                have rf2 := blk_free (i := 2) HR7.out
                have rf3 := blk_free (i := 3) HR7.out
                have hne : w2.heap.size < wo.heap.size := blk_lt HR.out
                have hne2 : ¬ w2.heap.size = wo.heap.size := by omega
                have hne3 : ¬ wo.heap.size = w2.heap.size := by omega
                have hM : (a ≤ ra ∧ max ra a = ra) ∨ (ra < a ∧ max ra a = a) := by omega
                have HF8a := Lib.hid (show (((w7.setCell ⟨wo.heap.size, 10, none⟩ (.int .i64 u)).setCell ⟨w2.heap.size, 2, none⟩ (.int .i64 (u + n))).setCell ⟨w2.heap.size, 3, none⟩ (.int .i64 (max ra a))).heap[wo.heap.size]? = some (.cells #[.string f.name, .int .i64 k', .int .i64 s', .bool g', .bool c', .pointer p', .int .i64 n', .int .i64 num', .slice A' q1' q2', .pointer rt', .int .i64 u] 43 (0, 0)) from blk_set (blk_set (blk_setCell HF7.out (.int .i64 u)) (p := ⟨w2.heap.size, 2, none⟩) (by simp; omega) _) (p := ⟨w2.heap.size, 3, none⟩) (by simp; omega) _)
                have HR8a := Lib.hid (show (((w7.setCell ⟨wo.heap.size, 10, none⟩ (.int .i64 u)).setCell ⟨w2.heap.size, 2, none⟩ (.int .i64 (u + n))).setCell ⟨w2.heap.size, 3, none⟩ (.int .i64 (max ra a))).heap[w2.heap.size]? = some (.cells #[.string nm, .slice Af gs.length cf, .int .i64 (u + n), .int .i64 (max ra a)] 69 (0, 0)) from blk_setCell (blk_setCell (blk_set HR7.out (p := ⟨wo.heap.size, 10, none⟩) (by simp; omega) _) _) _)
                have HY8a := Lib.hid (show KeptY wo (((w7.setCell ⟨wo.heap.size, 10, none⟩ (.int .i64 u)).setCell ⟨w2.heap.size, 2, none⟩ (.int .i64 (u + n))).setCell ⟨w2.heap.size, 3, none⟩ (.int .i64 (max ra a))) from
                  (((KeptY.below HBO7.out).trans (set_typ HF7.out (by decide))).trans (set_typ (blk_set HR7.out (p := ⟨wo.heap.size, 10, none⟩) (by simp; omega) _) (by decide))).trans (set_typ (blk_setCell (blk_set HR7.out (p := ⟨wo.heap.size, 10, none⟩) (by simp; omega) _) _) (by decide)))
                have HB8a := Lib.hid (show Below w.heap.size w (((w7.setCell ⟨wo.heap.size, 10, none⟩ (.int .i64 u)).setCell ⟨w2.heap.size, 2, none⟩ (.int .i64 (u + n))).setCell ⟨w2.heap.size, 3, none⟩ (.int .i64 (max ra a))) from set_below (set_below (set_below HB7.out (by have := HBr.out.size; omega)) HZ2.out) HZ2.out)
                have HO8a := Lib.hid (show (((w7.setCell ⟨wo.heap.size, 10, none⟩ (.int .i64 u)).setCell ⟨w2.heap.size, 2, none⟩ (.int .i64 (u + n))).setCell ⟨w2.heap.size, 3, none⟩ (.int .i64 (max ra a))).ownsRow w.heap.size 43 11 (.slice Af gs.length cf) gs.length fss.flatten from own_set (own_set (own_set (own_below HO.out HBO7.out) (own_old HO.out)) (own_neb HO.out HR.out)) (own_neb HO.out HR.out))
                rcases hM with ⟨hma, hM⟩ | ⟨hma, hM⟩
                all_goals
                  go_upto_if 85 with (fail)
                  obtain ⟨w8, hw8⟩ : ∃ w8, w8 = ((w7.setCell ⟨wo.heap.size, 10, none⟩ (.int .i64 u)).setCell ⟨w2.heap.size, 2, none⟩ (.int .i64 (u + n))).setCell ⟨w2.heap.size, 3, none⟩ (.int .i64 (max ra a)) := ⟨_, rfl⟩
                  rw [← hw8] at HF8a HR8a HY8a HB8a HO8a
                  rw [hM] at hw8
                  rw [← hw8]
                  obtain ⟨M, hMM⟩ : ∃ M, M = max ra a := ⟨_, rfl⟩
                  rw [← hMM] at HR8a
                  have HMM := Lib.hid hMM
                  have HMB := Lib.hid (show 1 ≤ M ∧ M ≤ 8 by omega)
                  clear hw8 hM hma hMM fl f10 c10 rl r2 r3 rf2 rf3 hne hne2 hne3
                  by_cases hbig : 32768 < u + n
                  · have dbig : decide (u + n > 32768) = true := decide_eq_true hbig
                    go_wp2_with fail
                    go_returns
                    exact add_same HT.out HW.out HB.out HB8a.out
                  · have dbig : decide (u + n > 32768) = false := decide_eq_false hbig
                    have HBG := Lib.hid (show u + n ≤ 32768 by omega)
                    have x0 := blk_cell (i := 0) HF8a.out rfl
                    have x1 := blk_cell (i := 1) HF8a.out rfl
                    have x2 := blk_cell (i := 2) HF8a.out rfl
                    have x3 := blk_cell (i := 3) HF8a.out rfl
                    have x4 := blk_cell (i := 4) HF8a.out rfl
                    have x5 := blk_cell (i := 5) HF8a.out rfl
                    have x6 := blk_cell (i := 6) HF8a.out rfl
                    have x7 := blk_cell (i := 7) HF8a.out rfl
                    have x8 := blk_cell (i := 8) HF8a.out rfl
                    have x9 := blk_cell (i := 9) HF8a.out rfl
                    have x10 := blk_cell (i := 10) HF8a.out rfl
                    have xl := blk_lt HF8a.out
                    have y1 := blk_cell (i := 1) HR8a.out rfl
                    have yl := blk_lt HR8a.out
                    have HFL := Lib.hid (show FldR w8 (#[.string f.name, .int .i64 k', .int .i64 s', .bool g', .bool c', .pointer p', .int .i64 n', .int .i64 num', .slice A' q1' q2', .pointer rt', .int .i64 u] : Array Value).toList ⟨f.name, f.ty, u⟩ from ⟨_, rfl, rfl, (HTY.out.keptY HY8a.out), by unfold In64; constructor <;> simp <;> omega⟩)
                    obtain ⟨i0, zz, q1, q2, q3, q4, q5⟩ := info_partsC (C := 11) (B := 104) (show (Try.prog.info? 43).map (fun i => (i.zero.map (·.cells.size), i.size, i.bytes)) = some (some 11, 11, 104) by kernel_rfl)
                    obtain ⟨v9, w9, m1, m2, m3, m4⟩ := append_oneC (P := Try.prog) w.heap.size 35 43 i0 zz 11 104 Try.underlying35 q1 q2 q4 q5 q3 (by decide) (.slice Af gs.length cf) gs.length fss.flatten HO8a.out #[.string f.name, .int .i64 k', .int .i64 s', .bool g', .bool c', .pointer p', .int .i64 n', .int .i64 num', .slice A' q1' q2', .pointer rt', .int .i64 u] rfl w8.heap.size rfl (fun u hu => HFL.out.one u hu) (by have := HGL.out; unfold maxLen; omega) (by have := HGL.out; omega) HB8a.out.size
                    have hR9 := (m3.block w2.heap.size (blk_lt HR8a.out) (fun e => own_neb HO8a.out HR8a.out e.symm)).trans HR8a.out
                    have HB9 := Lib.hid (below_of_grown HB8a.out (Nat.le_refl _) m3 (fun k hk => own_lo HO8a.out hk))
                    have HY9 := Lib.hid (own_typ HO8a.out (by decide) m3)
                    have HM2 := Lib.hid m2
                    obtain ⟨A9, c9, rfl, _⟩ := own_slice m2
                    have HR9 := Lib.hid hR9
                    have z9l := blk_lt hR9
                    have z9f := blk_free (i := 1) hR9
                    have z9c := blk_cell (i := 1) hR9 rfl
                    clear q1 q2 q3 q4 q5 m2 m3 m4 hR9
                    go_wp2_with (at_builtin; refine wpList_append_run _ rfl _ _ _ rfl _ _ _ _ rfl rfl m1 ?_)
                    have hRI : RecI tab (gs ++ [⟨f.name, f.ty, u⟩]) (u + n) M := by
                      have hnn := HNN.out
                      have haa := HAA.out
                      have hmm := HMM.out
                      have hbg := HBG.out
                      subst hnn hmm
                      exact HI.out.snoc ⟨f.name, f.ty, u⟩ HFOK.out HN0.out v0 rfl hbg a0 a1
                    have hkk := HLT2.out
                    have hgl := HGL.out
                    have hne := own_neb HM2.out HR9.out
                    have hY10 := HY9.out.trans (set_typ (j := 1) (u := .slice A9 (gs.length + 1) c9) HR9.out (by decide))
                    have hF10 := HFL.out.keptY hY10
                    have hE10 := (HE.out.weaken (fun cs x hx => hx.keptY (HY8a.out.trans hY10))).snoc _ ⟨f.name, f.ty, u⟩ hF10.cells hF10
                    have hO10 : (w9.setCell ⟨w2.heap.size, 1, none⟩ (.slice A9 (gs.length + 1) c9)).ownsRow w.heap.size 43 11 (.slice A9 (gs.length + 1) c9) (gs ++ [(⟨f.name, f.ty, u⟩ : FldP)]).length (fss ++ [(#[.string f.name, .int .i64 k', .int .i64 s', .bool g', .bool c', .pointer p', .int .i64 n', .int .i64 num', .slice A' q1' q2', .pointer rt', .int .i64 u] : Array Value).toList]).flatten := by
                      have := own_set (j := 1) (u := .slice A9 (gs.length + 1) c9) HM2.out hne
                      simpa using this
                    refine ⟨⟨k + 1, gs ++ [⟨f.name, f.ty, u⟩], _, _, u + n, M, by omega, by go_num, blk_setCell HR9.out _, hO10, hE10, by simp [hgl], hRI, set_below HB9.out HZ2.out⟩, ?_⟩
                    simp [intOf]; omega
        · have e : j = fs.length := by omega
          subst e
          have HLT2 := Lib.hid hlt
          have r2 := blk_cell (i := 2) hR rfl
          have r3 := blk_cell (i := 3) hR rfl
          have rl := blk_lt hR
          obtain ⟨v0, v1⟩ := up_bound (n := rs) (a := ra) rs0 ra0
          have HUP := Lib.hid (fun W => up_any W rs ra ⟨rs0, by omega⟩ ⟨ra0, by omega⟩ ⟨by omega, by omega⟩)
          obtain ⟨u, hu⟩ : ∃ u, u = (rs + ra - 1) / ra * ra := ⟨_, rfl⟩
          rw [← hu] at HUP v0 v1
          have HU := Lib.hid hu
          clear hu hR hO hE hI hb
          go_wp2_with fail
          refine (HUP.out wo).mono ?_
          rintro e w7 ⟨rfl, kb7⟩
          have HB7 := Lib.hid (HBr.out.bt kb7)
          have HBO7 := Lib.hid kb7
          have HR7 := Lib.hid (blk_below HR.out kb7)
          clear kb7 r2 r3 rl
          have HR8a := Lib.hid (show (w7.setCell ⟨w2.heap.size, 2, none⟩ (.int .i64 u)).heap[w2.heap.size]? = some (.cells #[.string nm, .slice Af gs.length cf, .int .i64 u, .int .i64 ra] 69 (0, 0)) from blk_setCell HR7.out _)
          have HB8a := Lib.hid (set_below (j := 2) (v := .int .i64 u) HB7.out HZ2.out)
          have HO8a := Lib.hid (own_set (j := 2) (u := .int .i64 u) (own_below HO.out HBO7.out) (own_neb HO.out HR.out))
          have HY8a := Lib.hid ((KeptY.below HBO7.out).trans (set_typ (j := 2) (u := .int .i64 u) HR7.out (by decide)))
          have r2 := blk_cell (i := 2) HR7.out rfl
          have rl := blk_lt HR7.out
          have rf2 := blk_free (i := 2) HR7.out
          go_upto_if 101 with (fail)
          obtain ⟨w8, hw8⟩ : ∃ w8, w8 = w7.setCell ⟨w2.heap.size, 2, none⟩ (.int .i64 u) := ⟨_, rfl⟩
          rw [← hw8] at HR8a HB8a HO8a HY8a
          rw [← hw8]
          clear hw8 r2 rl rf2
          by_cases h0 : u = 0
          · subst h0
            go_wp2_with fail
            go_returns
            exact add_same HT.out HW.out HB.out HB8a.out
          · have d0 : (u == 0) = false := by simpa using h0
            have hT8 := HT.out.later HB8a.out
            have HTR := Lib.hid (show TrecO w8 (#[.string nm, .slice Af gs.length cf, .int .i64 u, .int .i64 ra] : Array Value).toList ⟨nm, gs, u, ra⟩ from ⟨_, fss, rfl, own_base HO8a.out (Nat.zero_le _), HE.out.weaken (fun cs x hx => hx.keptY HY8a.out), by unfold In64; constructor <;> simp <;> omega, by unfold In64; constructor <;> simp <;> omega, by have := HGL.out; simp; omega⟩)
            have HWF := Lib.hid (show WfT (tab ++ [⟨nm, gs, u, ra⟩]) by have := HW.out.push HI.out nm; rwa [← HU.out] at this)
            go_upto_region 29 with (fail)
            have t0 := blk_cell (i := 0) hT8.blk rfl
            have e0 := blk_cell (i := 0) HR8a.out rfl
            have e1 := blk_cell (i := 1) HR8a.out rfl
            have e2 := blk_cell (i := 2) HR8a.out rfl
            have e3 := blk_cell (i := 3) HR8a.out rfl
            have hlp := blk_lt hT8.blk
            have hlr := blk_lt HR8a.out
            have hT8d := hT8.later (w' := w8.drew) (Below.drew (Below.refl _ _))
            have HTRd : TrecO w8.drew (#[.string nm, .slice Af gs.length cf, .int .i64 u, .int .i64 ra] : Array Value).toList ⟨nm, gs, u, ra⟩ := HTR.out.keptT (KeptT.below (Below.drew (Below.refl _ _)))
            obtain ⟨v9, w9, m1, ⟨A9, n9, c9, rfl⟩, m2, m3, m4, m5, m6, m7, m8⟩ := hT8d.push (by have h1 := HB.out; have h2 := HB8a.out.size; exact Nat.le_trans h1 h2) HP.out HLT.out ⟨nm, gs, u, ra⟩ _ HTRd rfl
            have HRr : (Builtin.append_ #[28, 28] 28 #[.slice AT tab.length ct, .slice (some ⟨w8.heap.size, 0, none⟩) 1 1]).run Try.prog ((w8.alloc (.cells #[.string nm, .slice Af gs.length cf, .int .i64 u, .int .i64 ra] 69)).drew) = .ok (.slice A9 n9 c9) w9 := m1
            have hnr : (Value.slice AT tab.length ct).ownBlock ≠ some w2.heap.size := fun e => by
              have h1 := own_lt HT.out.own e
              have h2 := HZ2.out
              omega
            have hR9 := (m8.block w2.heap.size hlr (fun e => hnr e.symm)).trans HR8a.out
            have M5 := Lib.hid m5
            have M6 := Lib.hid m6
            have M7 := Lib.hid m7
            clear m1 m5 m6 m7 m8 hT8 hT8d HTRd
            refine upto_begin 10 (fun w' => w'.cell? ⟨p, 0, none⟩ = some (.slice AT tab.length ct) ∧ w'.cell? ⟨w2.heap.size, 0, none⟩ = some (.string nm) ∧ w'.cell? ⟨w2.heap.size, 1, none⟩ = some (.slice Af gs.length cf) ∧ w'.cell? ⟨w2.heap.size, 2, none⟩ = some (.int .i64 u) ∧ w'.cell? ⟨w2.heap.size, 3, none⟩ = some (.int .i64 ra)) (by kernel_rfl) ?_ (fun hU0 => ?_)
            · exact ⟨t0, e0, e1, e2, e3⟩
            first | refine upto_run 0 (v := ?_) hU0 (by kernel_rfl) rfl (by kernel_rfl) (by kernel_rfl) (by kernel_rfl) (by kernel_rfl) (fun _ _ _ h => h) (Or.inl ⟨by rfl, ?_⟩) ?_ | fail
            rotate_left
            · first | (intro w _; go_simp; with_reducible rfl) | (intro w _; go_simp; done) | fail
            try simp only [Act.put, List.setIfInBounds_toArray, List.set_cons_zero, List.set_cons_succ]
            first | refine upto_run 1 (v := ?_) hU0 (by kernel_rfl) rfl (by kernel_rfl) (by kernel_rfl) (by kernel_rfl) (by kernel_rfl) (fun _ _ _ h => h) (Or.inl ⟨by rfl, ?_⟩) ?_ | fail
            rotate_left
            · first | (intro w _; go_simp; with_reducible rfl) | (intro w _; go_simp; done) | fail
            try simp only [Act.put, List.setIfInBounds_toArray, List.set_cons_zero, List.set_cons_succ]
            first | refine upto_run 2 (v := ?_) hU0 (by kernel_rfl) rfl (by kernel_rfl) (by kernel_rfl) (by kernel_rfl) (by kernel_rfl) (fun _ _ _ h => h) (Or.inl ⟨by rfl, ?_⟩) ?_ | fail
            rotate_left
            · first | (intro w _; go_simp; with_reducible rfl) | (intro w _; go_simp; done) | fail
            try simp only [Act.put, List.setIfInBounds_toArray, List.set_cons_zero, List.set_cons_succ]
            first | refine upto_run 3 (v := ?_) hU0 (by kernel_rfl) rfl (by kernel_rfl) (by kernel_rfl) (by kernel_rfl) (by kernel_rfl) (fun _ _ _ h => h) (Or.inl ⟨by rfl, ?_⟩) ?_ | fail
            rotate_left
            · first | (intro w _; go_simp; with_reducible rfl) | (intro w _; go_simp; done) | fail
            try simp only [Act.put, List.setIfInBounds_toArray, List.set_cons_zero, List.set_cons_succ]
            first | refine upto_read 4 (v := ?_) hU0 (by kernel_rfl) rfl (by kernel_rfl) (by kernel_rfl) (by kernel_rfl) (by kernel_rfl) (by kernel_rfl) (fun _ _ _ h => h) (Or.inl ⟨by rfl, ?_⟩) ?_ | fail
            rotate_left
            · first | (intro w hSw; (try dsimp only at hSw); go_simp; with_reducible rfl) | (intro w hSw; (try dsimp only at hSw); go_simp; done) | fail
            try simp only [Act.put, List.setIfInBounds_toArray, List.set_cons_zero, List.set_cons_succ]
            first | refine upto_read 5 (v := ?_) hU0 (by kernel_rfl) rfl (by kernel_rfl) (by kernel_rfl) (by kernel_rfl) (by kernel_rfl) (by kernel_rfl) (fun _ _ _ h => h) (Or.inl ⟨by rfl, ?_⟩) ?_ | fail
            rotate_left
            · first | (intro w hSw; (try dsimp only at hSw); go_simp; with_reducible rfl) | (intro w hSw; (try dsimp only at hSw); go_simp; done) | fail
            try simp only [Act.put, List.setIfInBounds_toArray, List.set_cons_zero, List.set_cons_succ]
            first | refine upto_next 6 rfl (by kernel_rfl) (fun K hK => ?_) | fail
            go_simp
            first | refine hK.out _ _ ?_ (fun hU1 => ?_) | (go_wp2_with fail; refine hK.out _ _ ?_ (fun hU1 => ?_)) | fail
            · exact Or.inr ⟨laterC t0 (Below.drew (below_alloc _ (Below.refl _ _))), laterC e0 (Below.drew (below_alloc _ (Below.refl _ _))), laterC e1 (Below.drew (below_alloc _ (Below.refl _ _))), laterC e2 (Below.drew (below_alloc _ (Below.refl _ _))), laterC e3 (Below.drew (below_alloc _ (Below.refl _ _)))⟩
            clear hK K
            clear hU0
            try simp only [Act.put, List.setIfInBounds_toArray, List.set_cons_zero, List.set_cons_succ]
            first | refine upto_next 7 rfl (by kernel_rfl) (fun K hK => ?_) | fail
            refine step_append_run rfl (.tmp 106) (.tmp 108) 28 rfl _ _ _ _ rfl rfl HRr ?_
            try go_simp
            first | refine hK.out _ _ ?_ (fun hU2 => ?_) | (go_wp2_with fail; refine hK.out _ _ ?_ (fun hU2 => ?_)) | fail
            · exact Or.inr ⟨m2, blk_cell hR9 rfl, blk_cell hR9 rfl, blk_cell hR9 rfl, blk_cell hR9 rfl⟩
            clear hK K
            clear hU1
            try simp only [Act.put, List.setIfInBounds_toArray, List.set_cons_zero, List.set_cons_succ]
            first | refine upto_run 8 (v := ?_) hU2 (by kernel_rfl) rfl (by kernel_rfl) (by kernel_rfl) (by kernel_rfl) (by kernel_rfl) (fun _ _ _ h => h) (Or.inl ⟨by rfl, ?_⟩) ?_ | fail
            rotate_left
            · first | (intro w _; go_simp; with_reducible rfl) | (intro w _; go_simp; done) | fail
            try simp only [Act.put, List.setIfInBounds_toArray, List.set_cons_zero, List.set_cons_succ]
            first | refine upto_run 9 (v := ?_) hU2 (by kernel_rfl) rfl (by kernel_rfl) (by kernel_rfl) (by kernel_rfl) (by kernel_rfl) (fun _ _ _ h => h) (Or.inl ⟨by rfl, ?_⟩) ?_ | fail
            rotate_left
            · first | (intro w _; go_simp; with_reducible rfl) | (intro w _; go_simp; done) | fail
            try simp only [Act.put, List.setIfInBounds_toArray, List.set_cons_zero, List.set_cons_succ]
            first | refine upto_next 10 rfl (by kernel_rfl) (fun K hK => ?_) | fail
            go_simp
            first | refine hK.out _ _ ?_ (fun hU3 => ?_) | (go_wp2_with fail; refine hK.out _ _ ?_ (fun hU3 => ?_)) | fail
            · exact Or.inl (by kernel_rfl)
            clear hK K
            clear hU2
            try simp only [Act.put, List.setIfInBounds_toArray, List.set_cons_zero, List.set_cons_succ]
            refine upto_done (by kernel_rfl) ?_ _
            obtain ⟨wz, hwz⟩ : ∃ wz, wz = w9.setCell ⟨p, 0, none⟩ (.slice A9 n9 c9) := ⟨_, rfl⟩
            rw [← hwz] at M5 M6 M7 ⊢
            have hb := M5.out.blk
            have b0 := blk_cell (i := 0) hb rfl
            have bl := blk_lt hb
            have hn9 : n9 ≤ 20 := by
              obtain ⟨A7, c7, e7, _⟩ := own_slice M5.out.own
              have h1 := M5.out.len
              simp only [Value.slice.injEq] at e7
              omega
            have HV := Lib.hid (show ∀ i : Int, AddV w B p (.returned (.tuple #[.int .i64 i, .int .i64 0])) wz from fun i => ⟨i, 0, _, _, _, rfl, HWF.out, M5.out, (HB8a.out.mono HB.out).trans ⟨M6.out.os, M6.out.tape, M6.out.output, M6.out.size, M6.out.block⟩, (KeptT.below HB8a.out).trans ((KeptT.below (Below.drew (Below.refl _ _))).trans M7.out)⟩)
            clear hwz hb
            go_wp2_with fail
            go_returns
            exact HV.out _
end Go.Proofs.Ytpcfibnnboenhaa
