/- MemCopies: the law walked. No condition. -/
import Derived.Test.YthkaachgfiljmaaMcq
namespace Go.Proofs.Ythkaachgfiljmaa
open Go.RowKit
set_option linter.unusedVariables false
set_option maxHeartbeats 4000000
theorem Try.infoU8 : (Try.prog.info? 5).map (fun i => (i.zero, i.size, i.bytes)) = some (some (.int .u8 0), 1, 1) := by kernel_rfl
theorem info_parts {o : Option TypeInfo} {z : Value} {a b : Nat} (h : o.map (fun i => (i.zero, i.size, i.bytes)) = some (some z, a, b)) : ∃ i, o = some i ∧ i.zero = some z ∧ i.size = a ∧ i.bytes = b := by
  cases o with
  | none => cases h
  | some i => simp at h; exact ⟨i, rfl, h.1, h.2.1, h.2.2⟩
theorem flat_bytes : ∀ (css : List (List Value)) (data : List Int), css.length = data.length → (∀ (i : Nat) cs x, css[i]? = some cs → data[i]? = some x → ByteR cs x) → css.flatten = data.map (Value.int .u8)
  | [], [], _, _ => rfl
  | c :: css, x :: data, h, hR => by
    rw [List.flatten_cons, List.map_cons, flat_bytes css data (by simpa using h) (fun i cs y h1 h2 => hR (i + 1) cs y (by simpa using h1) (by simpa using h2)), (hR 0 c x rfl rfl).1]
    rfl
theorem bytes_at (data : List Int) (hd : ∀ (j : Nat) x, data[j]? = some x → 0 ≤ x ∧ x ≤ 255) (i : Nat) (hi : i < data.length + 1) :
    (data.map (Value.int .u8) ++ [.int .u8 0])[i]? = some (.int .u8 ((data ++ [0]).getD i 0)) ∧ 0 ≤ (data ++ [0]).getD i 0 ∧ (data ++ [0]).getD i 0 ≤ 255 := by
  rw [show data.map (Value.int .u8) ++ [.int .u8 0] = (data ++ [0]).map (Value.int .u8) by simp, List.getElem?_map, List.getD_eq_getElem?_getD]
  have hlt : i < (data ++ [0]).length := by simpa using hi
  rw [List.getElem?_eq_getElem hlt]
  refine ⟨rfl, ?_⟩
  simp only [Option.getD_some]
  by_cases h : i < data.length
  · rw [List.getElem_append_left h]; exact hd i _ (List.getElem?_eq_getElem h)
  · rw [List.getElem_append_right (by omega)]; simp
theorem wpList_append_run {P : Program} (w : World) {ops : Array Oper} {rest : List Oper} {o : Oper} {a : Act} {Q : Exit → Act → World → Prop} (hgd : o.guard = none) (s x : Operand) (t : TypeId)
    (ho : o.op = .call { callee := .builtin .append, args := #[s, x], argTypes := #[t, t] }) (v u v' : Value) (w' : World) (hs : a.eval s = v) (hx : a.eval x = u)
    (hr : (Builtin.append_ #[t, t] o.type #[v, u]).run P w = .ok v' w') (h : wpList P ops Q rest (a.put o.dst v') w') : wpList P ops Q (o :: rest) a w :=
  wpList_plain hgd fun _ hK => by
    unfold Oper.wp execOp
    simp only [ho, resolve, invoke, builtin, Sem.run_bind, Sem.run_pure, Result.andThen_ok, List.map_toArray, List.map_cons, List.map_nil, hs, hx, hr]
    exact hK _ _ h
/-- the same, where the operation is guarded and wanted -/
theorem wpList_append_if {P : Program} (w : World) {ops : Array Oper} {rest : List Oper} {o : Oper} {a : Act} {Q : Exit → Act → World → Prop} (hw : Region.wanted o (yielded ops a.tmps) = true) (s x : Operand) (t : TypeId)
    (ho : o.op = .call { callee := .builtin .append, args := #[s, x], argTypes := #[t, t] }) (v u v' : Value) (w' : World) (hs : a.eval s = v) (hx : a.eval x = u)
    (hr : (Builtin.append_ #[t, t] o.type #[v, u]).run P w = .ok v' w') (h : wpList P ops Q rest (a.put o.dst v') w') : wpList P ops Q (o :: rest) a w :=
  BigFrame.wpList_want hw fun _ hK => by
    unfold Oper.wp execOp
    simp only [ho, resolve, invoke, builtin, Sem.run_bind, Sem.run_pure, Result.andThen_ok, List.map_toArray, List.map_cons, List.map_nil, hs, hx, hr]
    exact hK _ _ h
theorem load_in (n : Int) (f : Int → Int) (a k : Int) (hf : ∀ x, 0 ≤ f x ∧ f x ≤ 255) : InU64 (loadS n f a k).1 := by
  unfold loadS
  cases h : hasS n a k with
  | false => show InU64 0; exact ⟨by decide, by decide⟩
  | true =>
    unfold hasS at h
    have h := of_decide_eq_true h
    obtain ⟨h1, h2⟩ := ldV_in f a hf k.toNat
    simp only [if_true]
    have : (2 : Int) ^ (8 * k.toNat) ≤ 18446744073709551616 := by
      have hc : k.toNat = 0 ∨ k.toNat = 1 ∨ k.toNat = 2 ∨ k.toNat = 3 ∨ k.toNat = 4 ∨ k.toNat = 5 ∨ k.toNat = 6 ∨ k.toNat = 7 ∨ k.toNat = 8 := by omega
      rcases hc with e | e | e | e | e | e | e | e | e <;> rw [e] <;> decide
    exact ⟨h1, by omega⟩
theorem copies_back (n : Int) (f : Int → Int) (a k v : Int) (hf : ∀ x, 0 ≤ f x ∧ f x ≤ 255) : storeS n (storeS n f a k v) a k (loadS n f a k).1 = f := by
  unfold storeS loadS
  cases h : hasS n a k with
  | false => simp
  | true =>
    simp only [if_true]
    funext x
    exact st_back f a v k.toNat hf x
theorem copies_same (n : Int) (f : Int → Int) (a k v : Int) (hf : ∀ x, 0 ≤ f x ∧ f x ≤ 255) :
    (hasS n a k = false → ∀ x, f x = storeS n f a k v x) ∧ (hasS n a k = true → ((∀ x, f x = storeS n f a k v x) ↔ (loadS n (storeS n f a k v) a k).1 = (loadS n f a k).1)) := by
  unfold storeS loadS
  constructor
  · intro h; rw [h]; intro x; rfl
  · intro h
    rw [h]
    simp only [if_true]
    exact st_same f a v k.toNat hf
set_option maxRecDepth 100000 in
theorem copies_law (w : World) (vd vl : Value) (data : List Int) (l : List CallD) (c : CallD) (hd : SlR w 1 ByteR vd data) (hl : SlR w 5 CallR vl l) (hdl : data.length ≤ 140737488351232) (hll : l.length ≤ 140737488351232) (hc : In64 c.n ∧ InU64 c.v) :
    Calls Try.prog 5 #[vd, vl, .agg #[.int .i64 c.kind, .int .i64 c.base, .int .i64 c.off, .int .i64 c.n, .int .u64 c.v]] w fun e w' => e = .returned (.bool true) ∧ Below w.heap.size w w' := by
  obtain ⟨A1, cap1, rfl, h11, h12, h13⟩ := hd
  obtain ⟨A2, cap2, rfl, h21, h22, h23⟩ := hl
  have H1 := Lib.hid (show SlR w 1 ByteR (.slice A1 data.length cap1) data from ⟨A1, cap1, rfl, h11, h12, h13⟩)
  have H2 := Lib.hid (show SlR w 5 CallR (.slice A2 l.length cap2) l from ⟨A2, cap2, rfl, h21, h22, h23⟩)
  have HLD := Lib.hid hdl
  clear h11 h12 h13 h21 h22 h23 hdl
  go_enter Try.func5, Try.ntmps5
  go_wp2_with fail
  have kbA : Below w.heap.size w (w.alloc (Obj.cells #[.int .i64 c.kind, .int .i64 c.base, .int .i64 c.off, .int .i64 c.n, .int .u64 c.v] 36)) := below_alloc _ (Below.refl _ _)
  refine (mem_fit _).mono ?_
  rintro e w1 ⟨rfl, kb1⟩
  have k1 := blk_below (blk_new w _) kb1
  have kb1 := kbA.bt kb1
  have HB1 := Lib.hid kb1
  have HK1 := Lib.hid k1
  clear kbA kb1 k1
  by_cases hbig : 70000 < data.length
  · go_wp2_with fail
    go_returns
    exact ⟨rfl, HB1.out⟩
  by_cases hbig2 : 300 < l.length
  · go_wp2_with fail
    go_returns
    exact ⟨rfl, HB1.out⟩
  obtain ⟨n, hn⟩ : ∃ n, n = min data.length 65536 := ⟨_, rfl⟩
  have hmin : ∀ w, (Builtin.min_ #[3, 3] 3 #[.int .i64 data.length, .int .i64 65536]).run Try.prog w = .ok (.int .i64 n) w := by
    intro w
    subst hn
    by_cases hlen : data.length ≤ 65536
    · rw [Nat.min_eq_left hlen]
      exact min_le w data.length (by omega)
    · rw [Nat.min_eq_right (by omega)]
      exact min_gt w data.length (by omega)
  obtain ⟨f0, hnew⟩ := new_of w1 (.slice A1 data.length cap1) data (H1.out.later (by decide) HB1.out)
  rw [← hn] at hnew
  have HNW := Lib.hid hnew
  have HN := Lib.hid hn
  clear hnew hn
  go_wp2_with fail
  refine HNW.out.mono ?_
  rintro e w2 ⟨ba, S0, rfl, hm0, hs0, kb2⟩
  have HM0 := Lib.hid hm0
  have HS0 := Lib.hid hs0
  have HB2 := Lib.hid kb2
  clear HNW hm0 hs0 kb2
  go_wp2_with fail
  go_loopw [36] (fun i wr => ∃ (k : Nat) (f : Int → Int) (S : Nat → Prop), k ≤ l.length ∧ i = .int .i64 k ∧ Mem wr ba (n : Int) f S ∧ (∀ j, S j → w1.heap.size ≤ j) ∧ Below w1.heap.size w1 wr) (fun i _ => l.length - (intOf i).toNat)
  case atStart => exact ⟨0, f0, S0, by omega, rfl, HM0.out, HS0.out, HB2.out⟩
  case round =>
    obtain ⟨k, f, S, hk, rfl, hm, hs, kbr⟩ := hrel
    by_cases hlt : k < l.length
    · obtain ⟨x, hx⟩ : ∃ x, l[k]? = some x := ⟨_, List.getElem?_eq_getElem hlt⟩
      obtain ⟨A, cap, e1, e2, e3, e4⟩ := (H2.out.later (by decide) HB1.out).later (by decide) kbr
      simp only [Value.slice.injEq] at e1
      obtain ⟨rfl, _, rfl⟩ := e1
      obtain ⟨b, o, cs, rfl, g2, g3, g4⟩ := e4 k x hx
      obtain ⟨rfl, n1, n2, n3, n4, n5⟩ := g4
      have hb := g3 0 (by decide)
      have z0 : wr.cell? ⟨b, o + k * 5, none⟩ = some (.int .i64 x.kind) := g3 0 (by decide)
      have z1 : wr.cell? ⟨b, o + k * 5 + 1, none⟩ = some (.int .i64 x.base) := g3 1 (by decide)
      have z2 : wr.cell? ⟨b, o + k * 5 + 2, none⟩ = some (.int .i64 x.off) := g3 2 (by decide)
      have z3 : wr.cell? ⟨b, o + k * 5 + 3, none⟩ = some (.int .i64 x.n) := g3 3 (by decide)
      have z4 : wr.cell? ⟨b, o + k * 5 + 4, none⟩ = some (.int .u64 x.v) := g3 4 (by decide)
      obtain ⟨a, ha, hat⟩ := at_any x n
      obtain ⟨W2, hW2⟩ : ∃ W2, W2 = wr.alloc (.cells #[.int .i64 x.kind, .int .i64 x.base, .int .i64 x.off, .int .i64 x.n, .int .u64 x.v] 36) := ⟨_, rfl⟩
      have HM := Lib.hid hm
      have HS := Lib.hid hs
      have HBR := Lib.hid kbr
      have HAT := Lib.hid hat
      have HA := Lib.hid ha
      have HX := Lib.hid (show In64 x.n ∧ InU64 x.v from ⟨n4, n5⟩)
      clear hb g3 e4 e2 e3 g2 hx hm hs kbr hat ha n1 n2 n3 n4 n5
      go_wp2_with fail
      rw [← hW2]
      have hb2 : Below wr.heap.size wr W2 := by rw [hW2]; exact below_alloc _ (Below.refl _ _)
      have kx : W2.heap[wr.heap.size]? = some (.cells #[.int .i64 x.kind, .int .i64 x.base, .int .i64 x.off, .int .i64 x.n, .int .u64 x.v] 36 (0, 0)) := by rw [hW2]; exact blk_new _ _
      have y0 : W2.cell? ⟨wr.heap.size, 0, none⟩ = some (.int .i64 x.kind) := blk_cell kx rfl
      have y1 : W2.cell? ⟨wr.heap.size, 1, none⟩ = some (.int .i64 x.base) := blk_cell kx rfl
      have y2 : W2.cell? ⟨wr.heap.size, 2, none⟩ = some (.int .i64 x.off) := blk_cell kx rfl
      have y3 : W2.cell? ⟨wr.heap.size, 3, none⟩ = some (.int .i64 x.n) := blk_cell kx rfl
      have y4 : W2.cell? ⟨wr.heap.size, 4, none⟩ = some (.int .u64 x.v) := blk_cell kx rfl
      have yl := blk_lt kx
      have HW2 := Lib.hid hb2
      clear hW2 hb2 kx z0 z1 z2 z3 z4
      refine wp_region_over_tail 8 (by kernel_rfl) (by kernel_rfl) ?_
      simp only [List.take_succ_cons, List.take_zero, List.drop_succ_cons, List.drop_zero]
      repeat (go_big_quiet_step ((go_at_call 12; exact calls_over (by exact Nat.le_refl _) (HAT.out _))))
      refine wpQuiet_nil ?_
      intro w3 kb3
      have HM3 := Lib.hid ((HM.out.below HW2.out).below kb3)
      have HB3 := Lib.hid (HW2.out.bt kb3)
      clear kb3 y0 y1 y2 y3 y4 yl
      go_wp2_with fail
      refine (store_any w3 ba n f S a x.n x.v HM3.out (by have := HN.out; omega) HA.out HX.out.1 HX.out.2).mono ?_
      rintro e w4 ⟨rfl, S4, hm4, hs4, ho4⟩
      have HM4 := Lib.hid hm4
      have HS4 := Lib.hid hs4
      have HO4 := Lib.hid ho4
      clear hm4 hs4 ho4
      go_wp2_with fail
      go_roundw
      case rel =>
        have hz := HBR.out.size
        have hz3 := HB3.out.size
        exact ⟨k + 1, _, S4, by omega, by go_num, HM4.out, fun j hj => by
          rcases HS4.out j hj with h | h
          · exact HS.out j h
          · omega, (HBR.out.bt HB3.out).trans (HO4.out.below (by omega) (fun j hj => HS.out j hj))⟩
      case measure => simp [intOf]; omega
    · have e : k = l.length := by omega
      subst e
      have HM := Lib.hid hm
      have HS := Lib.hid hs
      have HBR := Lib.hid kbr
      clear hm hs kbr
      go_wp2_with fail
      refine (copy_any wr ba n f S HM.out).mono ?_
      rintro e w3 ⟨bb, Sb, rfl, hmb, hsb, kb3⟩
      have HMB := Lib.hid hmb
      have HSB := Lib.hid hsb
      have HMA := Lib.hid (HM.out.below kb3)
      have HBB := Lib.hid (HBR.out.bt kb3)
      have HSL := Lib.hid (show ∀ k, S k → k < wr.heap.size from HM.out.lt)
      clear hmb hsb kb3
      go_wp2_with fail
      refine (equal_any w3 ba bb n n f f S Sb HMA.out HMB.out).mono ?_
      rintro e w4 ⟨r, rfl, hr, kb4⟩
      obtain rfl : r = true := hr.2 ⟨rfl, fun _ => rfl⟩
      have HMA := Lib.hid (HMA.out.below kb4)
      have HMB := Lib.hid (HMB.out.below kb4)
      have HBB := Lib.hid (HBB.out.bt kb4)
      clear hr kb4
      go_wp2_with fail
      refine (equal_any w4 bb ba n n f f Sb S HMB.out HMA.out).mono ?_
      rintro e w5 ⟨r, rfl, hr, kb5⟩
      obtain rfl : r = true := hr.2 ⟨rfl, fun _ => rfl⟩
      have HMA := Lib.hid (HMA.out.below kb5)
      have HMB := Lib.hid (HMB.out.below kb5)
      have HBB := Lib.hid (HBB.out.bt kb5)
      clear hr kb5
      have KC := Lib.hid (blk_below HK1.out HBB.out)
      have y0 : w5.cell? ⟨w.heap.size, 0, none⟩ = some (.int .i64 c.kind) := blk_cell KC.out rfl
      have y1 : w5.cell? ⟨w.heap.size, 1, none⟩ = some (.int .i64 c.base) := blk_cell KC.out rfl
      have y2 : w5.cell? ⟨w.heap.size, 2, none⟩ = some (.int .i64 c.off) := blk_cell KC.out rfl
      have y3 : w5.cell? ⟨w.heap.size, 3, none⟩ = some (.int .i64 c.n) := blk_cell KC.out rfl
      have y4 : w5.cell? ⟨w.heap.size, 4, none⟩ = some (.int .u64 c.v) := blk_cell KC.out rfl
      obtain ⟨a, ha, hat⟩ := at_any c n
      have HA := Lib.hid ha
      have HAT := Lib.hid hat
      clear ha hat
      go_wp2_with fail
      refine (HAT.out w5).mono ?_
      rintro e w6 ⟨rfl, kb6⟩
      have HMA := Lib.hid (HMA.out.below kb6)
      have HMB := Lib.hid (HMB.out.below kb6)
      have HBB := Lib.hid (HBB.out.bt kb6)
      have KC := Lib.hid (blk_below KC.out kb6)
      clear y0 y1 y2 y3 y4 kb6
      have y3 : w6.cell? ⟨w.heap.size, 3, none⟩ = some (.int .i64 c.n) := blk_cell KC.out rfl
      have y4 : w6.cell? ⟨w.heap.size, 4, none⟩ = some (.int .u64 c.v) := blk_cell KC.out rfl
      go_wp2_with fail
      obtain ⟨old, hold⟩ : ∃ z, (loadS (n : Int) f a c.n).1 = z := ⟨_, rfl⟩
      obtain ⟨ok, hok⟩ : ∃ z, hasS (n : Int) a c.n = z := ⟨_, rfl⟩
      have hok2 : (loadS (n : Int) f a c.n).2 = ok := by rw [← hok]; unfold loadS; cases hasS (n : Int) a c.n <;> rfl
      have LA := Lib.hid (fun W (h : Mem W ba (n : Int) f S) => load_any W ba n f S a c.n h (by have := HN.out; omega) HA.out hc.1)
      simp only [hold, hok2] at LA
      obtain ⟨fb, hfb⟩ : ∃ z, storeS (n : Int) f a c.n c.v = z := ⟨_, rfl⟩
      have SB := Lib.hid (store_any w6 bb n f Sb a c.n c.v HMB.out (by have := HN.out; omega) HA.out hc.1 hc.2)
      simp only [hfb, hok] at SB
      obtain ⟨now, hnow⟩ : ∃ z, (loadS (n : Int) fb a c.n).1 = z := ⟨_, rfl⟩
      have hok3 : (loadS (n : Int) fb a c.n).2 = ok := by rw [← hok]; unfold loadS; cases hasS (n : Int) a c.n <;> rfl
      have LB := Lib.hid (fun W S' (h : Mem W bb (n : Int) fb S') => load_any W bb n fb S' a c.n h (by have := HN.out; omega) HA.out hc.1)
      simp only [hnow, hok3] at LB
      have hbyte := fun x => mem_byte HMA.out x
      have holdin : InU64 old := by rw [← hold]; exact load_in (n : Int) f a c.n hbyte
      have HSB2 := Lib.hid (fun W S' (h : Mem W bb (n : Int) fb S') => store_any W bb n fb S' a c.n old h (by have := HN.out; omega) HA.out hc.1 holdin)
      have hback : storeS (n : Int) fb a c.n old = f := by
        rw [← hfb, ← hold]; exact copies_back (n : Int) f a c.n c.v hbyte
      rw [hback] at HSB2
      have HEQ : Hid (∀ r : Bool, (r = true ↔ ∀ x, f x = fb x) → (ok = false → r = true) ∧ (ok = true → (now == old) = r)) := Lib.hid (fun r hr => by
        have := copies_same (n : Int) f a c.n c.v hbyte
        rw [hfb, hok, hnow, hold] at this
        exact ⟨fun h => hr.2 (this.1 h), fun h => by
          rw [Bool.eq_iff_iff, hr]
          simp only [beq_iff_eq]
          exact (this.2 h).symm⟩)
      clear hold hok hok2 hfb hnow hok3 hbyte holdin hback
      refine (LA.out w6 HMA.out).mono ?_
      rintro e w6' ⟨rfl, rfl⟩
      go_wp2_with fail
      refine SB.out.mono ?_
      rintro e w7 ⟨rfl, S7, hm7, hs7, ho7⟩
      have zz := HBR.out.size
      have hself := HMB.out.self
      have hwlt : w.heap.size < w1.heap.size := blk_lt HK1.out
      have HMA := Lib.hid (HMA.out.keep ho7 (fun k h1 h2 => by have := HSL.out k h1; have := HSB.out k h2; omega))
      have HMB := Lib.hid hm7
      have KC := Lib.hid (blk_only KC.out ho7 (fun h => by have := HSB.out _ h; omega))
      have HBB := Lib.hid (HBB.out.trans (ho7.below (by have := HBB.out.size; omega) (fun k hk => by have := HSB.out k hk; omega)))
      have HS7 := Lib.hid (show ∀ k, S7 k → wr.heap.size ≤ k from fun k hk => by
        rcases hs7 k hk with h | h
        · exact HSB.out k h
        · have h1 := HSB.out bb hself.1; have h2 := hself.2; omega)
      clear hm7 hs7 ho7 y3 y4
      have y3 : w7.cell? ⟨w.heap.size, 3, none⟩ = some (.int .i64 c.n) := blk_cell KC.out rfl
      go_wp2_with fail
      refine (LB.out w7 S7 HMB.out).mono ?_
      rintro e w7' ⟨rfl, rfl⟩
      go_wp2_with fail
      refine (LA.out w7 HMA.out).mono ?_
      rintro e w7' ⟨rfl, rfl⟩
      go_upto_region 20 with fail
      go_cut [111] (fun z wx => z = .bool false ∧ Mem wx ba (n : Int) f S ∧ Mem wx bb (n : Int) fb S7 ∧ Below w1.heap.size w1 wx ∧ wx.heap[w.heap.size]? = some (.cells #[.int .i64 c.kind, .int .i64 c.base, .int .i64 c.off, .int .i64 c.n, .int .u64 c.v] 36 (0, 0)))
      case first =>
        have hne : (old != old) = false := by simp
        go_wp2_with fail
        refine (equal_any w7 ba bb n n f fb S S7 HMA.out HMB.out).mono ?_
        rintro e w8 ⟨r, rfl, hr, kb8⟩
        have HR := Lib.hid (HEQ.out r ⟨fun h => (hr.1 h).2, fun h => hr.2 ⟨rfl, h⟩⟩)
        have HFI := Lib.hid (show Mem w8 ba (n : Int) f S ∧ Mem w8 bb (n : Int) fb S7 ∧ Below w1.heap.size w1 w8 ∧ w8.heap[w.heap.size]? = some (.cells #[.int .i64 c.kind, .int .i64 c.base, .int .i64 c.off, .int .i64 c.n, .int .u64 c.v] 36 (0, 0)) from ⟨HMA.out.below kb8, HMB.out.below kb8, HBB.out.bt kb8, blk_below KC.out kb8⟩)
        clear hr kb8 y3
        cases ok with
        | false =>
          obtain rfl : r = true := HR.out.1 rfl
          go_wp2_with fail
          go_meet
          exact ⟨rfl, HFI.out⟩
        | true =>
          have hd : (now == old) = r := HR.out.2 rfl
          have hrr : (r != r) = false := by simp
          go_wp2_with fail
          go_meet
          exact ⟨rfl, HFI.out⟩
      case rest =>
        obtain ⟨hc1, hc2, hc3, hc4, hc5⟩ := hcut
        subst hc1
        have HMA := Lib.hid hc2
        have HMB := Lib.hid hc3
        have HBB := Lib.hid hc4
        have KC := Lib.hid hc5
        clear hc2 hc3 hc4 hc5 y3
        have y3 : wc.cell? ⟨w.heap.size, 3, none⟩ = some (.int .i64 c.n) := blk_cell KC.out rfl
        go_wp2_with fail
        refine (HSB2.out wc S7 HMB.out).mono ?_
        rintro e w9 ⟨rfl, S9, hm9, hs9, ho9⟩
        have hself := HMB.out.self
        have zz3 := HBR.out.size
        have HMA := Lib.hid (HMA.out.keep ho9 (fun k h1 h2 => by have := HSL.out k h1; have := HS7.out k h2; omega))
        have HMB := Lib.hid hm9
        have HBB := Lib.hid (HBB.out.trans (ho9.below (by have := HBB.out.size; omega) (fun k hk => by have := HS7.out k hk; omega)))
        clear hm9 hs9 ho9 y3 hself zz3 KC
        go_wp2_with fail
        refine (equal_any w9 bb ba n n f f S9 S HMB.out HMA.out).mono ?_
        rintro e wE ⟨r, rfl, hr, kbE⟩
        obtain rfl : r = true := hr.2 ⟨rfl, fun _ => rfl⟩
        have HMA := Lib.hid (HMA.out.below kbE)
        have HBB := Lib.hid (HBB.out.bt kbE)
        clear hr kbE
        go_wp2_with fail
        refine (equal_nil wE ba).mono ?_
        rintro e wE' ⟨rfl, rfl⟩
        go_wp2_with fail
        refine (equal_nils wE).mono ?_
        rintro e wE' ⟨rfl, rfl⟩
        have HN0 := HN.out
        by_cases hfull : n = 65536
        · have hnn : ((n : Int) == 65536) = true := by rw [hfull]; rfl
          go_wp2_with fail
          go_returns
          exact ⟨rfl, HB1.out.bt HBB.out⟩
        · have hnn : ((n : Int) == 65536) = false := by rw [beq_eq_false_iff_ne]; omega
          have hnl : n = data.length := by omega
          have hn6 : n < 65536 := by omega
          obtain ⟨i0, hi, hz0, hz1, hz2⟩ := info_parts Try.infoU8
          have hS := H1.out.later (by decide) (HB1.out.bt HBB.out)
          obtain ⟨v1, wA, css, hrA, hown, hcl, hce, hcR, hbA⟩ := copy_row (P := Try.prog) 27 5 i0 _ _ Try.underlying27 hi hz0 hz1 hz2 rfl (by decide) hS (fun cs x h u hu => by obtain ⟨rfl, _⟩ := h; rw [List.mem_singleton.1 hu]; rfl) (by unfold maxLen; omega) (by omega)
          obtain ⟨v2, wB, hrB, hownB, hgB, hmB⟩ := append_one (P := Try.prog) (w := wA) wE.heap.size 27 5 i0 _ _ Try.underlying27 hi hz0 hz1 hz2 rfl v1 data.length css.flatten hown (.int .u8 0) wA.heap.size rfl rfl (by unfold maxLen; omega) (by omega) hbA.size
          rw [flat_bytes css data hcl hcR] at hownB
          have hbB : Below wE.heap.size wE wB := below_of_grown hbA (Nat.le_refl _) hgB (fun k hk => (hown.lt k hk).1)
          obtain ⟨gB, capB, rfl, hB1, hB2, hB3, hB4⟩ := own_form hownB (by omega)
          have hNew := new_walk wB gB 0 capB (data.length + 1) (data.length + 1) (fun i => (data ++ [0]).getD i 0) (by omega) hB1 (by unfold maxLen at hB2; omega) hB4 (fun i hi => by
            have := hownB.cellAt i (by omega)
            rw [Nat.zero_add, this]
            exact bytes_at data (fun j x hx => by
              obtain ⟨_, _, _, _, _, hSe⟩ := hS
              obtain ⟨b, o, cs, _, _, _, _, h⟩ := hSe j x hx
              exact h) i hi)
          have hcap : data.length ≤ cap1 := by obtain ⟨_, _, e, h, _⟩ := hS; simp only [Value.slice.injEq] at e; omega
          have HNW := Lib.hid hNew
          have HRA := Lib.hid hrA
          have HRB := Lib.hid hrB
          have HBB2 := Lib.hid hbB
          clear hNew hrA hrB hbB hown hownB hcl hce hcR hbA hgB hmB hB1 hB2 hB3 hB4 hS hi hz0 hz1 hz2 HN0
          subst hnl
          go_wp2_with (first | (at_builtin; refine wpList_append_if _ (by rfl) _ _ _ rfl _ _ _ _ rfl rfl HRA.out ?_) | (at_builtin; refine wpList_append_if _ (by rfl) _ _ _ rfl _ _ _ _ rfl rfl HRB.out ?_))
          refine HNW.out.mono ?_
          rintro e w10 ⟨bN, SN, rfl, hmN, hsN, kbN⟩
          have HMA := Lib.hid (HMA.out.below (HBB2.out.bt kbN))
          have HBF := Lib.hid (HBB.out.bt (HBB2.out.bt kbN))
          have HMN := Lib.hid hmN
          clear hmN hsN kbN
          go_wp2_with fail
          refine (equal_any w10 ba bN _ _ f _ S SN HMA.out HMN.out).mono ?_
          rintro e w11 ⟨r, rfl, hr, kb11⟩
          obtain rfl : r = false := by
            cases r with
            | false => rfl
            | true => have := (hr.1 rfl).1; omega
          have HBF := Lib.hid (HBF.out.bt kb11)
          clear hr kb11
          go_wp2_with fail
          go_returns
          exact ⟨rfl, HB1.out.bt HBF.out⟩
end Go.Proofs.Ythkaachgfiljmaa
