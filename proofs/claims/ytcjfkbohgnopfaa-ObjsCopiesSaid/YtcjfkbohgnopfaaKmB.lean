/- Two objects of 80 bytes in a memory: what the machine makes of Make, Store, Load and Copy. No condition. -/
import Derived.Test.YtcjfkbohgnopfaaKmP
namespace Go.Proofs.Ytcjfkbohgnopfaa
open Go.RowKit
set_option linter.unusedVariables false
/-- contents by places: object k's bytes at 1000 k, tags at 1000 k + 100, pointers' parts at 1000 k + 200 -/
def kd (m : Nat) : IntKind := bif (m % 1000).blt 200 then .u8 else .i64
def row (c : Nat → Value) (a n : Nat) : List Value := (List.range n).map fun j => c (a + j)
def z80 : List Value := List.replicate 80 (.bool false)
def LSof (c : Nat → Value) : Lst :=
  [(0, [.slice (some ⟨14, 0, none⟩) 2 2], 45), (1, z80, 4), (2, row c 0 80, 5), (3, row c 100 80, 5), (4, row c 200 240, 35),
   (5, [.slice (some ⟨2, 0, none⟩) 80 80, .slice (some ⟨3, 0, none⟩) 80 80, .slice (some ⟨1, 0, none⟩) 80 80, .slice (some ⟨4, 0, none⟩) 80 80, .bool false], 50),
   (8, z80, 4), (9, row c 1000 80, 5), (10, row c 1100 80, 5), (11, row c 1200 240, 35),
   (12, [.slice (some ⟨9, 0, none⟩) 80 80, .slice (some ⟨10, 0, none⟩) 80 80, .slice (some ⟨8, 0, none⟩) 80 80, .slice (some ⟨11, 0, none⟩) 80 80, .bool false], 50),
   (14, [.pointer (some ⟨5, 0, none⟩), .pointer (some ⟨12, 0, none⟩)], 46)]
def sym (m : Nat) : Value := mark (kd m) ((m : Int) + 10)
def zeroC (m : Nat) : Value := .int (kd m) 0
def L0 : Lst := [(0, [.slice none 0 0], 45), (1, z80, 4)]
def L1 : Lst :=
  [(0, [.slice (some ⟨7, 0, none⟩) 1 1], 45), (1, z80, 4), (2, row zeroC 0 80, 5), (3, row zeroC 100 80, 5), (4, row zeroC 200 240, 35),
   (5, [.slice (some ⟨2, 0, none⟩) 80 80, .slice (some ⟨3, 0, none⟩) 80 80, .slice (some ⟨1, 0, none⟩) 80 80, .slice (some ⟨4, 0, none⟩) 80 80, .bool false], 50), (7, [.pointer (some ⟨5, 0, none⟩)], 46)]
def known : Know := [(symNode .eql .i64 (mark .i64 3) (mark .i64 3), .bool true), (symNode .neq .i64 (mark .i64 3) (mark .i64 3), .bool false)]
theorem known_ok (ρ : Int → Int) : KnowOk ρ known := by
  intro p hp
  simp only [known, List.mem_cons, List.not_mem_nil, or_false] at hp
  rcases hp with rfl | rfl
  · exact ⟨den_cmp rfl (den_mark _ _ _) (den_mark _ _ _) (by simp [evB2, evB]), rfl⟩
  · exact ⟨den_cmp rfl (den_mark _ _ _) (den_mark _ _ _) (by simp [evB2, evB]), rfl⟩
noncomputable def syK (ρ : Int → Int) : Sy Try.prog (den ρ) := Sy.objs ρ known (known_ok ρ)
def mp0 : Value := .pointer (some ⟨0, 0, none⟩)
def pat (k o : Nat) : Value := .agg #[.int .i64 1, .int .i64 (k : Nat), .int .i64 (o : Nat)]
def tyI : Value := .agg #[.int .i64 1, .int .i64 8, .bool true, .bool false, .pointer none, .int .i64 0, .int .i64 0, .slice none 0 0, .pointer none]
def tyQ : Value := .agg #[.int .i64 2, .int .i64 8, .bool false, .bool false, .pointer (some ⟨13, 0, none⟩), .int .i64 0, .int .i64 0, .slice none 0 0, .pointer none]
noncomputable def run1 (ρ : Int → Int) (f : Nat) (xs : List Value) (l : Lst) (N : Nat) (ok : Value → Bool) (l2 : Lst) (N2 : Nat) : Bool :=
  match vcall (syK ρ) 100000 60 0 f xs (wOf l N) with | some (v, W') => ok v && sameW W' N2 l2 | none => false
def isI (n : Int) : Value → Bool
  | .int .i64 m => decide (m = n)
  | _ => false
def isB (b : Bool) : Value → Bool
  | .bool c => c == b
  | _ => false
def vNum : Value := .agg #[mark .i64 2, .int .i64 0, .int .i64 0, .int .i64 0, .bool false]
def vPtr : Value := .agg #[.int .i64 0, .int .i64 1, .int .i64 1, mark .i64 3, .bool true]
theorem make1 (ρ : Int → Int) : run1 ρ 8 [mp0, .slice (some ⟨1, 0, none⟩) 80 80] L0 2 (isI 0) L1 8 = true := by kernel_rfl
theorem make2 (ρ : Int → Int) : run1 ρ 8 [mp0, .slice (some ⟨8, 0, none⟩) 80 80] ((8, z80, 4) :: L1) 9 (isI 1) (LSof zeroC) 15 = true := by kernel_rfl
/-- contents behind a store at word i of object 0 -/
def numC (c : Nat → Value) (i : Nat) (m : Nat) : Value := bif (m / 8).beq i then bN (m % 8) else bif (100 + 8 * i).ble m && m.blt (108 + 8 * i) then .int .u8 1 else c m
def inW (b w m : Nat) : Bool := b.ble m && m.blt (b + w)
def ptrC (c : Nat → Value) (i : Nat) (m : Nat) : Value :=
  bif inW (100 + 8 * i) 8 m then (bif m.beq (100 + 8 * i) then .int .u8 2 else .int .u8 3) else bif inW (200 + 24 * i) 24 m then (bif ((m - 200) % 3).beq 2 then mark .i64 3 else .int .i64 1) else c m
theorem stores_num (ρ : Int → Int) : (List.range 4).all (fun i => run1 ρ 9 [mp0, pat 0 (8 * i), tyI, vNum] (LSof sym) 15 (isB true) (LSof (numC sym i)) 15) = true := by kernel_rfl
theorem stores_ptr (ρ : Int → Int) : (List.range 4).all (fun i => run1 ρ 9 [mp0, pat 0 (8 * i), tyQ, vPtr] (LSof sym) 15 (isB true) (LSof (ptrC sym i)) 15) = true := by kernel_rfl
/-- contents behind the copy of 40 bytes from object 0 to place 40 of object k -/
def copC (c : Nat → Value) (k : Nat) (m : Nat) : Value :=
  bif inW (1000 * k + 40) 40 m || inW (1000 * k + 140) 40 m then c (m - 1000 * k - 40) else bif inW (1000 * k + 320) 120 m then c (m - 1000 * k - 120) else c m
theorem copies (ρ : Int → Int) : (List.range 2).all (fun k => run1 ρ 10 [mp0, pat k 40, pat 0 0, .int .i64 40] (LSof sym) 15 (isB true) (LSof (copC sym k)) 15) = true := by kernel_rfl
theorem copies_no (ρ : Int → Int) : (List.range 2).all (fun k => run1 ρ 10 [mp0, pat k 40, pat 0 0, .int .i64 41] (LSof sym) 15 (isB false) (LSof sym) 15 && run1 ρ 10 [mp0, pat k 40, pat 0 1, .int .i64 8] (LSof sym) 15 (isB false) (LSof sym) 15) = true := by kernel_rfl
/-- what is known of word i of object k -/
def noW (k i m : Nat) : Value := bif inW (1000 * k + 100 + 8 * i) 8 m then .int .u8 0 else sym m
def numW (k i m : Nat) : Value := bif inW (1000 * k + 8 * i) 8 m then bN ((m - 1000 * k) % 8) else bif inW (1000 * k + 100 + 8 * i) 8 m then .int .u8 1 else sym m
def ptrW (k i m : Nat) : Value :=
  bif inW (1000 * k + 100 + 8 * i) 8 m then (bif m.beq (1000 * k + 100 + 8 * i) then .int .u8 2 else .int .u8 3) else bif inW (1000 * k + 200 + 24 * i) 24 m then (bif ((m - 1000 * k - 200) % 3).beq 2 then mark .i64 3 else .int .i64 1) else sym m
def got8 : Value := symNode .shr .i64 (symNode .shl .i64 (cv .i64 (acc 8)) (.int .i64 0)) (.int .i64 0)
def resV (x : Value) (q0 q1 q2 : Value) (p ok : Bool) : Value := .tuple #[.agg #[x, q0, q1, q2, .bool p], .bool ok]
def zI : Value := .int .i64 0
def isRes (x q0 q1 q2 : Value) (p ok : Bool) : Value → Bool
  | .tuple ⟨[.agg ⟨[y, r0, r1, r2, .bool p']⟩, .bool ok']⟩ => sameV y x && (sameV r0 q0 && (sameV r1 q1 && (sameV r2 q2 && (p' == p && ok' == ok))))
  | _ => false
def loadOf (k i : Nat) (t : Value) : List Value := [mp0, pat k (8 * i), t]
theorem loads_no (ρ : Int → Int) : (List.range 2).all (fun k => (List.range 4).all fun i => run1 ρ 11 (loadOf k (5 + i) tyI) (LSof (noW k (5 + i))) 15 (isRes zI zI zI zI false false) (LSof (noW k (5 + i))) 15 && run1 ρ 11 (loadOf k (5 + i) tyQ) (LSof (noW k (5 + i))) 15 (isRes zI zI zI zI false false) (LSof (noW k (5 + i))) 15) = true := by kernel_rfl
theorem loads_num (ρ : Int → Int) : (List.range 2).all (fun k => (List.range 4).all fun i => run1 ρ 11 (loadOf k (5 + i) tyI) (LSof (numW k (5 + i))) 15 (isRes got8 zI zI zI false true) (LSof (numW k (5 + i))) 15 && run1 ρ 11 (loadOf k (5 + i) tyQ) (LSof (numW k (5 + i))) 15 (isRes zI zI zI zI false false) (LSof (numW k (5 + i))) 15) = true := by kernel_rfl
theorem loads_ptr (ρ : Int → Int) : (List.range 2).all (fun k => (List.range 4).all fun i => run1 ρ 11 (loadOf k (5 + i) tyI) (LSof (ptrW k (5 + i))) 15 (isRes zI zI zI zI false false) (LSof (ptrW k (5 + i))) 15 && run1 ρ 11 (loadOf k (5 + i) tyQ) (LSof (ptrW k (5 + i))) 15 (isRes zI (.int .i64 1) (.int .i64 1) (mark .i64 3) true true) (LSof (ptrW k (5 + i))) 15) = true := by kernel_rfl
end Go.Proofs.Ytcjfkbohgnopfaa
