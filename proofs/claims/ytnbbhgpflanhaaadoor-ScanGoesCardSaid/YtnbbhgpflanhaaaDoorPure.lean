/- Plain facts on words: what the decoders compute, in numbers alone. No program in sight. -/
import Derived.Laws.BitsLemmas
import Derived.RowKit
namespace Go.Proofs.YtnbbhgpflanhaaaDoor
open Go.RowKit

/-! ### bits of words -/
theorem wraps_u32 (n : Int) (h0 : 0 ≤ n) (h1 : n < 2 ^ 32) : IntKind.u32.wrap n = n := by
  rw [IntKind.wrap_u32]; omega
theorem and_mask (x : Int) (h0 : 0 ≤ x) (h1 : x < 4294967296) (i : Nat) (hi : i ≤ 32) : bits .and .u32 x (2 ^ i - 1) = x % 2 ^ i :=
  bits_mask .u32 32 (by decide) wraps_u32 i hi x h0 (by omega)
theorem or_join (i : Nat) (x y : Int) (h0 : 0 ≤ x) (hx : x % 2 ^ i = 0) (h1 : x < 4294967296) (k0 : 0 ≤ y) (k1 : y < 2 ^ i) (k2 : y < 4294967296) :
    bits .or .u32 x y = x + y := bits_join .u32 32 (by decide) wraps_u32 i x y h0 hx (by omega) k0 k1 (by omega)
theorem and_nat (a b : Nat) (ha : a < 4294967296) (hb : b < 4294967296) : bits .and .u32 a b = ((a &&& b : Nat) : Int) :=
  (bits_nat .u32 32 (by decide) wraps_u32 a b (by omega) (by omega)).1
theorem nat_and_join (a i m n : Nat) (hn : n < 2 ^ i) : a &&& (2 ^ i * m + n) = 2 ^ i * ((a / 2 ^ i) &&& m) + (a &&& n) := by
  have h1 : 2 ^ i * m + n = (2 ^ i * m) ||| n := Nat.two_pow_add_eq_or_of_lt hn m
  have h2 : a &&& n < 2 ^ i := Nat.lt_of_le_of_lt Nat.and_le_right hn
  rw [h1, Nat.and_or_distrib_left, Nat.two_pow_add_eq_or_of_lt h2]
  congr 1
  apply Nat.eq_of_testBit_eq
  intro j
  simp only [Nat.testBit_and, Nat.testBit_two_pow_mul, Nat.testBit_div_two_pow]
  by_cases hj : i ≤ j
  · simp [hj]
  · simp [hj]
theorem nat_and_707f (a : Nat) : a &&& 0x707f = 4096 * (a / 4096 % 8) + a % 128 := by
  have h := nat_and_join a 12 7 127 (by decide)
  have e : (2 : Nat) ^ 12 * 7 + 127 = 0x707f := by decide
  rw [e] at h
  rw [h, show (7 : Nat) = 2 ^ 3 - 1 by decide, show (127 : Nat) = 2 ^ 7 - 1 by decide, Nat.and_two_pow_sub_one_eq_mod, Nat.and_two_pow_sub_one_eq_mod]
theorem nat_and_fe (a : Nat) (ha : a < 4294967296) : a &&& 0xfe00707f = 33554432 * (a / 33554432) + (4096 * (a / 4096 % 8) + a % 128) := by
  have h := nat_and_join a 25 127 0x707f (by decide)
  have e : (2 : Nat) ^ 25 * 127 + 0x707f = 0xfe00707f := by decide
  rw [e] at h
  rw [h, nat_and_707f, show (127 : Nat) = 2 ^ 7 - 1 by decide, Nat.and_two_pow_sub_one_eq_mod]
  have : a / 2 ^ 25 % 2 ^ 7 = a / 2 ^ 25 := Nat.mod_eq_of_lt (by omega)
  rw [this]
theorem and_7f (x : Int) (h0 : 0 ≤ x) (h1 : x ≤ 4294967295) : bits .and .u32 x 127 = x % 128 := and_mask x h0 (by omega) 7 (by decide)
theorem and_1 (x : Int) (h0 : 0 ≤ x) (h1 : x ≤ 4294967295) : bits .and .u32 x 1 = x % 2 := and_mask x h0 (by omega) 1 (by decide)
theorem and_fff (x : Int) (h0 : 0 ≤ x) (h1 : x ≤ 4294967295) : bits .and .u32 x 4095 = x % 4096 := and_mask x h0 (by omega) 12 (by decide)
theorem and_all (x : Int) (h0 : 0 ≤ x) (h1 : x ≤ 4294967295) : bits .and .u32 x 4294967295 = x := by
  have := and_mask x h0 (by omega) 32 (by decide)
  rw [show ((2 : Int) ^ 32 - 1) = 4294967295 by decide] at this
  rw [this]; omega
theorem and_707f (x : Int) (h0 : 0 ≤ x) (h1 : x ≤ 4294967295) : bits .and .u32 x 28799 = 4096 * (x / 4096 % 8) + x % 128 := by
  obtain ⟨a, rfl⟩ := Int.eq_ofNat_of_zero_le h0
  rw [show (28799 : Int) = ((28799 : Nat) : Int) from rfl, and_nat a 28799 (by omega) (by decide), show (28799 : Nat) = 0x707f from rfl, nat_and_707f]
  omega
theorem and_fe (x : Int) (h0 : 0 ≤ x) (h1 : x ≤ 4294967295) : bits .and .u32 x 4261441663 = 33554432 * (x / 33554432) + (4096 * (x / 4096 % 8) + x % 128) := by
  obtain ⟨a, rfl⟩ := Int.eq_ofNat_of_zero_le h0
  rw [show (4261441663 : Int) = ((4261441663 : Nat) : Int) from rfl, and_nat a 4261441663 (by omega) (by decide), show (4261441663 : Nat) = 0xfe00707f from rfl, nat_and_fe a (by omega)]
  omega
theorem andNot_fff (x : Int) (h0 : 0 ≤ x) (h1 : x ≤ 4294967295) : bits .andNot .u32 x 4095 = x - x % 4096 := by
  obtain ⟨a, rfl⟩ := Int.eq_ofNat_of_zero_le h0
  have ha : a < 4294967296 := by omega
  have e : bits .andNot .u32 (a : Int) 4095 = ((a &&& 0xfffff000 : Nat) : Int) := by
    have hlt : a &&& 0xfffff000 < 4294967296 := Nat.lt_of_le_of_lt Nat.and_le_left ha
    simp only [bits, IntKind.wrap_u32, BitVec.toNat_and]
    have e1 : (BitVec.ofInt IntKind.u32.bits (a : Int)).toNat = a := by
      simp [IntKind.bits]; omega
    have e2 : (~~~(BitVec.ofInt IntKind.u32.bits 4095)).toNat = 0xfffff000 := by decide
    rw [e1, e2]
    omega
  rw [e]
  have h := nat_and_join a 12 0xfffff 0 (by decide)
  have e3 : (2 : Nat) ^ 12 * 0xfffff + 0 = 0xfffff000 := by decide
  rw [e3] at h
  rw [h, show (0xfffff : Nat) = 2 ^ 20 - 1 by decide, Nat.and_two_pow_sub_one_eq_mod, Nat.and_zero]
  omega

/-! ### instructions -/
structure Ins where
  op : Int
  rd : Int
  rs1 : Int
  rs2 : Int
  imm : Int
  csr : Int
  deriving DecidableEq
structure Itm where
  pc : Int
  i : Ins
  next : Int
  deriving DecidableEq

def kBranch (f : Int) : Int := if f = 0 ∨ f = 1 then 5 + f else if 4 ≤ f then 3 + f else 0
def kLoad (f : Int) : Int := if f = 0 ∨ f = 1 ∨ f = 2 then 11 + f else if f = 4 ∨ f = 5 then 10 + f else 0
def kImm (f g : Int) : Int :=
  if f = 0 then 19 else if f = 2 then 20 else if f = 3 then 21 else if f = 4 then 22 else if f = 6 then 23 else if f = 7 then 24
  else if f = 1 then (if g = 0 then 25 else 0) else if g = 0 then 26 else if g = 32 then 27 else 0
def kReg (f g : Int) : Int :=
  if g = 0 then (if f = 0 then 28 else if f = 1 then 30 else if f = 2 then 31 else if f = 3 then 32 else if f = 4 then 33 else if f = 5 then 34 else if f = 6 then 36 else 37)
  else if g = 1 then 50 + f else if g = 32 then (if f = 0 then 29 else if f = 5 then 35 else 0) else 0
def kSys (f w : Int) : Int :=
  if f = 1 ∨ f = 2 ∨ f = 3 then 41 + f else if f = 5 ∨ f = 6 ∨ f = 7 then 40 + f
  else if w = 115 then 40 else if w = 1048691 then 41 else if w = 807403635 then 48 else if w = 273678451 then 49 else 0
/-- a word's kind -/
def kindS (w : Int) : Int :=
  if w % 128 = 55 then 1 else if w % 128 = 23 then 2 else if w % 128 = 111 then 3
  else if w % 128 = 103 then (if w / 4096 % 8 = 0 then 4 else 0)
  else if w % 128 = 99 then kBranch (w / 4096 % 8)
  else if w % 128 = 3 then kLoad (w / 4096 % 8)
  else if w % 128 = 35 then (if w / 4096 % 8 < 3 then 16 + w / 4096 % 8 else 0)
  else if w % 128 = 19 then kImm (w / 4096 % 8) (w / 33554432)
  else if w % 128 = 51 then kReg (w / 4096 % 8) (w / 33554432)
  else if w % 128 = 15 then (if w / 4096 % 8 < 2 then 38 + w / 4096 % 8 else 0)
  else if w % 128 = 115 then kSys (w / 4096 % 8) w else 0
/-- an instruction's form -/
def formS (op : Int) : Int :=
  if op = 1 ∨ op = 2 then 1 else if op = 3 then 2
  else if op = 4 ∨ (11 ≤ op ∧ op ≤ 15) ∨ (19 ≤ op ∧ op ≤ 24) ∨ op = 38 ∨ op = 39 then 3
  else if 5 ≤ op ∧ op ≤ 10 then 4 else if 16 ≤ op ∧ op ≤ 18 then 5
  else if (28 ≤ op ∧ op ≤ 37) ∨ (50 ≤ op ∧ op ≤ 57) then 6 else if 25 ≤ op ∧ op ≤ 27 then 7
  else if 42 ≤ op ∧ op ≤ 44 then 8 else if 45 ≤ op ∧ op ≤ 47 then 9 else 0
def ext (n half all : Int) : Int := if half ≤ n then n + 4294967296 - all else n
def immS (w f : Int) : Int :=
  if f = 1 then w - w % 4096
  else if f = 2 then ext (((w / 2147483648 * 256 + w / 4096 % 256) * 2 + w / 1048576 % 2) * 2048 + w / 2097152 % 1024 * 2) 1048576 2097152
  else if f = 3 then ext (w / 1048576) 2048 4096
  else if f = 4 then ext (((w / 2147483648 * 2 + w / 128 % 2) * 64 + w / 33554432 % 64) * 32 + w / 256 % 16 * 2) 4096 8192
  else if f = 5 then ext (w / 33554432 * 32 + w / 128 % 32) 2048 4096
  else if f = 7 then w / 1048576 % 32 else if f = 9 then w / 32768 % 32 else 0
def hasRd (f : Int) : Bool := f != 0 && f != 4 && f != 5
def laidS (w op : Int) : Ins :=
  let f := formS op
  { op := op, rd := if hasRd f then w / 128 % 32 else 0, rs1 := if 3 ≤ f ∧ f ≤ 8 then w / 32768 % 32 else 0,
    rs2 := if 4 ≤ f ∧ f ≤ 6 then w / 1048576 % 32 else 0, imm := immS w f, csr := if 8 ≤ f then w / 1048576 else 0 }
def decS (w : Int) : Ins := if kindS w = 0 then ⟨0, 0, 0, 0, 0, 0⟩ else laidS w (kindS w)

/-! ### right instructions -/
def sgn (w : Int) : Int := if 2147483648 ≤ w then w - 4294967296 else w
def regB (n : Int) (named : Bool) : Bool := decide (0 ≤ n ∧ n ≤ 31) && (named || decide (n = 0))
def immOk (imm f : Int) : Bool :=
  if f = 1 then decide (imm % 4096 = 0) else if f = 2 then decide (-1048576 ≤ sgn imm ∧ sgn imm < 1048576 ∧ imm % 2 = 0)
  else if f = 3 ∨ f = 5 then decide (-2048 ≤ sgn imm ∧ sgn imm < 2048) else if f = 4 then decide (-4096 ≤ sgn imm ∧ sgn imm < 4096 ∧ imm % 2 = 0)
  else if f = 7 ∨ f = 9 then decide (imm < 32) else decide (imm = 0)
def rightS (i : Ins) : Bool :=
  decide (0 ≤ i.op ∧ i.op < 58) &&
  (regB i.rd (hasRd (formS i.op)) && regB i.rs1 (decide (3 ≤ formS i.op ∧ formS i.op ≤ 8)) && regB i.rs2 (decide (4 ≤ formS i.op ∧ formS i.op ≤ 6))) &&
  (decide (0 ≤ i.csr ∧ i.csr ≤ 4095) && (decide (8 ≤ formS i.op) || decide (i.csr = 0))) && immOk i.imm (formS i.op)
def isBranch (op : Int) : Bool := decide (5 ≤ op ∧ op ≤ 10)
/-- can it be translated? -/
def canS (i : Ins) : Bool :=
  rightS i && if i.op = 3 then decide (i.imm % 4 = 0) else
    decide (i.op = 1 ∨ i.op = 2 ∨ i.op = 4 ∨ (5 ≤ i.op ∧ i.op ≤ 10) ∨ (11 ≤ i.op ∧ i.op ≤ 18) ∨ i.op = 38 ∨ (19 ≤ i.op ∧ i.op ≤ 37) ∨ (50 ≤ i.op ∧ i.op ≤ 57))
def endsS (op : Int) : Bool := decide (op ≤ 0 ∨ 58 ≤ op ∨ (3 ≤ op ∧ op ≤ 10) ∨ (39 ≤ op ∧ op ≤ 49))
end Go.Proofs.YtnbbhgpflanhaaaDoor
