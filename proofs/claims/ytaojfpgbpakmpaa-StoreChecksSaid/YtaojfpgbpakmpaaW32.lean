/-
  32-bit words: the walk's spellings against Lean's UInt32.
-/
import Derived.Test.YtaojfpgbpakmpaaLib
namespace Go.Proofs.Ytaojfpgbpakmpaa
open Go.RowKit

theorem w_and (x y : UInt32) : bits .and .u32 (x.toNat : Int) (y.toNat : Int) = ((x &&& y).toNat : Int) := by
  rw [u32_and_nat _ _ x.toNat_lt y.toNat_lt, UInt32.toNat_and]
theorem w_or (x y : UInt32) : bits .or .u32 (x.toNat : Int) (y.toNat : Int) = ((x ||| y).toNat : Int) := by
  rw [u32_or_nat _ _ x.toNat_lt y.toNat_lt, UInt32.toNat_or]
theorem w_xor (x y : UInt32) : bits .xor .u32 (x.toNat : Int) (y.toNat : Int) = ((x ^^^ y).toNat : Int) := by
  rw [u32_xor_nat _ _ x.toNat_lt y.toNat_lt, UInt32.toNat_xor]
theorem w_max : IntKind.u32.max = ((4294967295 : UInt32).toNat : Int) := by decide
theorem w_not (x : UInt32) : bits .xor .u32 IntKind.u32.max (x.toNat : Int) = ((~~~x).toNat : Int) := by
  rw [w_max, w_xor]
  congr 2
theorem w_add (x y : UInt32) : ((x.toNat : Int) + (y.toNat : Int)) % 4294967296 = ((x + y).toNat : Int) := by
  rw [UInt32.toNat_add]; omega

/-- The lowest k bits of R, one more. -/
theorem mod_step (R k : Nat) (b : Bool) (hb : R.testBit k = b) : R % 2 ^ (k + 1) = R % 2 ^ k + 2 ^ k * b.toNat := by
  rw [Nat.pow_succ, Nat.mod_mul, ← hb, Nat.testBit_eq_decide_div_mod_eq]
  rcases Nat.mod_two_eq_zero_or_one (R / 2 ^ k) with h | h <;> simp [h]

theorem and_one_bit (x k : Nat) (h : x < 4294967296) : bits .and .u32 ((x : Int) / 2 ^ k) 1 = ((x.testBit k).toNat : Int) := by
  have e : ((x : Int) / 2 ^ k) = ((x / 2 ^ k : Nat) : Int) := by rw [Int.natCast_ediv, Int.natCast_pow]; rfl
  rw [e]
  have := u32_and_nat (x / 2 ^ k) 1 (Nat.lt_of_le_of_lt (Nat.div_le_self _ _) h) (by decide)
  rw [show ((1 : Nat) : Int) = 1 from rfl] at this
  rw [this, Nat.and_one_is_mod, Nat.testBit_eq_decide_div_mod_eq]
  rcases Nat.mod_two_eq_zero_or_one (x / 2 ^ k) with h | h <;> simp [h]

/-- A round of the reference's sums of bits. -/
theorem bit_round (R k : Nat) (hR : R < 4294967296) (c : Bool) (hc : R.testBit k = c) :
    (((R % 2 ^ k : Nat) : Int) + ((c.toNat : Int)) * 2 ^ k % 4294967296) % 4294967296 = ((R % 2 ^ (k + 1) : Nat) : Int) := by
  rw [mod_step R k c hc]
  have hlt : R % 2 ^ (k + 1) < 4294967296 := Nat.lt_of_le_of_lt (Nat.mod_le _ _) hR
  rw [mod_step R k c hc] at hlt
  have e : ((c.toNat : Int)) * 2 ^ k = ((2 ^ k * c.toNat : Nat) : Int) := by
    rw [Nat.mul_comm, Int.natCast_mul, Int.natCast_pow]; rfl
  rw [e]
  omega

end Go.Proofs.Ytaojfpgbpakmpaa
