/-
  The reference's firstRoots: the first bits of the roots of the first primes. The loops' own plain functions; their values are reckoned by the kernel.
-/
import Derived.Test.YtaojfpgbpakmpaaWord4
import Derived.Test.YtaojfpgbpakmpaaShelf
import Derived.Laws.Externs
namespace Go.Proofs.Ytaojfpgbpakmpaa
open Go.RowKit

def fitsB (p : Nat) (cube : Bool) (t : Nat) : Bool :=
  if cube then
    (((t * t % 18446744073709551616 * t / 18446744073709551616 + t * t / 18446744073709551616 * t % 18446744073709551616) / 18446744073709551616 == 0) &&
      (decide ((t * t % 18446744073709551616 * t / 18446744073709551616 + t * t / 18446744073709551616 * t % 18446744073709551616) % 18446744073709551616 < p * 4294967296) ||
        ((t * t % 18446744073709551616 * t / 18446744073709551616 + t * t / 18446744073709551616 * t % 18446744073709551616) % 18446744073709551616 == p * 4294967296 && t * t % 18446744073709551616 * t % 18446744073709551616 == 0)))
  else (decide (t * t / 18446744073709551616 < p) || (t * t / 18446744073709551616 == p && t * t % 18446744073709551616 == 0))
def rootStep (p : Nat) (cube : Bool) (r k : Nat) : Nat := if fitsB p cube (r ||| 2 ^ k) then r ||| 2 ^ k else r
def rootRest (p : Nat) (cube : Bool) : Nat → Nat → Nat
  | 0, r => r
  | n + 1, r => rootRest p cube n (rootStep p cube r n)
def primeRest (p : Nat) : Nat → Nat → Bool → Bool
  | 0, _, b => b
  | f + 1, q, b => if q * q ≤ p then primeRest p f (q + 1) (b && p % q != 0) else b
def primeB (p : Nat) : Bool := primeRest p p 2 true
def rootsRest (many : Nat) (cube : Bool) : Nat → Nat → List UInt32 → List UInt32
  | 0, _, out => out
  | f + 1, p, out => if out.length < many then rootsRest many cube f (p + 1) (if primeB p then out ++ [UInt32.ofNat (rootRest p cube 36 0)] else out) else out

theorem or_bit (r m : Nat) (hr : r < 68719476736) (hm : m < 36) : bits .or .u64 (r : Int) (IntKind.u64.wrap (2 ^ m)) = ((r ||| 2 ^ m : Nat) : Int) := by
  have h2 : 2 ^ m < 2 ^ 36 := Nat.pow_lt_pow_right (by decide) hm
  have e : (2 : Int) ^ m = ((2 ^ m : Nat) : Int) := by rw [Int.natCast_pow]; rfl
  rw [e]
  generalize 2 ^ m = q at *
  rw [IntWalk.u64_in _ (by omega), u64_or_nat _ _ (by omega) (by omega)]

/-- How the test of a square falls out. -/
theorem sq_ways (hi lo p : Nat) : (decide (hi < p) = true) ∨ (decide (hi < p) = false ∧ hi = p ∧ lo = 0) ∨ (decide (hi < p) = false ∧ hi = p ∧ lo ≠ 0) ∨ (decide (hi < p) = false ∧ hi ≠ p) := by
  by_cases h1 : hi < p
  · exact .inl (by simp [h1])
  · by_cases h2 : hi = p
    · by_cases h3 : lo = 0
      · exact .inr (.inl ⟨by simp [h1], h2, h3⟩)
      · exact .inr (.inr (.inl ⟨by simp [h1], h2, h3⟩))
    · exact .inr (.inr (.inr ⟨by simp [h1], h2⟩))

end Go.Proofs.Ytaojfpgbpakmpaa
