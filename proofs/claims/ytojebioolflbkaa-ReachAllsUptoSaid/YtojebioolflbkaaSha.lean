/-
  The reference's firstRoots: the first bits of the roots of the first primes. The loops' own plain functions; their values are reckoned by the kernel. sha.Pad: what it answers. The reference's ShaPad; sha.Start and the reference's ShaStart; the law ShaPads: its walk.
-/
import Derived.Test.YtojebioolflbkaaWrd
import Derived.Test.YtojebioolflbkaaShelf
import Derived.Test.YtojebioolflbkaaWir
import Derived.Test.YtojebioolflbkaaHx
import Derived.Laws.Externs
import Derived.LoopN
namespace Go.Proofs.Ytojebioolflbkaa
open Go.RowKit

def fitsB (p : Nat) (cube : Bool) (t : Nat) : Bool :=
  if cube then
    (((t * t % 18446744073709551616 * t / 18446744073709551616 + t * t / 18446744073709551616 * t % 18446744073709551616) / 18446744073709551616 == 0) &&
      (decide ((t * t % 18446744073709551616 * t / 18446744073709551616 + t * t / 18446744073709551616 * t % 18446744073709551616) % 18446744073709551616 < p * 4294967296) ||
        ((t * t % 18446744073709551616 * t / 18446744073709551616 + t * t / 18446744073709551616 * t % 18446744073709551616) % 18446744073709551616 == p * 4294967296 && t * t % 18446744073709551616 * t % 18446744073709551616 == 0)))
  else (decide (t * t / 18446744073709551616 < p) || (t * t / 18446744073709551616 == p && t * t % 18446744073709551616 == 0))
def rootStep (p : Nat) (cube : Bool) (r k : Nat) : Nat := if fitsB p cube (r ||| 2 ^ k) then r ||| 2 ^ k else r
def rootRest (p : Nat) (cube : Bool) : Nat → Nat → Nat
  | 0, r => r
  | n + 1, r => rootRest p cube n (rootStep p cube r n)
def primeRest (p : Nat) : Nat → Nat → Bool → Bool
  | 0, _, b => b
  | f + 1, q, b => if q * q ≤ p then primeRest p f (q + 1) (b && p % q != 0) else b
def primeB (p : Nat) : Bool := primeRest p p 2 true
def rootsRest (many : Nat) (cube : Bool) : Nat → Nat → List UInt32 → List UInt32
  | 0, _, out => out
  | f + 1, p, out => if out.length < many then rootsRest many cube f (p + 1) (if primeB p then out ++ [UInt32.ofNat (rootRest p cube 36 0)] else out) else out

theorem or_bit (r m : Nat) (hr : r < 68719476736) (hm : m < 36) : bits .or .u64 (r : Int) (IntKind.u64.wrap (2 ^ m)) = ((r ||| 2 ^ m : Nat) : Int) := by
  have h2 : 2 ^ m < 2 ^ 36 := Nat.pow_lt_pow_right (by decide) hm
  have e : (2 : Int) ^ m = ((2 ^ m : Nat) : Int) := by rw [Int.natCast_pow]; rfl
  rw [e]
  generalize 2 ^ m = q at *
  rw [IntWalk.u64_in _ (by omega), u64_or_nat _ _ (by omega) (by omega)]

/-- How the test of a square falls out. -/
theorem sq_ways (hi lo p : Nat) : (decide (hi < p) = true) ∨ (decide (hi < p) = false ∧ hi = p ∧ lo = 0) ∨ (decide (hi < p) = false ∧ hi = p ∧ lo ≠ 0) ∨ (decide (hi < p) = false ∧ hi ≠ p) := by
  by_cases h1 : hi < p
  · exact .inl (by simp [h1])
  · by_cases h2 : hi = p
    · by_cases h3 : lo = 0
      · exact .inr (.inl ⟨by simp [h1], h2, h3⟩)
      · exact .inr (.inr (.inl ⟨by simp [h1], h2, h3⟩))
    · exact .inr (.inr (.inr ⟨by simp [h1], h2⟩))

end Go.Proofs.Ytojebioolflbkaa

namespace Go.Proofs.Ytojebioolflbkaa
open Go.RowKit

/-- How many zeros stand behind the first sign. -/
def padZ (n : Nat) : Nat := (119 - n % 64) % 64
theorem padZ_spec (n : Nat) : (n + 1 + padZ n) % 64 = 56 := by unfold padZ; omega
theorem padZ_least (n z : Nat) (h : z < padZ n) : (n + 1 + z) % 64 ≠ 56 := by unfold padZ at h; omega
theorem padZ_lt (n : Nat) : padZ n < 64 := by unfold padZ; omega
def be (m k : Nat) : UInt8 := UInt8.ofNat (m / 2 ^ (8 * k))
def be8 (m : Nat) : List UInt8 := [be m 7, be m 6, be m 5, be m 4, be m 3, be m 2, be m 1, be m 0]
def padZs (l : List UInt8) (z : Nat) : List UInt8 := l ++ [128] ++ List.replicate z 0
def padRes (l : List UInt8) : List UInt8 := padZs l (padZ l.length) ++ be8 (8 * l.length)
theorem padZs_len (l : List UInt8) (z : Nat) : (padZs l z).length = l.length + 1 + z := by simp [padZs]; omega
theorem padZs_snoc (l : List UInt8) (z : Nat) : padZs l z ++ [0] = padZs l (z + 1) := by
  unfold padZs
  rw [List.append_assoc, ← List.replicate_succ']
theorem padRes_len (l : List UInt8) : (padRes l).length = l.length + 9 + padZ l.length := by
  unfold padRes
  rw [List.length_append, padZs_len]
  simp [be8]
  omega
theorem be_val (m k : Nat) : ((be m k).toNat : Int) = ((m / 2 ^ (8 * k) % 256 : Nat) : Int) := by
  unfold be
  rw [UInt8.toNat_ofNat']
def padErr (l : List UInt8) : Int := if 2000 < l.length then 1 else 0
def padOut (l : List UInt8) : List UInt8 := if 2000 < l.length then [] else padRes l
theorem padOut_len (l : List UInt8) : (padOut l).length ≤ 2072 := by
  unfold padOut
  split
  · simp
  · rw [padRes_len]; have := padZ_lt l.length; omega
theorem padOut_short {l : List UInt8} (h : l.length ≤ 2000) : (padOut l).length ≤ 2072 ∧ (padOut l).length % 64 = 0 ∧ padOut l = padRes l := by
  refine ⟨padOut_len l, ?_, ?_⟩
  · unfold padOut; rw [if_neg (by omega), padRes_len]; have := padZ_spec l.length; omega
  · unfold padOut; rw [if_neg (by omega)]

end Go.Proofs.Ytojebioolflbkaa

namespace Go.Proofs.Ytojebioolflbkaa
open Go.RowKit

/-- A new block of bytes. -/
theorem lit8 (w : World) (t : TypeId) (cs : Array Value) (l : List UInt8) (k n : Nat) (hk : k = w.heap.size) (h : cs.toList = l.flatMap cU8) (hn : n = l.length) (hm : l.length ≤ 140737488351232) : RB (w.alloc (.cells cs t)) (.slice (some ⟨k, 0, none⟩) n n) l := by
  subst hk hn
  refine ⟨_, _, rfl, Nat.le_refl _, by simp [maxLen]; omega, by omega, fun h => by simp at h, fun j x hj => ⟨w.heap.size, 0, rfl, by simp, ?_⟩⟩
  unfold EU8
  rw [cell_of_row _ _ _ cs t (0, 0) (heap_alloc_new w _), ← Array.getElem?_toList, h, flat_get (cells := cU8) (fun _ => rfl) (by decide)]
  simp [hj, cU8, Nat.mod_one]
theorem lit32 (w : World) (t : TypeId) (cs : Array Value) (l : List UInt32) (k n : Nat) (hk : k = w.heap.size) (h : cs.toList = l.flatMap cU32) (hn : n = l.length) (hm : l.length ≤ 35184372087808) : RW (w.alloc (.cells cs t)) (.slice (some ⟨k, 0, none⟩) n n) l := by
  subst hk hn
  refine ⟨_, _, rfl, Nat.le_refl _, by simp [maxLen]; omega, by omega, fun h => by simp at h, fun j x hj => ⟨w.heap.size, 0, rfl, by simp, ?_⟩⟩
  unfold EU32
  rw [cell_of_row _ _ _ cs t (0, 0) (heap_alloc_new w _), ← Array.getElem?_toList, h, flat_get (cells := cU32) (fun _ => rfl) (by decide)]
  simp [hj, cU32, Nat.mod_one]

def startW : List UInt32 := [0x6a09e667, 0xbb67ae85, 0x3c6ef372, 0xa54ff53a, 0x510e527f, 0x9b05688c, 0x1f83d9ab, 0x5be0cd19]
set_option maxRecDepth 100000 in
theorem roots_start : rootsRest 8 false 20 2 [] = startW := by decide +kernel

end Go.Proofs.Ytojebioolflbkaa
