/-
  The reference's firstRoots: the first bits of the roots of the first primes. The loops' own plain functions; their values are reckoned by the kernel. sha.Pad: what it answers. The reference's ShaPad; sha.Start and the reference's ShaStart; the law ShaPads: its walk.
-/
import Derived.Test.YtojebioolflbkaaGreatWrd
import Derived.Test.YtojebioolflbkaaGreatShelf
import Derived.Test.YtojebioolflbkaaGreatWir
import Derived.Test.YtojebioolflbkaaGreatHx
import Derived.Laws.Externs
import Derived.LoopN
namespace Go.Proofs.YtojebioolflbkaaGreat
open Go.RowKit

def fitsB (p : Nat) (cube : Bool) (t : Nat) : Bool :=
  if cube then
    (((t * t % 18446744073709551616 * t / 18446744073709551616 + t * t / 18446744073709551616 * t % 18446744073709551616) / 18446744073709551616 == 0) &&
      (decide ((t * t % 18446744073709551616 * t / 18446744073709551616 + t * t / 18446744073709551616 * t % 18446744073709551616) % 18446744073709551616 < p * 4294967296) ||
        ((t * t % 18446744073709551616 * t / 18446744073709551616 + t * t / 18446744073709551616 * t % 18446744073709551616) % 18446744073709551616 == p * 4294967296 && t * t % 18446744073709551616 * t % 18446744073709551616 == 0)))
  else (decide (t * t / 18446744073709551616 < p) || (t * t / 18446744073709551616 == p && t * t % 18446744073709551616 == 0))
def rootStep (p : Nat) (cube : Bool) (r k : Nat) : Nat := if fitsB p cube (r ||| 2 ^ k) then r ||| 2 ^ k else r
def rootRest (p : Nat) (cube : Bool) : Nat → Nat → Nat
  | 0, r => r
  | n + 1, r => rootRest p cube n (rootStep p cube r n)
def primeRest (p : Nat) : Nat → Nat → Bool → Bool
  | 0, _, b => b
  | f + 1, q, b => if q * q ≤ p then primeRest p f (q + 1) (b && p % q != 0) else b
def primeB (p : Nat) : Bool := primeRest p p 2 true
def rootsRest (many : Nat) (cube : Bool) : Nat → Nat → List UInt32 → List UInt32
  | 0, _, out => out
  | f + 1, p, out => if out.length < many then rootsRest many cube f (p + 1) (if primeB p then out ++ [UInt32.ofNat (rootRest p cube 36 0)] else out) else out

theorem or_bit (r m : Nat) (hr : r < 68719476736) (hm : m < 36) : bits .or .u64 (r : Int) (IntKind.u64.wrap (2 ^ m)) = ((r ||| 2 ^ m : Nat) : Int) := by
  have h2 : 2 ^ m < 2 ^ 36 := Nat.pow_lt_pow_right (by decide) hm
  have e : (2 : Int) ^ m = ((2 ^ m : Nat) : Int) := by rw [Int.natCast_pow]; rfl
  rw [e]
  generalize 2 ^ m = q at *
  rw [IntWalk.u64_in _ (by omega), u64_or_nat _ _ (by omega) (by omega)]

/-- How the test of a square falls out. -/
theorem sq_ways (hi lo p : Nat) : (decide (hi < p) = true) ∨ (decide (hi < p) = false ∧ hi = p ∧ lo = 0) ∨ (decide (hi < p) = false ∧ hi = p ∧ lo ≠ 0) ∨ (decide (hi < p) = false ∧ hi ≠ p) := by
  by_cases h1 : hi < p
  · exact .inl (by simp [h1])
  · by_cases h2 : hi = p
    · by_cases h3 : lo = 0
      · exact .inr (.inl ⟨by simp [h1], h2, h3⟩)
      · exact .inr (.inr (.inl ⟨by simp [h1], h2, h3⟩))
    · exact .inr (.inr (.inr ⟨by simp [h1], h2⟩))

end Go.Proofs.YtojebioolflbkaaGreat

namespace Go.Proofs.YtojebioolflbkaaGreat
open Go.RowKit

/-- How many zeros stand behind the first sign. -/
def padZ (n : Nat) : Nat := (119 - n % 64) % 64
theorem padZ_spec (n : Nat) : (n + 1 + padZ n) % 64 = 56 := by unfold padZ; omega
theorem padZ_least (n z : Nat) (h : z < padZ n) : (n + 1 + z) % 64 ≠ 56 := by unfold padZ at h; omega
theorem padZ_lt (n : Nat) : padZ n < 64 := by unfold padZ; omega
def be (m k : Nat) : UInt8 := UInt8.ofNat (m / 2 ^ (8 * k))
def be8 (m : Nat) : List UInt8 := [be m 7, be m 6, be m 5, be m 4, be m 3, be m 2, be m 1, be m 0]
def padZs (l : List UInt8) (z : Nat) : List UInt8 := l ++ [128] ++ List.replicate z 0
def padRes (l : List UInt8) : List UInt8 := padZs l (padZ l.length) ++ be8 (8 * l.length)
theorem padZs_len (l : List UInt8) (z : Nat) : (padZs l z).length = l.length + 1 + z := by simp [padZs]; omega
theorem padZs_snoc (l : List UInt8) (z : Nat) : padZs l z ++ [0] = padZs l (z + 1) := by
  unfold padZs
  rw [List.append_assoc, ← List.replicate_succ']
theorem padRes_len (l : List UInt8) : (padRes l).length = l.length + 9 + padZ l.length := by
  unfold padRes
  rw [List.length_append, padZs_len]
  simp [be8]
  omega
theorem be_val (m k : Nat) : ((be m k).toNat : Int) = ((m / 2 ^ (8 * k) % 256 : Nat) : Int) := by
  unfold be
  rw [UInt8.toNat_ofNat']
def padErr (l : List UInt8) : Int := if 2000 < l.length then 1 else 0
def padOut (l : List UInt8) : List UInt8 := if 2000 < l.length then [] else padRes l
theorem padOut_len (l : List UInt8) : (padOut l).length ≤ 2072 := by
  unfold padOut
  split
  · simp
  · rw [padRes_len]; have := padZ_lt l.length; omega
theorem padOut_short {l : List UInt8} (h : l.length ≤ 2000) : (padOut l).length ≤ 2072 ∧ (padOut l).length % 64 = 0 ∧ padOut l = padRes l := by
  refine ⟨padOut_len l, ?_, ?_⟩
  · unfold padOut; rw [if_neg (by omega), padRes_len]; have := padZ_spec l.length; omega
  · unfold padOut; rw [if_neg (by omega)]

set_option maxRecDepth 100000 in
set_option maxHeartbeats 2000000 in
theorem sha_Pad_ok (v : Value) (l : List UInt8) (w : World) (hl : RB w v l) (h : l.length ≤ 2000) :
    Calls Tryz.prog 187 #[v] w fun e w' => ∃ v', e = .returned (.tuple #[v', .int .i64 0]) ∧ OS 5 1 cU8 w' w.heap.size v' (padRes l) ∧ Below w.heap.size w w' := by
  obtain ⟨i0, hi, hz0, hz1, hz2⟩ := info_parts info_u8
  have hR := hl
  obtain ⟨a, c, rfl, hlc, hcm, hre, hno, _⟩ := hl
  unfold maxLen at hcm
  have hpz := padZ_lt l.length
  go_enter Tryz.func187, Tryz.ntmps187
  go_wp2_with (at_builtin; go_must (refine wpL_append flat_u8 rfl (.const (.slice none 0 0)) (.tmp 10) 59 rfl 5 i0 (.int .u8 0) Tryz.underlying59 hi hz0 hz1 hz2 rfl w.heap.size _ [] rfl OS.nil _ l rfl hR ?c1 ?c2 ?c3 ?_))
  case c1 => simp; omega
  case c2 => simp [maxLen]; omega
  case c3 => simp
  intro v1 w1 own1 hgr
  have b1 := b_grown (Below.refl _ _) hgr (fun k hk => by simp [Value.ownBlock] at hk)
  clear hgr
  have s1 := b1.size
  go_wp2_with (at_builtin; go_must (refine wpL_append flat_u8 rfl (.tmp 11) (.tmp 12) 59 rfl 5 i0 (.int .u8 0) Tryz.underlying59 hi hz0 hz1 hz2 rfl w.heap.size _ l rfl (OS.alloc own1 _) _ [128] rfl (one_u8 _ _ _ _ _ (by first | rfl | simp) rfl) ?c1 ?c2 ?c3 ?_))
  case c1 => simp; omega
  case c2 => simp [maxLen]; omega
  case c3 => simp; omega
  intro v2 w2 own2 hgr
  have b2 := b_grown (b_alloc b1 _) hgr (OS.block own1)
  have own2 : OS 5 1 cU8 w2 w.heap.size v2 (padZs l 0) := by simpa [padZs] using own2
  clear hgr own1 b1 s1
  go_wp2_with fail
  go_loopw [4] (fun v wr => ∃ z : Nat, z ≤ padZ l.length ∧ OS 5 1 cU8 wr w.heap.size v (padZs l z) ∧ Below w.heap.size w wr) (fun v _ => 4000 - (match v with | .slice _ n _ => n | _ => 0))
  case atStart => exact ⟨0, by omega, own2, b2⟩
  case round =>
    obtain ⟨z, hz, hown, hb⟩ := hrel
    obtain ⟨ad, cp, rfl, hlcp, hcpm, hno2⟩ := OS.len_le hown
    have hlz := padZs_len l z
    unfold maxLen at hcpm
    have hs := hb.size
    by_cases hlt : z < padZ l.length
    · have hne := padZ_least l.length z hlt
      have q1 : ((((padZs l z).length : Int) % 64) != 56) = true := by rw [hlz]; simp; omega
      have hsn := hid (padZs_snoc l z)
      replace hlz := hid hlz
      clear hne
      have hln : (padZs l z).length ≤ 2100 := by rw [hlz.out]; omega
      go_wp2_with (at_builtin; go_must (refine wpL_append flat_u8 rfl (.tmp 18) (.tmp 19) 59 rfl 5 i0 (.int .u8 0) Tryz.underlying59 hi hz0 hz1 hz2 rfl w.heap.size _ (padZs l z) rfl (OS.alloc hown _) _ [0] rfl (one_u8 _ _ _ _ _ (by first | rfl | simp) rfl) ?c1 ?c2 ?c3 ?_))
      case c1 => simp; omega
      case c2 => simp [maxLen]; omega
      case c3 => simp; omega
      intro v' w3 hown1 hgr
      have hb2 := b_grown (b_alloc hb _) hgr (OS.block hown)
      rw [hsn.out] at hown1
      clear hgr hb hown
      obtain ⟨ad2, cp2, rfl, -⟩ := id (OS.len_le hown1)
      have hl2 := hid (padZs_len l (z + 1))
      go_wp2_with fail
      go_roundw
      case rel => exact ⟨z + 1, by omega, hown1, hb2⟩
      case measure => have := hl2.out; have := hlz.out; simp; omega
    · obtain rfl : z = padZ l.length := by omega
      have hsp := padZ_spec l.length
      have q1 : ((((padZs l (padZ l.length)).length : Int) % 64) != 56) = false := by rw [hlz]; simp; omega
      have hln : (padZs l (padZ l.length)).length ≤ 2100 := by omega
      clear hsp
      replace hlz := hid hlz
      go_wp2_with fail
      refine wp_loop_rounds 9 ?_
      rw [rounds_succ]
      have e0 : Hid ((8 * (l.length : Int)) / 72057594037927936 % 256 = ((be (8 * l.length) 7).toNat : Int)) := by
        refine hid ?_
        rw [be_val]
        omega
      go_wp2_with (at_builtin; go_must (refine wpL_append flat_u8 rfl (.tmp 28) (.tmp 34) 59 rfl 5 i0 (.int .u8 0) Tryz.underlying59 hi hz0 hz1 hz2 rfl w.heap.size _ (padZs l (padZ l.length)) rfl (OS.alloc hown _) _ [be (8 * l.length) 7] rfl (one_u8 _ _ _ _ _ (by first | rfl | simp) (by first | exact e0.out | (have := e0.out; omega))) ?c1 ?c2 ?c3 ?_))
      case c1 => simp; omega
      case c2 => simp [maxLen]; omega
      case c3 => have := hb.size; simp; omega
      intro y1 W1 own11 hgr
      have bb1 := b_grown (b_alloc hb _) hgr (OS.block hown)
      clear hgr
      clear hown hb
      go_wp2_with fail
      rw [rounds_succ]
      have e1 : Hid ((8 * (l.length : Int)) / 281474976710656 % 256 = ((be (8 * l.length) 6).toNat : Int)) := by
        refine hid ?_
        rw [be_val]
        omega
      go_wp2_with (at_builtin; go_must (refine wpL_append flat_u8 rfl (.tmp 28) (.tmp 34) 59 rfl 5 i0 (.int .u8 0) Tryz.underlying59 hi hz0 hz1 hz2 rfl w.heap.size _ (padZs l (padZ l.length) ++ [be (8 * l.length) 7]) rfl (OS.alloc own11 _) _ [be (8 * l.length) 6] rfl (one_u8 _ _ _ _ _ (by first | rfl | simp) (by first | exact e1.out | (have := e1.out; omega))) ?c1 ?c2 ?c3 ?_))
      case c1 => simp; omega
      case c2 => simp [maxLen]; omega
      case c3 => have := bb1.size; simp; omega
      intro y2 W2 own12 hgr
      have bb2 := b_grown (b_alloc bb1 _) hgr (OS.block own11)
      clear hgr
      clear own11 bb1
      go_wp2_with fail
      rw [rounds_succ]
      have e2 : Hid ((8 * (l.length : Int)) / 1099511627776 % 256 = ((be (8 * l.length) 5).toNat : Int)) := by
        refine hid ?_
        rw [be_val]
        omega
      go_wp2_with (at_builtin; go_must (refine wpL_append flat_u8 rfl (.tmp 28) (.tmp 34) 59 rfl 5 i0 (.int .u8 0) Tryz.underlying59 hi hz0 hz1 hz2 rfl w.heap.size _ (padZs l (padZ l.length) ++ [be (8 * l.length) 7, be (8 * l.length) 6]) rfl (OS.alloc own12 _) _ [be (8 * l.length) 5] rfl (one_u8 _ _ _ _ _ (by first | rfl | simp) (by first | exact e2.out | (have := e2.out; omega))) ?c1 ?c2 ?c3 ?_))
      case c1 => simp; omega
      case c2 => simp [maxLen]; omega
      case c3 => have := bb2.size; simp; omega
      intro y3 W3 own13 hgr
      have bb3 := b_grown (b_alloc bb2 _) hgr (OS.block own12)
      clear hgr
      clear own12 bb2
      go_wp2_with fail
      rw [rounds_succ]
      have e3 : Hid ((8 * (l.length : Int)) / 4294967296 % 256 = ((be (8 * l.length) 4).toNat : Int)) := by
        refine hid ?_
        rw [be_val]
        omega
      go_wp2_with (at_builtin; go_must (refine wpL_append flat_u8 rfl (.tmp 28) (.tmp 34) 59 rfl 5 i0 (.int .u8 0) Tryz.underlying59 hi hz0 hz1 hz2 rfl w.heap.size _ (padZs l (padZ l.length) ++ [be (8 * l.length) 7, be (8 * l.length) 6, be (8 * l.length) 5]) rfl (OS.alloc own13 _) _ [be (8 * l.length) 4] rfl (one_u8 _ _ _ _ _ (by first | rfl | simp) (by first | exact e3.out | (have := e3.out; omega))) ?c1 ?c2 ?c3 ?_))
      case c1 => simp; omega
      case c2 => simp [maxLen]; omega
      case c3 => have := bb3.size; simp; omega
      intro y4 W4 own14 hgr
      have bb4 := b_grown (b_alloc bb3 _) hgr (OS.block own13)
      clear hgr
      clear own13 bb3
      go_wp2_with fail
      rw [rounds_succ]
      have e4 : Hid ((8 * (l.length : Int)) / 16777216 % 256 = ((be (8 * l.length) 3).toNat : Int)) := by
        refine hid ?_
        rw [be_val]
        omega
      go_wp2_with (at_builtin; go_must (refine wpL_append flat_u8 rfl (.tmp 28) (.tmp 34) 59 rfl 5 i0 (.int .u8 0) Tryz.underlying59 hi hz0 hz1 hz2 rfl w.heap.size _ (padZs l (padZ l.length) ++ [be (8 * l.length) 7, be (8 * l.length) 6, be (8 * l.length) 5, be (8 * l.length) 4]) rfl (OS.alloc own14 _) _ [be (8 * l.length) 3] rfl (one_u8 _ _ _ _ _ (by first | rfl | simp) (by first | exact e4.out | (have := e4.out; omega))) ?c1 ?c2 ?c3 ?_))
      case c1 => simp; omega
      case c2 => simp [maxLen]; omega
      case c3 => have := bb4.size; simp; omega
      intro y5 W5 own15 hgr
      have bb5 := b_grown (b_alloc bb4 _) hgr (OS.block own14)
      clear hgr
      clear own14 bb4
      go_wp2_with fail
      rw [rounds_succ]
      have e5 : Hid ((8 * (l.length : Int)) / 65536 % 256 = ((be (8 * l.length) 2).toNat : Int)) := by
        refine hid ?_
        rw [be_val]
        omega
      go_wp2_with (at_builtin; go_must (refine wpL_append flat_u8 rfl (.tmp 28) (.tmp 34) 59 rfl 5 i0 (.int .u8 0) Tryz.underlying59 hi hz0 hz1 hz2 rfl w.heap.size _ (padZs l (padZ l.length) ++ [be (8 * l.length) 7, be (8 * l.length) 6, be (8 * l.length) 5, be (8 * l.length) 4, be (8 * l.length) 3]) rfl (OS.alloc own15 _) _ [be (8 * l.length) 2] rfl (one_u8 _ _ _ _ _ (by first | rfl | simp) (by first | exact e5.out | (have := e5.out; omega))) ?c1 ?c2 ?c3 ?_))
      case c1 => simp; omega
      case c2 => simp [maxLen]; omega
      case c3 => have := bb5.size; simp; omega
      intro y6 W6 own16 hgr
      have bb6 := b_grown (b_alloc bb5 _) hgr (OS.block own15)
      clear hgr
      clear own15 bb5
      go_wp2_with fail
      rw [rounds_succ]
      have e6 : Hid ((8 * (l.length : Int)) / 256 % 256 = ((be (8 * l.length) 1).toNat : Int)) := by
        refine hid ?_
        rw [be_val]
        omega
      go_wp2_with (at_builtin; go_must (refine wpL_append flat_u8 rfl (.tmp 28) (.tmp 34) 59 rfl 5 i0 (.int .u8 0) Tryz.underlying59 hi hz0 hz1 hz2 rfl w.heap.size _ (padZs l (padZ l.length) ++ [be (8 * l.length) 7, be (8 * l.length) 6, be (8 * l.length) 5, be (8 * l.length) 4, be (8 * l.length) 3, be (8 * l.length) 2]) rfl (OS.alloc own16 _) _ [be (8 * l.length) 1] rfl (one_u8 _ _ _ _ _ (by first | rfl | simp) (by first | exact e6.out | (have := e6.out; omega))) ?c1 ?c2 ?c3 ?_))
      case c1 => simp; omega
      case c2 => simp [maxLen]; omega
      case c3 => have := bb6.size; simp; omega
      intro y7 W7 own17 hgr
      have bb7 := b_grown (b_alloc bb6 _) hgr (OS.block own16)
      clear hgr
      clear own16 bb6
      go_wp2_with fail
      rw [rounds_succ]
      have e7 : Hid ((8 * (l.length : Int)) / 1 % 256 = ((be (8 * l.length) 0).toNat : Int)) := by
        refine hid ?_
        rw [be_val]
        omega
      go_wp2_with (at_builtin; go_must (refine wpL_append flat_u8 rfl (.tmp 28) (.tmp 34) 59 rfl 5 i0 (.int .u8 0) Tryz.underlying59 hi hz0 hz1 hz2 rfl w.heap.size _ (padZs l (padZ l.length) ++ [be (8 * l.length) 7, be (8 * l.length) 6, be (8 * l.length) 5, be (8 * l.length) 4, be (8 * l.length) 3, be (8 * l.length) 2, be (8 * l.length) 1]) rfl (OS.alloc own17 _) _ [be (8 * l.length) 0] rfl (one_u8 _ _ _ _ _ (by first | rfl | simp) (by first | exact e7.out | (have := e7.out; omega))) ?c1 ?c2 ?c3 ?_))
      case c1 => simp; omega
      case c2 => simp [maxLen]; omega
      case c3 => have := bb7.size; simp; omega
      intro y8 W8 own18 hgr
      have bb8 := b_grown (b_alloc bb7 _) hgr (OS.block own17)
      clear hgr
      clear own17 bb7
      go_wp2_with fail
      rw [rounds_succ]
      have hfin : OS 5 1 cU8 W8 w.heap.size y8 (padRes l) := by simpa [padRes, be8] using own18
      clear own18
      have hpl := padRes_len l
      obtain ⟨ad3, cp3, rfl, -⟩ := id (OS.len_le hfin)
      have hrd := reads_u8 hfin (by omega)
      replace hpl := hid hpl
      go_wp2_with (at_builtin; go_must (refine wpL_append flat_u8 rfl (.const (.slice none 0 0)) (.tmp 36) 59 rfl 5 i0 (.int .u8 0) Tryz.underlying59 hi hz0 hz1 hz2 rfl w.heap.size _ [] rfl OS.nil _ (padRes l) rfl hrd ?c1 ?c2 ?c3 ?_))
      case c1 => have := hpl.out; simp; omega
      case c2 => have := hpl.out; simp [maxLen]; omega
      case c3 => have := bb8.size; omega
      intro v5 w5 own5 hgr
      have b5 := b_grown bb8 hgr (fun k hk => by simp [Value.ownBlock] at hk)
      clear hgr
      go_wp2_with fail
      go_ret2
      exact ⟨_, rfl, by simpa using own5, b5⟩
end Go.Proofs.YtojebioolflbkaaGreat

namespace Go.Proofs.YtojebioolflbkaaGreat
open Go.RowKit

set_option maxRecDepth 100000 in
theorem sha_Pad_no (v : Value) (l : List UInt8) (w : World) (hl : RB w v l) (h : 2000 < l.length) :
    Calls Tryz.prog 187 #[v] w fun e w' => e = .returned (.tuple #[.slice none 0 0, .int .i64 1]) ∧ w = w' := by
  obtain ⟨a, c, rfl, hlc, hcm, hre, hno, _⟩ := hl
  go_enter Tryz.func187, Tryz.ntmps187
  go_wp2_with fail
  go_ret2
  exact ⟨rfl, rfl⟩
set_option maxRecDepth 100000 in
theorem ref_ShaPad_no (v : Value) (l : List UInt8) (w : World) (hl : RB w v l) (h : 2000 < l.length) :
    Calls Tryz.prog 193 #[v] w fun e w' => e = .returned (.tuple #[.slice none 0 0, .int .i64 1]) ∧ w = w' := by
  obtain ⟨a, c, rfl, hlc, hcm, hre, hno, _⟩ := hl
  go_enter Tryz.func193, Tryz.ntmps193
  go_wp2_with fail
  go_ret2
  exact ⟨rfl, rfl⟩
theorem sha_Pad (v : Value) (l : List UInt8) (w : World) (hl : RB w v l) :
    Calls Tryz.prog 187 #[v] w fun e w' => ∃ v', e = .returned (.tuple #[v', .int .i64 (padErr l)]) ∧ RB w' v' (padOut l) ∧ Below w.heap.size w w' := by
  by_cases h : 2000 < l.length
  · refine (sha_Pad_no v l w hl h).mono ?_
    rintro e w' ⟨rfl, rfl⟩
    exact ⟨_, by rw [padErr, if_pos h], by rw [padOut, if_pos h]; exact RS.nil, Below.refl _ _⟩
  · refine (sha_Pad_ok v l w hl (by omega)).mono ?_
    rintro e w' ⟨v', rfl, ho, hb⟩
    exact ⟨_, by rw [padErr, if_neg h], by rw [padOut, if_neg h]; exact reads_u8 ho (by rw [padRes_len]; have := padZ_lt l.length; omega), hb⟩

/-- A new block of bytes. -/
theorem lit8 (w : World) (t : TypeId) (cs : Array Value) (l : List UInt8) (k n : Nat) (hk : k = w.heap.size) (h : cs.toList = l.flatMap cU8) (hn : n = l.length) (hm : l.length ≤ 140737488351232) : RB (w.alloc (.cells cs t)) (.slice (some ⟨k, 0, none⟩) n n) l := by
  subst hk hn
  refine ⟨_, _, rfl, Nat.le_refl _, by simp [maxLen]; omega, by omega, fun h => by simp at h, fun j x hj => ⟨w.heap.size, 0, rfl, by simp, ?_⟩⟩
  unfold EU8
  rw [cell_of_row _ _ _ cs t (0, 0) (heap_alloc_new w _), ← Array.getElem?_toList, h, flat_get (cells := cU8) (fun _ => rfl) (by decide)]
  simp [hj, cU8, Nat.mod_one]
theorem lit32 (w : World) (t : TypeId) (cs : Array Value) (l : List UInt32) (k n : Nat) (hk : k = w.heap.size) (h : cs.toList = l.flatMap cU32) (hn : n = l.length) (hm : l.length ≤ 35184372087808) : RW (w.alloc (.cells cs t)) (.slice (some ⟨k, 0, none⟩) n n) l := by
  subst hk hn
  refine ⟨_, _, rfl, Nat.le_refl _, by simp [maxLen]; omega, by omega, fun h => by simp at h, fun j x hj => ⟨w.heap.size, 0, rfl, by simp, ?_⟩⟩
  unfold EU32
  rw [cell_of_row _ _ _ cs t (0, 0) (heap_alloc_new w _), ← Array.getElem?_toList, h, flat_get (cells := cU32) (fun _ => rfl) (by decide)]
  simp [hj, cU32, Nat.mod_one]

set_option maxRecDepth 100000 in
set_option maxHeartbeats 2000000 in
theorem ref_ShaPad_ok (v : Value) (l : List UInt8) (w : World) (hl : RB w v l) (h : l.length ≤ 2000) :
    Calls Tryz.prog 193 #[v] w fun e w' => ∃ v', e = .returned (.tuple #[v', .int .i64 0]) ∧ OS 5 1 cU8 w' w.heap.size v' (padRes l) ∧ Below w.heap.size w w' := by
  obtain ⟨i0, hi, hz0, hz1, hz2⟩ := info_parts info_u8
  have hR := hl
  obtain ⟨a, c, rfl, hlc, hcm, hre, hno, _⟩ := hl
  unfold maxLen at hcm
  have hpz := padZ_lt l.length
  go_enter Tryz.func193, Tryz.ntmps193
  go_wp2_with (at_builtin; go_must (refine wpL_append flat_u8 rfl (.tmp 9) (.tmp 10) 59 rfl 5 i0 (.int .u8 0) Tryz.underlying59 hi hz0 hz1 hz2 rfl w.heap.size _ [] rfl (os_empty _ _ _ _ (by first | rfl | simp) (by simp)) _ l rfl (hR.mono EU8.stable (b_alloc (Below.refl _ _) _)) ?c1 ?c2 ?c3 ?_))
  case c1 => simp; omega
  case c2 => simp [maxLen]; omega
  case c3 => simp
  intro v1 w1 own1 hgr
  have b1 := b_grown (b_alloc (Below.refl _ w) _) hgr (fun k hk => by simp [Value.ownBlock] at hk; omega)
  have own1 : OS 5 1 cU8 w1 w.heap.size v1 l := by simpa using own1
  clear hgr
  have s1 := b1.size
  go_wp2_with (at_builtin; go_must (refine wpL_append flat_u8 rfl (.tmp 11) (.tmp 12) 59 rfl 5 i0 (.int .u8 0) Tryz.underlying59 hi hz0 hz1 hz2 rfl w.heap.size _ l rfl (OS.alloc own1 _) _ [128] rfl (one_u8 _ _ _ _ _ (by first | rfl | simp) rfl) ?c1 ?c2 ?c3 ?_))
  case c1 => simp; omega
  case c2 => simp [maxLen]; omega
  case c3 => simp; omega
  intro v2 w2 own2 hgr
  have b2 := b_grown (b_alloc b1 _) hgr (OS.block own1)
  have own2 : OS 5 1 cU8 w2 w.heap.size v2 (padZs l 0) := by simpa [padZs] using own2
  clear hgr own1 b1 s1
  go_wp2_with fail
  go_loopw [4] (fun v wr => ∃ z : Nat, z ≤ padZ l.length ∧ OS 5 1 cU8 wr w.heap.size v (padZs l z) ∧ Below w.heap.size w wr) (fun v _ => 4000 - (match v with | .slice _ n _ => n | _ => 0))
  case atStart => exact ⟨0, by omega, own2, b2⟩
  case round =>
    obtain ⟨z, hz, hown, hb⟩ := hrel
    obtain ⟨ad, cp, rfl, hlcp, hcpm, hno2⟩ := OS.len_le hown
    have hlz := padZs_len l z
    unfold maxLen at hcpm
    have hs := hb.size
    by_cases hlt : z < padZ l.length
    · have hne := padZ_least l.length z hlt
      have hln : (padZs l z).length ≤ 2100 := by rw [hlz]; omega
      have q1 : ((((padZs l z).length : Int) + 8) % 64 != 0) = true := by rw [hlz]; simp; omega
      have hsn := hid (padZs_snoc l z)
      replace hlz := hid hlz
      clear hne
      go_wp2_with (at_builtin; go_must (refine wpL_append flat_u8 rfl (.tmp 19) (.tmp 20) 59 rfl 5 i0 (.int .u8 0) Tryz.underlying59 hi hz0 hz1 hz2 rfl w.heap.size _ (padZs l z) rfl (OS.alloc hown _) _ [0] rfl (one_u8 _ _ _ _ _ (by first | rfl | simp) rfl) ?c1 ?c2 ?c3 ?_))
      case c1 => simp; omega
      case c2 => simp [maxLen]; omega
      case c3 => simp; omega
      intro v' w3 hown1 hgr
      have hb2 := b_grown (b_alloc hb _) hgr (OS.block hown)
      rw [hsn.out] at hown1
      clear hgr hb hown
      obtain ⟨ad2, cp2, rfl, -⟩ := id (OS.len_le hown1)
      have hl2 := hid (padZs_len l (z + 1))
      go_wp2_with fail
      go_roundw
      case rel => exact ⟨z + 1, by omega, hown1, hb2⟩
      case measure => have := hl2.out; have := hlz.out; simp; omega
    · obtain rfl : z = padZ l.length := by omega
      have hsp := padZ_spec l.length
      have hln : (padZs l (padZ l.length)).length ≤ 2100 := by omega
      have q1 : ((((padZs l (padZ l.length)).length : Int) + 8) % 64 != 0) = false := by rw [hlz]; simp; omega
      clear hsp
      replace hlz := hid hlz
      have ev : ∀ k, be (8 * l.length) k = be (8 * l.length) k := fun _ => rfl
      go_wp2_with (at_builtin; go_must (refine wpL_append flat_u8 rfl (.tmp 25) (.tmp 37) 59 rfl 5 i0 (.int .u8 0) Tryz.underlying59 hi hz0 hz1 hz2 rfl w.heap.size _ (padZs l (padZ l.length)) rfl (OS.alloc hown _) _ (be8 (8 * l.length)) rfl (lit8 _ _ _ _ _ _ (by first | rfl | simp) ?c0 rfl (by show 8 ≤ 140737488351232; decide)) ?c1 ?c2 ?c3 ?_))
      case c0 =>
        simp only [be8, List.flatMap_cons, List.flatMap_nil, cU8, be_val, List.cons_append, List.nil_append]
        simp
        omega
      case c1 => show _ + 8 ≤ _; omega
      case c2 => show _ + 8 ≤ maxLen; simp [maxLen]; omega
      case c3 => first | omega | (simp; omega)
      intro v5 w5 own5 hgr
      have b5 := b_grown (b_alloc hb _) hgr (OS.block hown)
      clear hgr
      go_wp2_with fail
      go_ret2
      exact ⟨_, rfl, own5, b5⟩
theorem ref_ShaPad (v : Value) (l : List UInt8) (w : World) (hl : RB w v l) :
    Calls Tryz.prog 193 #[v] w fun e w' => ∃ v', e = .returned (.tuple #[v', .int .i64 (padErr l)]) ∧ RB w' v' (padOut l) ∧ Below w.heap.size w w' := by
  by_cases h : 2000 < l.length
  · refine (ref_ShaPad_no v l w hl h).mono ?_
    rintro e w' ⟨rfl, rfl⟩
    exact ⟨_, by rw [padErr, if_pos h], by rw [padOut, if_pos h]; exact RS.nil, Below.refl _ _⟩
  · refine (ref_ShaPad_ok v l w hl (by omega)).mono ?_
    rintro e w' ⟨v', rfl, ho, hb⟩
    exact ⟨_, by rw [padErr, if_neg h], by rw [padOut, if_neg h]; exact reads_u8 ho (by rw [padRes_len]; have := padZ_lt l.length; omega), hb⟩

def startW : List UInt32 := [0x6a09e667, 0xbb67ae85, 0x3c6ef372, 0xa54ff53a, 0x510e527f, 0x9b05688c, 0x1f83d9ab, 0x5be0cd19]
set_option maxRecDepth 100000 in
theorem roots_start : rootsRest 8 false 20 2 [] = startW := by decide +kernel

set_option maxRecDepth 100000 in
theorem sha_Start (w : World) : Calls Tryz.prog 189 #[] w fun e w' => ∃ v, e = .returned v ∧ RW w' v startW ∧ Below w.heap.size w w' := by
  go_enter Tryz.func189, Tryz.ntmps189
  go_wp2_with fail
  go_ret
  exact ⟨_, rfl, lit32 _ _ _ _ _ _ rfl rfl rfl (by decide), b_alloc (Below.refl _ _) _⟩
end Go.Proofs.YtojebioolflbkaaGreat
