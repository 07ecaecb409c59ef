/-
  word.Rotate, word.Mix and the reference's Rotated, Mixed: what each computes; the law WordTurns.
-/
import Derived.Test.YtaojfpgbpakmpaaW32
import Derived.BigQuiet
import Derived.LoopN
import Derived.Deep.QuietTactic
namespace Go.Proofs.Ytaojfpgbpakmpaa
open Go.RowKit

def rot (x : UInt32) (n : Nat) : UInt32 := UInt32.ofNat ((x.toNat / 2 ^ n) ||| (x.toNat * 2 ^ (32 - n) % 4294967296))

theorem rot_or (x : UInt32) (m : Nat) (_h : m ≤ 31) : bits .or .u32 ((x.toNat : Int) / 2 ^ m) ((x.toNat : Int) * 2 ^ (32 - m) % 4294967296) = ((rot x m).toNat : Int) := by
  have hx : x.toNat < 4294967296 := x.toNat_lt
  have e1 : ((x.toNat : Int) / 2 ^ m) = ((x.toNat / 2 ^ m : Nat) : Int) := by rw [Int.natCast_ediv, Int.natCast_pow]; rfl
  have e2 : ((x.toNat : Int) * 2 ^ (32 - m) % 4294967296) = ((x.toNat * 2 ^ (32 - m) % 4294967296 : Nat) : Int) := by rw [Int.natCast_emod, Int.natCast_mul, Int.natCast_pow]; rfl
  have b1 : x.toNat / 2 ^ m < 4294967296 := Nat.lt_of_le_of_lt (Nat.div_le_self _ _) hx
  have b2 : x.toNat * 2 ^ (32 - m) % 4294967296 < 4294967296 := Nat.mod_lt _ (by decide)
  have b3 : (x.toNat / 2 ^ m ||| x.toNat * 2 ^ (32 - m) % 4294967296) < 2 ^ 32 := Nat.or_lt_two_pow b1 b2
  rw [e1, e2, u32_or_nat _ _ b1 b2]
  unfold rot
  rw [UInt32.toNat_ofNat', Nat.mod_eq_of_lt b3]

theorem rot_or' (x : UInt32) (m : Nat) (h : m ≤ 31) (h0 : 0 < m) : bits .or .u32 ((x.toNat : Int) * 2 ^ (32 - m) % 4294967296) ((x.toNat : Int) / 2 ^ (32 - (32 - m))) = ((rot x m).toNat : Int) := by
  rw [show 32 - (32 - m) = m by omega, ← rot_or x m h]
  have hx : x.toNat < 4294967296 := x.toNat_lt
  have e1 : ((x.toNat : Int) / 2 ^ m) = ((x.toNat / 2 ^ m : Nat) : Int) := by rw [Int.natCast_ediv, Int.natCast_pow]; rfl
  have e2 : ((x.toNat : Int) * 2 ^ (32 - m) % 4294967296) = ((x.toNat * 2 ^ (32 - m) % 4294967296 : Nat) : Int) := by rw [Int.natCast_emod, Int.natCast_mul, Int.natCast_pow]; rfl
  have b1 : x.toNat / 2 ^ m < 4294967296 := Nat.lt_of_le_of_lt (Nat.div_le_self _ _) hx
  have b2 : x.toNat * 2 ^ (32 - m) % 4294967296 < 4294967296 := Nat.mod_lt _ (by decide)
  rw [e1, e2, u32_or_nat _ _ b1 b2, u32_or_nat _ _ b2 b1, Nat.or_comm]

theorem neg_and31 (m : Nat) (h : m ≤ 31) : bits .and .u64 (IntKind.u64.wrap (-(m : Int))) 31 = (((32 - m) % 32 : Nat) : Int) := by
  have key : ∀ k : Fin 32, bits .and .u64 (IntKind.u64.wrap (-((k.val : Nat) : Int))) 31 = (((32 - k.val) % 32 : Nat) : Int) := by decide +kernel
  exact key ⟨m, by omega⟩

theorem rot_zero (x : UInt32) : rot x 0 = x := by
  unfold rot
  have hx : x.toNat < 4294967296 := x.toNat_lt
  rw [Nat.pow_zero, Nat.div_one, show x.toNat * 2 ^ (32 - 0) % 4294967296 = 0 by omega, Nat.or_zero]
  simp

set_option maxRecDepth 100000 in
set_option maxHeartbeats 400000 in
theorem word_rotated (x : UInt32) (n : Int) (w : World) (h0 : 0 ≤ n) (h1 : n ≤ 31) :
    Calls Try.prog 221 #[.int .u32 (x.toNat : Int), .int .i64 n] w fun e w' => e = .returned (.int .u32 ((rot x n.toNat).toNat : Int)) ∧ Below w.heap.size w w' := by
  have hx : x.toNat < 4294967296 := x.toNat_lt
  obtain ⟨m, rfl⟩ := Int.eq_ofNat_of_zero_le h0
  go_enter Try.func221, Try.ntmps221
  go_wp2_with fail
  go_quiet (fail)
  go_wp2_with fail
  go_ret
  exact ⟨ret_i (by rw [Int.toNat_natCast]; exact rot_or x m (by omega)), below_drewN (Below.refl _ _) _⟩

set_option maxRecDepth 100000 in
set_option maxHeartbeats 400000 in
theorem bits_RotateLeft32_zero (x : UInt32) (w : World) :
    Calls Try.prog 222 #[.int .u32 (x.toNat : Int), .int .i64 0] w fun e w' => e = .returned (.int .u32 (x.toNat : Int)) ∧ w = w' := by
  have hx : x.toNat < 4294967296 := x.toNat_lt
  have hn : bits .and .u64 0 31 = 0 := by decide +kernel
  have hz : (x.toNat : Int) / 4294967296 = 0 := by omega
  have ho : bits .or .u32 (x.toNat : Int) 0 = (x.toNat : Int) := by have := u32_or_nat x.toNat 0 hx (by decide); simpa using this
  go_enter Try.func222, Try.ntmps222
  go_wp2_with fail
  go_ret
  first | exact ⟨rfl, rfl⟩ | exact ⟨ret_i (by rw [hz]; exact ho), rfl⟩

set_option maxRecDepth 100000 in
set_option maxHeartbeats 400000 in
theorem bits_RotateLeft32 (x : UInt32) (n : Int) (w : World) (h0 : 0 < n) (h1 : n ≤ 31) :
    Calls Try.prog 222 #[.int .u32 (x.toNat : Int), .int .i64 (-n)] w fun e w' => e = .returned (.int .u32 ((rot x n.toNat).toNat : Int)) ∧ w = w' := by
  have hx : x.toNat < 4294967296 := x.toNat_lt
  obtain ⟨m, rfl⟩ := Int.eq_ofNat_of_zero_le (Int.le_of_lt h0)
  have hn := neg_and31 m (by omega)
  have hr := hid (rot_or' x m (by omega) (by omega))
  rw [Nat.mod_eq_of_lt (by omega), Int.ofNat_sub (by omega)] at hn
  simp only [Int.cast_ofNat_Int] at hn
  go_enter Try.func222, Try.ntmps222
  go_wp2_with fail
  go_ret
  exact ⟨ret_i (by rw [Int.toNat_natCast]; exact hr.out), rfl⟩

def mixW (x : UInt32) (n : Int) : UInt32 :=
  if n = 0 then (rot x 2 ^^^ rot x 13) ^^^ rot x 22 else if n = 1 then (rot x 6 ^^^ rot x 11) ^^^ rot x 25
  else if n = 2 then (rot x 7 ^^^ rot x 18) ^^^ (x >>> 3) else (rot x 17 ^^^ rot x 19) ^^^ (x >>> 10)

theorem shr3 (x : UInt32) : ((x.toNat : Int) / (8 : Int)) = ((x >>> 3).toNat : Int) := by
  rw [UInt32.toNat_shiftRight, Nat.shiftRight_eq_div_pow, Int.natCast_ediv]; rfl
theorem shr10 (x : UInt32) : ((x.toNat : Int) / (1024 : Int)) = ((x >>> 10).toNat : Int) := by
  rw [UInt32.toNat_shiftRight, Nat.shiftRight_eq_div_pow, Int.natCast_ediv]; rfl
theorem xor3 (a b c : UInt32) : bits .xor .u32 (bits .xor .u32 (a.toNat : Int) (b.toNat : Int)) (c.toNat : Int) = (((a ^^^ b) ^^^ c).toNat : Int) := by
  rw [w_xor, w_xor]
theorem ret2_i {k k2 : IntKind} {a b c : Int} (h : a = b) : Ending.returned (.tuple #[.int k a, .int k2 c]) = .returned (.tuple #[.int k b, .int k2 c]) := by rw [h]

set_option maxRecDepth 100000 in
set_option maxHeartbeats 1000000 in
theorem word_Mix (x : UInt32) (n : Int) (w : World) (h0 : 0 ≤ n) (h3 : n ≤ 3) :
    Calls Try.prog 212 #[.int .u32 (x.toNat : Int), .int .i64 n] w fun e w' => e = .returned (.tuple #[.int .u32 ((mixW x n).toNat : Int), .int .i64 0]) ∧ Below w.heap.size w w' := by
  have hx : x.toNat < 4294967296 := x.toNat_lt
  have hn : n = 0 ∨ n = 1 ∨ n = 2 ∨ n = 3 := by omega
  rcases hn with rfl | rfl | rfl | rfl
  · go_enter Try.func212, Try.ntmps212
    go_wp2_with fail
    refine (word_rotated x 2 _ (by decide) (by decide)).mono ?_
    rintro e w1 ⟨rfl, b1⟩
    go_wp2_with fail
    refine (word_rotated x 13 _ (by decide) (by decide)).mono ?_
    rintro e w2 ⟨rfl, b2⟩
    go_wp2_with fail
    refine (word_rotated x 22 _ (by decide) (by decide)).mono ?_
    rintro e w3 ⟨rfl, b3⟩
    go_wp2_with fail
    have b := b_call (b_call b1 b2) b3
    go_ret2
    refine ⟨?_, b⟩
    exact ret2_i (xor3 _ _ _)
  · go_enter Try.func212, Try.ntmps212
    go_wp2_with fail
    refine (word_rotated x 6 _ (by decide) (by decide)).mono ?_
    rintro e w1 ⟨rfl, b1⟩
    go_wp2_with fail
    refine (word_rotated x 11 _ (by decide) (by decide)).mono ?_
    rintro e w2 ⟨rfl, b2⟩
    go_wp2_with fail
    refine (word_rotated x 25 _ (by decide) (by decide)).mono ?_
    rintro e w3 ⟨rfl, b3⟩
    go_wp2_with fail
    have b := b_call (b_call b1 b2) b3
    go_ret2
    refine ⟨?_, b⟩
    exact ret2_i (xor3 _ _ _)
  · go_enter Try.func212, Try.ntmps212
    go_wp2_with fail
    refine (word_rotated x 7 _ (by decide) (by decide)).mono ?_
    rintro e w1 ⟨rfl, b1⟩
    go_wp2_with fail
    refine (word_rotated x 18 _ (by decide) (by decide)).mono ?_
    rintro e w2 ⟨rfl, b2⟩
    go_wp2_with fail
    have b := b_call b1 b2
    go_ret2
    refine ⟨?_, b⟩
    exact ret2_i (by rw [shr3, xor3]; rfl)
  · go_enter Try.func212, Try.ntmps212
    go_wp2_with fail
    refine (word_rotated x 17 _ (by decide) (by decide)).mono ?_
    rintro e w1 ⟨rfl, b1⟩
    go_wp2_with fail
    refine (word_rotated x 19 _ (by decide) (by decide)).mono ?_
    rintro e w2 ⟨rfl, b2⟩
    go_wp2_with fail
    have b := b_call b1 b2
    go_ret2
    refine ⟨?_, b⟩
    exact ret2_i (by rw [shr10, xor3]; rfl)

theorem xor0 (a : UInt32) : bits .xor .u32 0 (a.toNat : Int) = (a.toNat : Int) := by
  have h := w_xor 0 a
  rw [show (0 : UInt32) ^^^ a = a by simp] at h
  exact h
theorem xor0_3 (a b c : UInt32) : bits .xor .u32 (bits .xor .u32 (bits .xor .u32 0 (a.toNat : Int)) (b.toNat : Int)) (c.toNat : Int) = (((a ^^^ b) ^^^ c).toNat : Int) := by
  rw [xor0, xor3]

set_option maxRecDepth 100000 in
theorem word_Mix_no (x : UInt32) (n : Int) (w : World) (h : n < 0 ∨ 3 < n) :
    Calls Try.prog 212 #[.int .u32 (x.toNat : Int), .int .i64 n] w fun e w' => e = .returned (.tuple #[.int .u32 0, .int .i64 2]) ∧ w = w' := by
  have q0 : (n == 0) = false := by simp; omega
  have q1 : (n == 1) = false := by simp; omega
  have q2 : (n == 2) = false := by simp; omega
  have q3 : (n == 3) = false := by simp; omega
  · go_enter Try.func212, Try.ntmps212
    go_wp2_with fail
    go_ret2
    exact ⟨rfl, rfl⟩

end Go.Proofs.Ytaojfpgbpakmpaa
