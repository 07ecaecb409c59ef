/-
  word.Choose, word.Most and the reference's Chosen, MostOf: what each computes. word.Rotate, word.Mix and the reference's Rotated, Mixed: what each computes; the law WordTurns. word.Words, word.Bytes and the reference's WordsOf, WordBytes: what each computes; the law WordBytes. The reference's WordsOf: what it computes. word.Bytes and the reference's WordBytes: what they compute; the law WordBytes. The reference's WordBytes: what it computes; the law WordBytes. sameWords of the laws: two slices that read as one list are the same.
-/
import Derived.Test.YtpcnhldlfmdlhaaGreatDoorSxBas
import Derived.Test.YtpcnhldlfmdlhaaGreatDoorSxWir
import Derived.BigQuiet
import Derived.Deep.QuietTactic
import Derived.LoopN
import Derived.Deep.RegionHeld3
import Derived.Deep.AppendLies
import Derived.WalkSpells
import Derived.StillTactics
import Derived.OwnWalk
namespace Go.Proofs.YtpcnhldlfmdlhaaGreatDoor
open Go.RowKit

def choose (x y z : UInt32) : UInt32 := (x &&& y) ||| (~~~x &&& z)
def most (x y z : UInt32) : UInt32 := ((x &&& y) ||| (x &&& z)) ||| (y &&& z)

set_option maxRecDepth 100000 in
set_option maxHeartbeats 400000 in
theorem word_Choose (x y z : UInt32) (w : World) :
    Calls Tryz.prog 149 #[.int .u32 (x.toNat : Int), .int .u32 (y.toNat : Int), .int .u32 (z.toNat : Int)] w fun e w' => e = .returned (.int .u32 ((choose x y z).toNat : Int)) ∧ w = w' := by
  go_enter Tryz.func149, Tryz.ntmps149
  go_wp2
  go_ret
  exact ⟨ret_i (by rw [w_not, w_and, w_and, w_or]; rfl), rfl⟩

set_option maxRecDepth 100000 in
set_option maxHeartbeats 400000 in
theorem word_Most (x y z : UInt32) (w : World) :
    Calls Tryz.prog 150 #[.int .u32 (x.toNat : Int), .int .u32 (y.toNat : Int), .int .u32 (z.toNat : Int)] w fun e w' => e = .returned (.int .u32 ((most x y z).toNat : Int)) ∧ w = w' := by
  go_enter Tryz.func150, Tryz.ntmps150
  go_wp2
  go_ret
  exact ⟨ret_i (by rw [w_and, w_and, w_and, w_or, w_or]; rfl), rfl⟩

end Go.Proofs.YtpcnhldlfmdlhaaGreatDoor

namespace Go.Proofs.YtpcnhldlfmdlhaaGreatDoor
open Go.RowKit

def rot (x : UInt32) (n : Nat) : UInt32 := UInt32.ofNat ((x.toNat / 2 ^ n) ||| (x.toNat * 2 ^ (32 - n) % 4294967296))

theorem rot_or (x : UInt32) (m : Nat) (_h : m ≤ 31) : bits .or .u32 ((x.toNat : Int) / 2 ^ m) ((x.toNat : Int) * 2 ^ (32 - m) % 4294967296) = ((rot x m).toNat : Int) := by
  have hx : x.toNat < 4294967296 := x.toNat_lt
  have e1 : ((x.toNat : Int) / 2 ^ m) = ((x.toNat / 2 ^ m : Nat) : Int) := by rw [Int.natCast_ediv, Int.natCast_pow]; rfl
  have e2 : ((x.toNat : Int) * 2 ^ (32 - m) % 4294967296) = ((x.toNat * 2 ^ (32 - m) % 4294967296 : Nat) : Int) := by rw [Int.natCast_emod, Int.natCast_mul, Int.natCast_pow]; rfl
  have b1 : x.toNat / 2 ^ m < 4294967296 := Nat.lt_of_le_of_lt (Nat.div_le_self _ _) hx
  have b2 : x.toNat * 2 ^ (32 - m) % 4294967296 < 4294967296 := Nat.mod_lt _ (by decide)
  have b3 : (x.toNat / 2 ^ m ||| x.toNat * 2 ^ (32 - m) % 4294967296) < 2 ^ 32 := Nat.or_lt_two_pow b1 b2
  rw [e1, e2, u32_or_nat _ _ b1 b2]
  unfold rot
  rw [UInt32.toNat_ofNat', Nat.mod_eq_of_lt b3]

theorem rot_or' (x : UInt32) (m : Nat) (h : m ≤ 31) (h0 : 0 < m) : bits .or .u32 ((x.toNat : Int) * 2 ^ (32 - m) % 4294967296) ((x.toNat : Int) / 2 ^ (32 - (32 - m))) = ((rot x m).toNat : Int) := by
  rw [show 32 - (32 - m) = m by omega, ← rot_or x m h]
  have hx : x.toNat < 4294967296 := x.toNat_lt
  have e1 : ((x.toNat : Int) / 2 ^ m) = ((x.toNat / 2 ^ m : Nat) : Int) := by rw [Int.natCast_ediv, Int.natCast_pow]; rfl
  have e2 : ((x.toNat : Int) * 2 ^ (32 - m) % 4294967296) = ((x.toNat * 2 ^ (32 - m) % 4294967296 : Nat) : Int) := by rw [Int.natCast_emod, Int.natCast_mul, Int.natCast_pow]; rfl
  have b1 : x.toNat / 2 ^ m < 4294967296 := Nat.lt_of_le_of_lt (Nat.div_le_self _ _) hx
  have b2 : x.toNat * 2 ^ (32 - m) % 4294967296 < 4294967296 := Nat.mod_lt _ (by decide)
  rw [e1, e2, u32_or_nat _ _ b1 b2, u32_or_nat _ _ b2 b1, Nat.or_comm]

theorem neg_and31 (m : Nat) (h : m ≤ 31) : bits .and .u64 (IntKind.u64.wrap (-(m : Int))) 31 = (((32 - m) % 32 : Nat) : Int) := by
  have key : ∀ k : Fin 32, bits .and .u64 (IntKind.u64.wrap (-((k.val : Nat) : Int))) 31 = (((32 - k.val) % 32 : Nat) : Int) := by decide +kernel
  exact key ⟨m, by omega⟩

set_option maxRecDepth 100000 in
set_option maxHeartbeats 400000 in
theorem word_rotated (x : UInt32) (n : Int) (w : World) (h0 : 0 ≤ n) (h1 : n ≤ 31) :
    Calls Tryz.prog 159 #[.int .u32 (x.toNat : Int), .int .i64 n] w fun e w' => e = .returned (.int .u32 ((rot x n.toNat).toNat : Int)) ∧ Below w.heap.size w w' := by
  have hx : x.toNat < 4294967296 := x.toNat_lt
  obtain ⟨m, rfl⟩ := Int.eq_ofNat_of_zero_le h0
  go_enter Tryz.func159, Tryz.ntmps159
  go_wp2_with fail
  go_quiet (fail)
  go_wp2_with fail
  go_ret
  exact ⟨ret_i (by rw [Int.toNat_natCast]; exact rot_or x m (by omega)), below_drewN (Below.refl _ _) _⟩

set_option maxRecDepth 100000 in
set_option maxHeartbeats 400000 in
theorem bits_RotateLeft32 (x : UInt32) (n : Int) (w : World) (h0 : 0 < n) (h1 : n ≤ 31) :
    Calls Tryz.prog 161 #[.int .u32 (x.toNat : Int), .int .i64 (-n)] w fun e w' => e = .returned (.int .u32 ((rot x n.toNat).toNat : Int)) ∧ w = w' := by
  have hx : x.toNat < 4294967296 := x.toNat_lt
  obtain ⟨m, rfl⟩ := Int.eq_ofNat_of_zero_le (Int.le_of_lt h0)
  have hn := neg_and31 m (by omega)
  have hr := hid (rot_or' x m (by omega) (by omega))
  rw [Nat.mod_eq_of_lt (by omega), Int.ofNat_sub (by omega)] at hn
  simp only [Int.cast_ofNat_Int] at hn
  go_enter Tryz.func161, Tryz.ntmps161
  go_wp2_with fail
  go_ret
  exact ⟨ret_i (by rw [Int.toNat_natCast]; exact hr.out), rfl⟩

def mixW (x : UInt32) (n : Int) : UInt32 :=
  if n = 0 then (rot x 2 ^^^ rot x 13) ^^^ rot x 22 else if n = 1 then (rot x 6 ^^^ rot x 11) ^^^ rot x 25
  else if n = 2 then (rot x 7 ^^^ rot x 18) ^^^ (x >>> 3) else (rot x 17 ^^^ rot x 19) ^^^ (x >>> 10)

theorem shr3 (x : UInt32) : ((x.toNat : Int) / (8 : Int)) = ((x >>> 3).toNat : Int) := by
  rw [UInt32.toNat_shiftRight, Nat.shiftRight_eq_div_pow, Int.natCast_ediv]; rfl
theorem shr10 (x : UInt32) : ((x.toNat : Int) / (1024 : Int)) = ((x >>> 10).toNat : Int) := by
  rw [UInt32.toNat_shiftRight, Nat.shiftRight_eq_div_pow, Int.natCast_ediv]; rfl
theorem xor3 (a b c : UInt32) : bits .xor .u32 (bits .xor .u32 (a.toNat : Int) (b.toNat : Int)) (c.toNat : Int) = (((a ^^^ b) ^^^ c).toNat : Int) := by
  rw [w_xor, w_xor]
theorem ret2_i {k k2 : IntKind} {a b c : Int} (h : a = b) : Ending.returned (.tuple #[.int k a, .int k2 c]) = .returned (.tuple #[.int k b, .int k2 c]) := by rw [h]

set_option maxRecDepth 100000 in
set_option maxHeartbeats 1000000 in
theorem word_Mix (x : UInt32) (n : Int) (w : World) (h0 : 0 ≤ n) (h3 : n ≤ 3) :
    Calls Tryz.prog 148 #[.int .u32 (x.toNat : Int), .int .i64 n] w fun e w' => e = .returned (.tuple #[.int .u32 ((mixW x n).toNat : Int), .int .i64 0]) ∧ Below w.heap.size w w' := by
  have hx : x.toNat < 4294967296 := x.toNat_lt
  have hn : n = 0 ∨ n = 1 ∨ n = 2 ∨ n = 3 := by omega
  rcases hn with rfl | rfl | rfl | rfl
  · go_enter Tryz.func148, Tryz.ntmps148
    go_wp2_with fail
    refine (word_rotated x 2 _ (by decide) (by decide)).mono ?_
    rintro e w1 ⟨rfl, b1⟩
    go_wp2_with fail
    refine (word_rotated x 13 _ (by decide) (by decide)).mono ?_
    rintro e w2 ⟨rfl, b2⟩
    go_wp2_with fail
    refine (word_rotated x 22 _ (by decide) (by decide)).mono ?_
    rintro e w3 ⟨rfl, b3⟩
    go_wp2_with fail
    have b := b_call (b_call b1 b2) b3
    go_ret2
    refine ⟨?_, b⟩
    exact ret2_i (xor3 _ _ _)
  · go_enter Tryz.func148, Tryz.ntmps148
    go_wp2_with fail
    refine (word_rotated x 6 _ (by decide) (by decide)).mono ?_
    rintro e w1 ⟨rfl, b1⟩
    go_wp2_with fail
    refine (word_rotated x 11 _ (by decide) (by decide)).mono ?_
    rintro e w2 ⟨rfl, b2⟩
    go_wp2_with fail
    refine (word_rotated x 25 _ (by decide) (by decide)).mono ?_
    rintro e w3 ⟨rfl, b3⟩
    go_wp2_with fail
    have b := b_call (b_call b1 b2) b3
    go_ret2
    refine ⟨?_, b⟩
    exact ret2_i (xor3 _ _ _)
  · go_enter Tryz.func148, Tryz.ntmps148
    go_wp2_with fail
    refine (word_rotated x 7 _ (by decide) (by decide)).mono ?_
    rintro e w1 ⟨rfl, b1⟩
    go_wp2_with fail
    refine (word_rotated x 18 _ (by decide) (by decide)).mono ?_
    rintro e w2 ⟨rfl, b2⟩
    go_wp2_with fail
    have b := b_call b1 b2
    go_ret2
    refine ⟨?_, b⟩
    exact ret2_i (by rw [shr3, xor3]; rfl)
  · go_enter Tryz.func148, Tryz.ntmps148
    go_wp2_with fail
    refine (word_rotated x 17 _ (by decide) (by decide)).mono ?_
    rintro e w1 ⟨rfl, b1⟩
    go_wp2_with fail
    refine (word_rotated x 19 _ (by decide) (by decide)).mono ?_
    rintro e w2 ⟨rfl, b2⟩
    go_wp2_with fail
    have b := b_call b1 b2
    go_ret2
    refine ⟨?_, b⟩
    exact ret2_i (by rw [shr10, xor3]; rfl)

end Go.Proofs.YtpcnhldlfmdlhaaGreatDoor

namespace Go.Proofs.YtpcnhldlfmdlhaaGreatDoor
open Go.RowKit

def wordOf (a b c d : UInt8) : UInt32 := UInt32.ofNat (2 ^ 24 * a.toNat + (2 ^ 16 * b.toNat + (2 ^ 8 * c.toNat + d.toNat)))
theorem wordOf_nat (a b c d : UInt8) : (wordOf a b c d).toNat = 2 ^ 24 * a.toNat + (2 ^ 16 * b.toNat + (2 ^ 8 * c.toNat + d.toNat)) := by
  have := a.toNat_lt; have := b.toNat_lt; have := c.toNat_lt; have := d.toNat_lt
  unfold wordOf
  rw [UInt32.toNat_ofNat']
  omega
theorem word_or (a b c d : UInt8) : bits .or .u32 (bits .or .u32 (bits .or .u32 ((a.toNat : Int) * 16777216) ((b.toNat : Int) * 65536)) ((c.toNat : Int) * 256)) (d.toNat : Int) = ((wordOf a b c d).toNat : Int) := by
  have ha := a.toNat_lt; have hb := b.toNat_lt; have hc := c.toNat_lt; have hd := d.toNat_lt
  have e1 : ((a.toNat : Int) * 16777216) = ((a.toNat * 16777216 : Nat) : Int) := by omega
  have e2 : ((b.toNat : Int) * 65536) = ((b.toNat * 65536 : Nat) : Int) := by omega
  have e3 : ((c.toNat : Int) * 256) = ((c.toNat * 256 : Nat) : Int) := by omega
  have o1 : a.toNat * 16777216 ||| b.toNat * 65536 = a.toNat * 16777216 + b.toNat * 65536 := by
    rw [Nat.mul_comm a.toNat, show 16777216 = 2 ^ 24 from rfl, ← Nat.two_pow_add_eq_or_of_lt (by omega)]
  have o2 : (a.toNat * 16777216 + b.toNat * 65536) ||| c.toNat * 256 = a.toNat * 16777216 + b.toNat * 65536 + c.toNat * 256 := by
    rw [show a.toNat * 16777216 + b.toNat * 65536 = 2 ^ 16 * (a.toNat * 256 + b.toNat) by omega, ← Nat.two_pow_add_eq_or_of_lt (by omega)]
  have o3 : (a.toNat * 16777216 + b.toNat * 65536 + c.toNat * 256) ||| d.toNat = a.toNat * 16777216 + b.toNat * 65536 + c.toNat * 256 + d.toNat := by
    rw [show a.toNat * 16777216 + b.toNat * 65536 + c.toNat * 256 = 2 ^ 8 * (a.toNat * 65536 + b.toNat * 256 + c.toNat) by omega, ← Nat.two_pow_add_eq_or_of_lt (by omega)]
  rw [e1, e2, e3, u32_or_nat _ _ (by omega) (by omega), o1, u32_or_nat _ _ (by omega) (by omega), o2, u32_or_nat _ _ (by omega) (by omega), o3, wordOf_nat]
  omega

theorem word_or' (a b c d : UInt8) : bits .or .u32 (bits .or .u32 (bits .or .u32 (IntKind.u32.wrap (IntKind.u32.wrap (a.toNat : Int) * 16777216)) (IntKind.u32.wrap (IntKind.u32.wrap (b.toNat : Int) * 65536))) (IntKind.u32.wrap (IntKind.u32.wrap (c.toNat : Int) * 256))) (IntKind.u32.wrap (d.toNat : Int)) = ((wordOf a b c d).toNat : Int) := by
  have ha := a.toNat_lt; have hb := b.toNat_lt; have hc := c.toNat_lt; have hd := d.toNat_lt
  have key : ∀ n : Int, 0 ≤ n → n < 4294967296 → IntKind.u32.wrap n = n := fun n h0 h1 => IntWalk.u32_in _ (by omega)
  rw [key (a.toNat : Int) (by omega) (by omega), key (b.toNat : Int) (by omega) (by omega), key (c.toNat : Int) (by omega) (by omega), key (d.toNat : Int) (by omega) (by omega),
    key ((a.toNat : Int) * 16777216) (by omega) (by omega), key ((b.toNat : Int) * 65536) (by omega) (by omega), key ((c.toNat : Int) * 256) (by omega) (by omega)]
  exact word_or a b c d

theorem RB.block {w : World} {v : Value} {l : List UInt8} (h : RB w v l) (hne : 0 < l.length) : ∃ b off c, v = .slice (some ⟨b, off, none⟩) l.length c ∧ b < w.heap.size ∧ l.length ≤ c ∧ c ≤ maxLen ∧ ∀ k (hk : k < l.length), w.cell? ⟨b, off + k, none⟩ = some (.int .u8 (l[k].toNat : Int)) := by
  obtain ⟨a, c, rfl, hlc, hcm, hre, hno, hat⟩ := h
  obtain ⟨b, off, rfl, hlt, _⟩ := hat 0 _ (List.getElem?_eq_getElem hne)
  refine ⟨b, off, c, rfl, hlt, hlc, hcm, fun k hk => ?_⟩
  obtain ⟨b', off', hb, _, he⟩ := hat k _ (List.getElem?_eq_getElem hk)
  simp only [Option.some.injEq, Addr.mk.injEq, and_true] at hb
  obtain ⟨rfl, rfl⟩ := hb
  rw [Nat.mul_one] at he
  exact he

def wordAt (l : List UInt8) (k : Nat) : UInt32 := if h : 4 * k + 3 < l.length then wordOf l[4 * k] l[4 * k + 1] l[4 * k + 2] (l[4 * k + 3]'h) else 0
theorem wordAt_val (l : List UInt8) (k m : Nat) (hm : m = 4 * k) (h : m + 3 < l.length) : wordAt l k = wordOf l[m] l[m + 1] l[m + 2] l[m + 3] := by
  subst hm
  unfold wordAt
  rw [dif_pos h]
def wordsDec (l : List UInt8) (k : Nat) : List UInt32 := (List.range k).map (wordAt l)
theorem wordsDec_len (l : List UInt8) (k : Nat) : (wordsDec l k).length = k := by simp [wordsDec]
theorem wordsDec_snoc (l : List UInt8) (k : Nat) : wordsDec l (k + 1) = wordsDec l k ++ [wordAt l k] := by simp [wordsDec, List.range_succ]
theorem info_u32 : (Tryz.prog.info? 133).map (fun i => (i.zero, i.size, i.bytes)) = some (some (.int .u32 0), 1, 4) := by kernel_rfl

set_option maxRecDepth 100000 in
set_option maxHeartbeats 1000000 in
theorem word_Words (v : Value) (l : List UInt8) (w : World) (hl : RB w v l) (h : l.length ≤ 2072) (h2 : l.length % 4 = 0) :
    Calls Tryz.prog 123 #[v] w fun e w' => ∃ v', e = .returned (.tuple #[v', .int .i64 0]) ∧ OS 133 1 cU32 w' w.heap.size v' (wordsDec l (l.length / 4)) ∧ Below w.heap.size w w' := by
  obtain ⟨i0, hi, hz0, hz1, hz2⟩ := info_parts info_u32
  obtain ⟨w1, hmk, how, hgr⟩ := run_make_own w w.heap.size 157 133 i0 (.int .u32 0) 1 Tryz.underlying157 hi hz0 hz1 .i64 .i64 (l.length / 4) (by rw [hz2]; omega) (by simp [maxLen]; omega) (Nat.le_refl _)
  have ho1 : OS 133 1 cU32 w1 w.heap.size (.slice (some ⟨w.heap.size, 0, none⟩) 0 (l.length / 4)) [] := how
  rw [Int.natCast_ediv] at hmk
  simp only [Int.cast_ofNat_Int] at hmk
  have hb1 : Below w.heap.size w w1 := b_grown (v := .slice none 0 0) (Below.refl _ _) hgr (fun k hk => by simp [Value.ownBlock] at hk)
  clear how hgr
  have q2 : ((l.length : Int) % 4 != 0) = false := by simp; omega
  have q4 : decide (2072 < (l.length : Int)) = false := by simp; omega
  have hR := hl
  obtain ⟨a, c, rfl, hlc, hcm, hre, hno, _⟩ := hl
  unfold maxLen at hcm
  generalize hB : w.heap.size = B at *
  generalize Value.slice (some ⟨B, 0, none⟩) 0 (l.length / 4) = v1 at *
  go_enter Tryz.func123, Tryz.ntmps123
  go_wp2_with fail
  go_loopw [4, 5] (fun v i wr => ∃ (m : Nat), i = .int .i64 (m : Int) ∧ m % 4 = 0 ∧ m ≤ l.length ∧ OS 133 1 cU32 wr B v (wordsDec l (m / 4)) ∧ Below B w wr) (fun _ i _ => l.length - (intOf i).toNat)
  case atStart => exact ⟨0, rfl, rfl, by omega, ho1, hb1⟩
  case round =>
    obtain ⟨m, rfl, hm, hk, hown, hb⟩ := hrel
    by_cases hlt : m < l.length
    · have hlt3 : m + 3 < l.length := by omega
      obtain ⟨b, off, c', hv, hbl, _, _, hc⟩ := RB.block hR (by omega)
      simp only [Value.slice.injEq] at hv
      obtain ⟨rfl, -, -⟩ := hv
      have c0 := cell_stays (hB ▸ hb) hbl (hc m hlt)
      have c1 := cell_stays (hB ▸ hb) hbl (hc (m + 1) (by omega))
      have c2 := cell_stays (hB ▸ hb) hbl (hc (m + 2) (by omega))
      have c3 := cell_stays (hB ▸ hb) hbl (hc (m + 3) hlt3)
      have hwa := hid (wordAt_val l (m / 4) m (by omega) hlt3)
      clear hc hR
      generalize l[m] = x0 at *
      generalize l[m + 1] = x1 at *
      generalize l[m + 2] = x2 at *
      generalize l[m + 3] = x3 at *
      have hwo := word_or' x0 x1 x2 x3
      have r0 := x0.toNat_lt; have r1 := x1.toNat_lt; have r2 := x2.toNat_lt; have r3 := x3.toNat_lt
      have hs := hb.size
      replace hm := hid hm
      have w1 : IntKind.i64.wrap ((m : Int) + 1) = (m : Int) + 1 := IntWalk.i64_in _ (by omega)
      have w2 : IntKind.i64.wrap ((m : Int) + 2) = (m : Int) + 2 := IntWalk.i64_in _ (by omega)
      have w3 : IntKind.i64.wrap ((m : Int) + 3) = (m : Int) + 3 := IntWalk.i64_in _ (by omega)
      have g0 : (0 : Int) ≤ (m : Int) ∧ (m : Int) < (l.length : Int) := by omega
      have g1 : (0 : Int) ≤ (m : Int) + 1 ∧ (m : Int) + 1 < (l.length : Int) := by omega
      have g2 : (0 : Int) ≤ (m : Int) + 2 ∧ (m : Int) + 2 < (l.length : Int) := by omega
      have g3 : (0 : Int) ≤ (m : Int) + 3 ∧ (m : Int) + 3 < (l.length : Int) := by omega
      have n2 : ((m : Int) + 2).toNat = m + 2 := by omega
      have n3 : ((m : Int) + 3).toNat = m + 3 := by omega
      have hne : u4.ownBlock ≠ some b := fun h => by have := OS.block hown b h; omega
      have hlen := wordsDec_len l (m / 4)
      have ho : wr.ownsRow B 133 1 u4 (wordsDec l (m / 4)).length ((wordsDec l (m / 4)).flatMap cU32) := hown
      rw [hlen] at ho
      go_wp2_with fail
      go_region_held3 (fun w' => w'.cell? ⟨b, off + m, none⟩ = some (.int .u8 (x0.toNat : Int)) ∧ w'.cell? ⟨b, off + (m + 1), none⟩ = some (.int .u8 (x1.toNat : Int)) ∧ w'.cell? ⟨b, off + (m + 2), none⟩ = some (.int .u8 (x2.toNat : Int)) ∧ w'.cell? ⟨b, off + (m + 3), none⟩ = some (.int .u8 (x3.toNat : Int)))
        (first
          | go_keep
          | (go_split_ands
             refine ⟨?_, ?_, ?_, ?_⟩
             all_goals (rw [hgrow.cell_far _ (by simp; omega) (Ne.symm hne)]; assumption)))
        ((refine step_append_lies _ (by rfl) _ _ _ (by rfl) B 133 i0 _ 1 4 Tryz.underlying157 hi hz0 hz1 hz2 rfl (by omega) u4 (m / 4) ((wordsDec l (m / 4)).flatMap cU32) (by rfl) ((ho.alloc _).drew)
              ⟨wr.heap.size, 0, none⟩ 1 1 [.int .u32 ((wordOf x0 x1 x2 x3).toNat : Int)] (by rfl) (by rfl) (World.news_of_block (cs := #[.int .u32 ((wordOf x0 x1 x2 x3).toNat : Int)]) (t := 133) (fr := (0, 0)) (heap_alloc_new wr _)) (by simp [Value.oneCell'])
              (by omega) (by simp [maxLen]; omega) (by omega) (by simp; omega) (wr.heap.size + 1) (by simp) ?_; intro gg cap w1 hown1 hgrow hat hlt))
      rename_i hHeld
      have ho2 : OS 133 1 cU32 w1 B (.slice (some ⟨gg, 0, none⟩) (m / 4 + 1) cap) (wordsDec l (m / 4 + 1)) := by
        unfold OS
        rw [wordsDec_len, wordsDec_snoc, hwa.out, List.flatMap_append]
        exact hown1
      have hb2 := b_grown (v := u4) (Below.drew (b_alloc (hB ▸ hb) _)) hgrow (hB ▸ OS.block hown)
      clear hgrow hb hown hown1 ho hwo hne hHeld
      go_wp2_with fail
      go_roundw
      case rel => exact ⟨m + 4, by go_num, by have := hm.out; omega, by have := hm.out; omega, by rw [show (m + 4) / 4 = m / 4 + 1 by omega]; exact ho2, hB ▸ hb2⟩
      case measure => simp [intOf]; omega
    · go_wp2_with fail
      go_ret2
      obtain rfl : m = l.length := by omega
      exact ⟨_, rfl, hown, hb⟩

end Go.Proofs.YtpcnhldlfmdlhaaGreatDoor

namespace Go.Proofs.YtpcnhldlfmdlhaaGreatDoor
open Go.RowKit

def accN (l : List UInt8) (q : Nat) : Nat → Nat
  | 0 => 0
  | r + 1 => accN l q r * 256 + (l.getD (4 * q + r) 0).toNat
theorem accN_lt (l : List UInt8) (q : Nat) : ∀ r, accN l q r < 256 ^ r
  | 0 => by simp [accN]
  | r + 1 => by
    have h := accN_lt l q r
    have h2 := (l.getD (4 * q + r) 0).toNat_lt
    rw [Nat.pow_succ]
    unfold accN
    omega
theorem accN_word (l : List UInt8) (q : Nat) (h : 4 * q + 3 < l.length) : UInt32.ofNat (accN l q 4) = wordAt l q := by
  have d0 : l.getD (4 * q + 0) 0 = l[4 * q] := by simp [List.getD_eq_getElem?_getD, List.getElem?_eq_getElem (show 4 * q < l.length by omega)]
  have d1 : l.getD (4 * q + 1) 0 = l[4 * q + 1] := by simp [List.getD_eq_getElem?_getD, List.getElem?_eq_getElem (show 4 * q + 1 < l.length by omega)]
  have d2 : l.getD (4 * q + 2) 0 = l[4 * q + 2] := by simp [List.getD_eq_getElem?_getD, List.getElem?_eq_getElem (show 4 * q + 2 < l.length by omega)]
  have d3 : l.getD (4 * q + 3) 0 = l[4 * q + 3] := by simp [List.getD_eq_getElem?_getD, List.getElem?_eq_getElem h]
  have e : accN l q 4 = (((0 * 256 + (l.getD (4 * q + 0) 0).toNat) * 256 + (l.getD (4 * q + 1) 0).toNat) * 256 + (l.getD (4 * q + 2) 0).toNat) * 256 + (l.getD (4 * q + 3) 0).toNat := rfl
  rw [d0, d1, d2, d3] at e
  rw [wordAt_val l q (4 * q) rfl h, e]
  unfold wordOf
  refine congrArg UInt32.ofNat ?_
  omega
def wordsPart (l : List UInt8) (m : Nat) : List UInt32 := wordsDec l (m / 4) ++ (if m % 4 = 0 then [] else [UInt32.ofNat (accN l (m / 4) (m % 4))])
theorem wordsPart_full (l : List UInt8) (m : Nat) (h : m % 4 = 0) : wordsPart l m = wordsDec l (m / 4) := by unfold wordsPart; rw [if_pos h, List.append_nil]
theorem wordsPart_mid (l : List UInt8) (m : Nat) (h : m % 4 ≠ 0) : wordsPart l m = wordsDec l (m / 4) ++ [UInt32.ofNat (accN l (m / 4) (m % 4))] := by unfold wordsPart; rw [if_neg h]
theorem wordsPart_len (l : List UInt8) (m : Nat) : (wordsPart l m).length = (m + 3) / 4 := by
  unfold wordsPart
  split
  · rw [List.append_nil, wordsDec_len]; omega
  · rw [List.length_append, wordsDec_len]; simp; omega
theorem wordsPart_set (l : List UInt8) (m : Nat) (y : UInt32) (h : m < l.length) (hl : l.length % 4 = 0) : (wordsDec l (m / 4) ++ [y]).set (m / 4) (UInt32.ofNat (accN l (m / 4) (m % 4 + 1))) = wordsPart l (m + 1) := by
  rw [List.set_append_right _ _ (by rw [wordsDec_len]; exact Nat.le_refl _), wordsDec_len, Nat.sub_self]
  show wordsDec l (m / 4) ++ [UInt32.ofNat (accN l (m / 4) (m % 4 + 1))] = _
  by_cases h3 : m % 4 = 3
  · rw [wordsPart_full l (m + 1) (by omega), show (m + 1) / 4 = m / 4 + 1 by omega, wordsDec_snoc, h3, accN_word l (m / 4) (by omega)]
  · rw [wordsPart_mid l (m + 1) (by omega), show (m + 1) / 4 = m / 4 by omega, show (m + 1) % 4 = m % 4 + 1 by omega]
theorem acc_val (l : List UInt8) (m : Nat) (h : m < l.length) (y : UInt32) (hy : y.toNat = accN l (m / 4) (m % 4)) : y.toNat < 16777216 ∧ ((y.toNat : Int) * 256 + (l[m].toNat : Int)) = ((UInt32.ofNat (accN l (m / 4) (m % 4 + 1))).toNat : Int) := by
  have hb := accN_lt l (m / 4) (m % 4)
  have h3 : 256 ^ (m % 4) ≤ 256 ^ 3 := Nat.pow_le_pow_right (by decide) (by omega)
  have hx := l[m].toNat_lt
  refine ⟨by omega, ?_⟩
  rw [UInt32.toNat_ofNat', accN, show 4 * (m / 4) + m % 4 = m by omega, List.getD_eq_getElem?_getD, List.getElem?_eq_getElem h, Option.getD_some]
  omega
theorem acc_toNat (l : List UInt8) (m : Nat) : (UInt32.ofNat (accN l (m / 4) (m % 4))).toNat = accN l (m / 4) (m % 4) := by
  have hb := accN_lt l (m / 4) (m % 4)
  have h3 : 256 ^ (m % 4) ≤ 256 ^ 3 := Nat.pow_le_pow_right (by decide) (by omega)
  rw [UInt32.toNat_ofNat']
  omega
theorem one_u32 (w : World) (t : TypeId) (n : Int) (b : UInt32) (k : Nat) (hk : k = w.heap.size) (h : n = (b.toNat : Int)) : RW (w.alloc (.cells #[.int .u32 n] t)) (.slice (some ⟨k, 0, none⟩) 1 1) [b] := by
  subst hk
  refine ⟨_, _, rfl, by simp, by simp [maxLen], by simp, fun h => by simp at h, fun k x hk => ⟨w.heap.size, 0, rfl, by simp, ?_⟩⟩
  obtain rfl : k = 0 := by have := (List.getElem?_eq_some_iff.1 hk).1; simp at this; omega
  simp only [List.getElem?_cons_zero, Option.some.injEq] at hk
  subst hk h
  have hc : (w.alloc (.cells #[.int .u32 (b.toNat : Int)] t)).cell? ⟨w.heap.size, 0 + 0 * 1, none⟩ = some (.int .u32 (b.toNat : Int)) := by simp
  exact hc

set_option maxRecDepth 100000 in
set_option maxHeartbeats 1000000 in
theorem ref_WordsOf (v : Value) (l : List UInt8) (w : World) (hl : RB w v l) (h : l.length ≤ 2072) (h2 : l.length % 4 = 0) :
    Calls Tryz.prog 142 #[v] w fun e w' => ∃ v', e = .returned (.tuple #[v', .int .i64 0]) ∧ OS 133 1 cU32 w' w.heap.size v' (wordsDec l (l.length / 4)) ∧ Below w.heap.size w w' := by
  obtain ⟨i0, hi, hz0, hz1, hz2⟩ := info_parts info_u32
  have q2 : (bits .and .i64 (l.length : Int) 3 != 0) = false := by
    have := bits_mask .i64 63 (by decide) (fun m a b => by rw [IntKind.wrap_i64]; omega) 2 (by decide) (l.length : Int) (by omega) (by omega)
    rw [show (2 : Int) ^ 2 - 1 = 3 from rfl] at this
    rw [this]; simp; omega
  have q4 : decide (2072 < (l.length : Int)) = false := by simp; omega
  have hR := hl
  obtain ⟨a, c, rfl, hlc, hcm, hre, hno, _⟩ := hl
  unfold maxLen at hcm
  go_enter Tryz.func142, Tryz.ntmps142
  go_wp2_with fail
  go_loopw [4, 16] (fun v i wr => ∃ (m : Nat), i = .int .i64 (m : Int) ∧ m ≤ l.length ∧ OS 133 1 cU32 wr w.heap.size v (wordsPart l m) ∧ Below w.heap.size w wr) (fun _ i _ => l.length - (intOf i).toNat)
  case atStart => exact ⟨0, rfl, by omega, OS.nil, Below.refl _ _⟩
  case round =>
    obtain ⟨m, rfl, hk, hown, hb⟩ := hrel
    by_cases hlt : m < l.length
    · obtain ⟨b, off, c', hv, hbl, _, _, hc⟩ := RB.block hR (by omega)
      simp only [Value.slice.injEq] at hv
      obtain ⟨rfl, -, -⟩ := hv
      have c0 := cell_stays hb hbl (hc m hlt)
      have hs := hb.size
      have r0 := l[m].toNat_lt
      have hlen := wordsPart_len l m
      have hset0 := hid (fun y => wordsPart_set l m y hlt h2)
      have hval := acc_val l m hlt
      clear hc hR
      generalize l[m] = x0 at *
      by_cases hev : m % 4 = 0
      · have qe : ((m : Int) % 4 == 0) = true := by simp; omega
        have hfull := hid (show (wordsPart l m ++ [0]).set (m / 4) (UInt32.ofNat (accN l (m / 4) (m % 4 + 1))) = wordsPart l (m + 1) by rw [wordsPart_full l m hev]; exact hset0.out 0)
        obtain ⟨_, hv0⟩ := hval 0 (by rw [hev]; rfl)
        replace hval := hid hv0
        clear hv0
        go_wp2_with (at_builtin; go_must (refine wpL_append flat_u32 rfl (.tmp 24) (.tmp 25) 157 rfl 133 i0 (.int .u32 0) Tryz.underlying157 hi hz0 hz1 hz2 rfl w.heap.size _ (wordsPart l m) rfl (OS.alloc hown _) _ [0] rfl (one_u32 _ _ _ _ _ (by simp) rfl) ?c1 ?c2 ?c3 ?_))
        case c1 => simp; omega
        case c2 => simp [maxLen]; omega
        case c3 => simp; omega
        intro v' w2 hown1 hgr
        have hb2 := b_grown (b_alloc hb _) hgr (OS.block hown)
        clear hgr hb hown c0
        obtain ⟨g, cap, rfl, hg, hgs, hcell, hfr, hset⟩ := OS.cell1 hown1 (fun _ => rfl) (m / 4) 0 (by rw [List.getElem?_append_right (by omega), hlen, show m / 4 - (m + 3) / 4 = 0 by omega]; rfl)
        have hset1 := hset (UInt32.ofNat (accN l (m / 4) (m % 4 + 1))) (.int .u32 (x0.toNat : Int)) (by have := hval.out; simp at this; rw [cU32]; simp [this])
        rw [hfull.out] at hset1
        simp only [cU32, List.getElem?_cons_zero] at hcell
        have hb3 := b_set hb2 (p := ⟨g, m / 4, none⟩) hg (.int .u32 (x0.toNat : Int))
        clear hset hown1 hb2
        have hcell' : w2.cell? ⟨g, m / 4, none⟩ = some (.int .u32 0) := hcell
        go_wp2_with fail
        go_roundw
        case rel => exact ⟨m + 1, by go_num, by omega, hset1, hb3⟩
        case measure => simp [intOf]; omega
      · have qe : ((m : Int) % 4 == 0) = false := by simp; omega
        have hmid := hid (wordsPart_mid l m hev)
        have hix : m / 4 < (wordsPart l m).length := by rw [hlen]; omega
        obtain ⟨g, cap, rfl, hg, hgs, hcell, hfr, hset⟩ := OS.cell1 hown (fun _ => rfl) (m / 4) (UInt32.ofNat (accN l (m / 4) (m % 4))) (by rw [hmid.out, List.getElem?_append_right (by rw [wordsDec_len]; exact Nat.le_refl _), wordsDec_len, Nat.sub_self]; rfl)
        obtain ⟨hy, hv0⟩ := hval _ (acc_toNat l m)
        replace hval := hid hv0
        clear hv0
        have hst := hid (show (wordsPart l m).set (m / 4) (UInt32.ofNat (accN l (m / 4) (m % 4 + 1))) = wordsPart l (m + 1) by rw [hmid.out]; exact hset0.out _)
        generalize UInt32.ofNat (accN l (m / 4) (m % 4)) = y at *
        have hset1 := hset (UInt32.ofNat (accN l (m / 4) (m % 4 + 1))) (.int .u32 ((y.toNat : Int) * 256 + (x0.toNat : Int))) (by rw [hval.out]; rfl)
        rw [hst.out] at hset1
        simp only [cU32, List.getElem?_cons_zero] at hcell
        have hb3 := b_set hb (p := ⟨g, m / 4, none⟩) hg (.int .u32 ((y.toNat : Int) * 256 + (x0.toNat : Int)))
        clear hset hown
        go_wp2_with fail
        go_roundw
        case rel => exact ⟨m + 1, by go_num, by omega, hset1, hb3⟩
        case measure => simp [intOf]; omega
    · go_wp2_with fail
      go_ret2
      obtain rfl : m = l.length := by omega
      rw [wordsPart_full l _ h2] at hown
      exact ⟨_, rfl, hown, hb⟩

end Go.Proofs.YtpcnhldlfmdlhaaGreatDoor

namespace Go.Proofs.YtpcnhldlfmdlhaaGreatDoor
open Go.RowKit

theorem lit_u8 (w : World) (t : TypeId) (cs : Array Value) (m : List UInt8) (h : cs.toList = m.map fun x => Value.int .u8 (x.toNat : Int)) (k n : Nat) (hk : k = w.heap.size) (hn : n = m.length) (hb : n ≤ 140737488351232) : RB (w.alloc (.cells cs t)) (.slice (some ⟨k, 0, none⟩) n n) m := by
  subst hk hn
  refine ⟨_, _, rfl, Nat.le_refl _, by simp [maxLen]; omega, by omega, fun h => by simp at h, fun j x hj => ⟨w.heap.size, 0, rfl, by simp, ?_⟩⟩
  have e : (w.alloc (.cells cs t)).heap[w.heap.size]? = some (.cells cs t) := heap_alloc_new w _
  unfold EU8
  rw [cell_of_row _ _ _ _ _ _ e, ← Array.getElem?_toList, h, Nat.mul_one, Nat.zero_add, List.getElem?_map, hj]
  rfl

def bw (x : UInt32) : List UInt8 := [UInt8.ofNat (x.toNat / 16777216), UInt8.ofNat (x.toNat / 65536), UInt8.ofNat (x.toNat / 256), UInt8.ofNat x.toNat]
def bytesW (l : List UInt32) : List UInt8 := l.flatMap bw
theorem bytesW_len (l : List UInt32) : (bytesW l).length = 4 * l.length := by
  unfold bytesW
  induction l with
  | nil => rfl
  | cons x l ih => rw [List.flatMap_cons, List.length_append, ih, List.length_cons]; simp [bw]; omega
theorem bytesW_snoc (l : List UInt32) (k : Nat) (h : k < l.length) : bytesW (l.take (k + 1)) = bytesW (l.take k) ++ bw l[k] := by
  unfold bytesW
  rw [List.take_succ_eq_append_getElem h, List.flatMap_append]
  simp
theorem bw_cells (x : UInt32) : [Value.int .u8 ((x.toNat : Int) / 16777216), .int .u8 ((x.toNat : Int) / 65536 % 256), .int .u8 ((x.toNat : Int) / 256 % 256), .int .u8 ((x.toNat : Int) % 256)] = (bw x).map fun x => Value.int .u8 (x.toNat : Int) := by
  have h : ∀ n : Nat, ((n : Int) % 256) = ((UInt8.ofNat n).toNat : Int) := fun n => by rw [UInt8.toNat_ofNat']; omega
  have hx := x.toNat_lt
  have h0 : ((x.toNat : Int) / 16777216) = ((x.toNat / 16777216 : Nat) : Int) % 256 := by omega
  simp only [bw, List.map_cons, List.map_nil]
  rw [← h, ← h, ← h, ← h, h0]
  rfl

theorem RW.block {w : World} {v : Value} {l : List UInt32} (h : RW w v l) (hne : 0 < l.length) : ∃ b off c, v = .slice (some ⟨b, off, none⟩) l.length c ∧ b < w.heap.size ∧ l.length ≤ c ∧ c ≤ maxLen ∧ ∀ k (hk : k < l.length), w.cell? ⟨b, off + k, none⟩ = some (.int .u32 (l[k].toNat : Int)) := by
  obtain ⟨a, c, rfl, hlc, hcm, hre, hno, hat⟩ := h
  obtain ⟨b, off, rfl, hlt, _⟩ := hat 0 _ (List.getElem?_eq_getElem hne)
  refine ⟨b, off, c, rfl, hlt, hlc, hcm, fun k hk => ?_⟩
  obtain ⟨b', off', hb, _, he⟩ := hat k _ (List.getElem?_eq_getElem hk)
  simp only [Option.some.injEq, Addr.mk.injEq, and_true] at hb
  obtain ⟨rfl, rfl⟩ := hb
  rw [Nat.mul_one] at he
  exact he

set_option maxRecDepth 100000 in
set_option maxHeartbeats 1000000 in
theorem word_Bytes (v : Value) (l : List UInt32) (w : World) (hl : RW w v l) (h : l.length ≤ 2000) :
    Calls Tryz.prog 126 #[v] w fun e w' => ∃ v', e = .returned (.tuple #[v', .int .i64 0]) ∧ OS 5 1 cU8 w' w.heap.size v' (bytesW l) ∧ Below w.heap.size w w' := by
  obtain ⟨i0, hi, hz0, hz1, hz2⟩ := info_parts info_u8
  obtain ⟨w1, hmk, how, hgr⟩ := run_make_own w w.heap.size 52 5 i0 (.int .u8 0) 1 Tryz.underlying52 hi hz0 hz1 .i64 .i64 (4 * l.length) (by rw [hz2]; omega) (by simp [maxLen]; omega) (Nat.le_refl _)
  have ho1 : OS 5 1 cU8 w1 w.heap.size (.slice (some ⟨w.heap.size, 0, none⟩) 0 (4 * l.length)) [] := how
  rw [Int.natCast_mul] at hmk
  simp only [Int.cast_ofNat_Int] at hmk
  have hb1 : Below w.heap.size w w1 := b_grown (v := .slice none 0 0) (Below.refl _ _) hgr (fun k hk => by simp [Value.ownBlock] at hk)
  clear how hgr
  have q4 : decide (2000 < (l.length : Int)) = false := by simp; omega
  have hR := hl
  obtain ⟨a, c, rfl, hlc, hcm, hre, hno, _⟩ := hl
  unfold maxLen at hcm
  generalize hB : w.heap.size = B at *
  generalize Value.slice (some ⟨B, 0, none⟩) 0 (4 * l.length) = v1 at *
  go_enter Tryz.func126, Tryz.ntmps126
  go_wp2_with fail
  go_loopw [4, 16] (fun v i wr => ∃ (k : Nat), i = .int .i64 (k : Int) ∧ k ≤ l.length ∧ OS 5 1 cU8 wr B v (bytesW (l.take k)) ∧ Below B w wr) (fun _ i _ => l.length - (intOf i).toNat)
  case atStart => exact ⟨0, rfl, by omega, ho1, hb1⟩
  case round =>
    obtain ⟨k, rfl, hk, hown, hb⟩ := hrel
    by_cases hlt : k < l.length
    · obtain ⟨b, off, c', hv, hbl, _, _, hc⟩ := RW.block hR (by omega)
      simp only [Value.slice.injEq] at hv
      obtain ⟨rfl, -, -⟩ := hv
      have c0 := cell_stays (hB ▸ hb) hbl (hc k hlt)
      have hs := hb.size
      have r0 := l[k].toNat_lt
      have hsn := hid (bytesW_snoc l k hlt)
      have hlen := bytesW_len (l.take k)
      rw [List.length_take, Nat.min_eq_left hk] at hlen
      clear hc hR
      generalize l[k] = x0 at *
      go_wp2_with (at_builtin; go_must (refine wpL_append flat_u8 rfl (.tmp 20) (.tmp 32) 52 rfl 5 i0 (.int .u8 0) Tryz.underlying52 hi hz0 hz1 hz2 rfl B _ (bytesW (l.take k)) rfl (OS.alloc hown _) _ (bw x0) rfl (lit_u8 _ _ _ _ (bw_cells x0) _ 4 (by first | rfl | simp) rfl (by decide)) ?c1 ?c2 ?c3 ?_))
      case c1 => rw [hlen]; simp [bw]; omega
      case c2 => rw [hlen]; simp [bw, maxLen]; omega
      case c3 => simp; omega
      intro v' w2 hown1 hgr
      rw [← hsn.out] at hown1
      have hb2 := b_grown (b_alloc (hB ▸ hb) _) hgr (hB ▸ OS.block hown)
      clear hgr hb hown c0
      go_wp2_with fail
      go_roundw
      case rel => exact ⟨k + 1, by go_num, by omega, hown1, hB ▸ hb2⟩
      case measure => simp [intOf]; omega
    · go_wp2_with fail
      go_ret2
      obtain rfl : k = l.length := by omega
      rw [List.take_length] at hown
      exact ⟨_, rfl, hown, hb⟩

end Go.Proofs.YtpcnhldlfmdlhaaGreatDoor

namespace Go.Proofs.YtpcnhldlfmdlhaaGreatDoor
open Go.RowKit

def Units (ub : Nat) (W : World) (v : Value) : Prop := ub < W.heap.size ∧ v.ownBlock ≠ some ub ∧ W.cell? ⟨ub, 0, none⟩ = some (.int .u32 16777216) ∧ W.cell? ⟨ub, 1, none⟩ = some (.int .u32 65536) ∧ W.cell? ⟨ub, 2, none⟩ = some (.int .u32 256) ∧ W.cell? ⟨ub, 3, none⟩ = some (.int .u32 1)
theorem Units.step {ub : Nat} {W W' : World} {v v' : Value} (h : Units ub W v) (o : Obj) (hgr : (W.alloc o).grownBy W' v.ownBlock) (hpl : v'.ownBlock = v.ownBlock ∨ v'.ownBlock = some (W.heap.size + 1)) : Units ub W' v' := by
  obtain ⟨h1, h2, c0, c1, c2, c3⟩ := h
  have hs : (W.alloc o).heap.size = W.heap.size + 1 := by simp
  have hlt : ub < (W.alloc o).heap.size := by omega
  have hb : Below W.heap.size W (W.alloc o) := b_alloc (Below.refl _ _) o
  have far : ∀ j u, W.cell? ⟨ub, j, none⟩ = some u → W'.cell? ⟨ub, j, none⟩ = some u := fun j u hu => by
    rw [hgr.cell_far ⟨ub, j, none⟩ hlt (Ne.symm h2)]
    exact cell_stays hb h1 hu
  refine ⟨Nat.lt_of_lt_of_le hlt hgr.size, ?_, far _ _ c0, far _ _ c1, far _ _ c2, far _ _ c3⟩
  rcases hpl with e | e
  · rw [e]; exact h2
  · rw [e]; simp only [ne_eq, Option.some.injEq]; omega

set_option maxRecDepth 100000 in
set_option maxHeartbeats 2000000 in
theorem ref_WordBytes (v : Value) (l : List UInt32) (w : World) (hl : RW w v l) (h : l.length ≤ 2000) :
    Calls Tryz.prog 145 #[v] w fun e w' => ∃ v', e = .returned (.tuple #[v', .int .i64 0]) ∧ OS 5 1 cU8 w' w.heap.size v' (bytesW l) ∧ Below w.heap.size w w' := by
  obtain ⟨i0, hi, hz0, hz1, hz2⟩ := info_parts info_u8
  have q4 : decide (2000 < (l.length : Int)) = false := by simp; omega
  have hR := hl
  obtain ⟨a, c, rfl, hlc, hcm, hre, hno, _⟩ := hl
  unfold maxLen at hcm
  go_enter Tryz.func145, Tryz.ntmps145
  go_wp2_with fail
  go_loopw [4, 14] (fun v i wr => ∃ (k : Nat), i = .int .i64 (k : Int) ∧ k ≤ l.length ∧ OS 5 1 cU8 wr w.heap.size v (bytesW (l.take k)) ∧ Below w.heap.size w wr) (fun _ i _ => l.length - (intOf i).toNat)
  case atStart => exact ⟨0, rfl, by omega, OS.nil, Below.refl _ _⟩
  case round =>
    obtain ⟨k, rfl, hk, hown, hb⟩ := hrel
    by_cases hlt : k < l.length
    · obtain ⟨b, off, c', hv, hbl, _, _, hc⟩ := RW.block hR (by omega)
      simp only [Value.slice.injEq] at hv
      obtain ⟨rfl, -, -⟩ := hv
      have c0 := cell_stays hb hbl (hc k hlt)
      have hs := hb.size
      have r0 := l[k].toNat_lt
      have hsn := hid (bytesW_snoc l k hlt)
      have hlen := bytesW_len (l.take k)
      rw [List.length_take, Nat.min_eq_left hk] at hlen
      clear hc hR
      generalize l[k] = x0 at *
      have hol := OS.lt hown
      have hun : Units wr.heap.size (wr.alloc (.cells #[.int .u32 16777216, .int .u32 65536, .int .u32 256, .int .u32 1] 133)) u4 :=
        ⟨by simp, fun e => by have := hol _ e; omega, by simp, by simp, by simp, by simp⟩
      have hown0 := OS.alloc hown (.cells #[.int .u32 16777216, .int .u32 65536, .int .u32 256, .int .u32 1] 133)
      have hb0 := b_alloc hb (.cells #[.int .u32 16777216, .int .u32 65536, .int .u32 256, .int .u32 1] 133)
      have hd : ∀ n : Nat, ((n : Int) % 256) = ((UInt8.ofNat n).toNat : Int) := fun n => by rw [UInt8.toNat_ofNat']; omega
      have e0 := hid (hd (x0.toNat / 16777216))
      have e1 := hid (hd (x0.toNat / 65536))
      have e2 := hid (hd (x0.toNat / 256))
      have e3 := hid (hd x0.toNat)
      clear hd hown hb
      go_wp2_with fail
      generalize wr.alloc (.cells #[.int .u32 16777216, .int .u32 65536, .int .u32 256, .int .u32 1] 133) = W0 at *
      refine wp_loop_rounds 5 ?_
      rw [rounds_succ]
      have hun0 := hun
      obtain ⟨hu, hq, d0, d1, d2, d3⟩ := hun
      go_wp2_with (at_builtin; go_must (refine wpL_append_at flat_u8 rfl (.tmp 24) (.tmp 30) 52 rfl 5 i0 (.int .u8 0) Tryz.underlying52 hi hz0 hz1 hz2 rfl w.heap.size _ (bytesW (l.take k)) rfl (OS.alloc hown0 _) _ [UInt8.ofNat (x0.toNat / 16777216)] rfl (one_u8 _ _ _ _ _ (by first | rfl | simp) e0.out) ?c1 ?c2 ?c3 ?_))
      case c1 => simp; omega
      case c2 => simp [maxLen]; omega
      case c3 => have := hb0.size; simp; omega
      intro v0' W1 hown1 hgr hpl
      have hun := Units.step hun0 _ hgr hpl
      have hb1 := b_grown (b_alloc hb0 _) hgr (OS.block hown0)
      clear hgr hpl hu hq d0 d1 d2 d3 hun0
      go_wp2_with fail
      rw [rounds_succ]
      have hun1 := hun
      obtain ⟨hu, hq, d0, d1, d2, d3⟩ := hun
      go_wp2_with (at_builtin; go_must (refine wpL_append_at flat_u8 rfl (.tmp 24) (.tmp 30) 52 rfl 5 i0 (.int .u8 0) Tryz.underlying52 hi hz0 hz1 hz2 rfl w.heap.size _ ((bytesW (l.take k)) ++ [UInt8.ofNat (x0.toNat / 16777216)]) rfl (OS.alloc hown1 _) _ [UInt8.ofNat (x0.toNat / 65536)] rfl (one_u8 _ _ _ _ _ (by first | rfl | simp) e1.out) ?c1 ?c2 ?c3 ?_))
      case c1 => simp; omega
      case c2 => simp [maxLen]; omega
      case c3 => have := hb1.size; simp; omega
      intro v1' W2 hown2 hgr hpl
      have hun := Units.step hun1 _ hgr hpl
      have hb2 := b_grown (b_alloc hb1 _) hgr (OS.block hown1)
      clear hgr hpl hu hq d0 d1 d2 d3 hun1
      go_wp2_with fail
      rw [rounds_succ]
      have hun2 := hun
      obtain ⟨hu, hq, d0, d1, d2, d3⟩ := hun
      go_wp2_with (at_builtin; go_must (refine wpL_append_at flat_u8 rfl (.tmp 24) (.tmp 30) 52 rfl 5 i0 (.int .u8 0) Tryz.underlying52 hi hz0 hz1 hz2 rfl w.heap.size _ (bytesW (l.take k) ++ [UInt8.ofNat (x0.toNat / 16777216), UInt8.ofNat (x0.toNat / 65536)]) rfl (OS.alloc hown2 _) _ [UInt8.ofNat (x0.toNat / 256)] rfl (one_u8 _ _ _ _ _ (by first | rfl | simp) e2.out) ?c1 ?c2 ?c3 ?_))
      case c1 => simp; omega
      case c2 => simp [maxLen]; omega
      case c3 => have := hb2.size; simp; omega
      intro v2' W3 hown3 hgr hpl
      have hun := Units.step hun2 _ hgr hpl
      have hb3 := b_grown (b_alloc hb2 _) hgr (OS.block hown2)
      clear hgr hpl hu hq d0 d1 d2 d3 hun2
      go_wp2_with fail
      rw [rounds_succ]
      have hun3 := hun
      obtain ⟨hu, hq, d0, d1, d2, d3⟩ := hun
      go_wp2_with (at_builtin; go_must (refine wpL_append_at flat_u8 rfl (.tmp 24) (.tmp 30) 52 rfl 5 i0 (.int .u8 0) Tryz.underlying52 hi hz0 hz1 hz2 rfl w.heap.size _ (bytesW (l.take k) ++ [UInt8.ofNat (x0.toNat / 16777216), UInt8.ofNat (x0.toNat / 65536), UInt8.ofNat (x0.toNat / 256)]) rfl (OS.alloc hown3 _) _ [UInt8.ofNat x0.toNat] rfl (one_u8 _ _ _ _ _ (by first | rfl | simp) e3.out) ?c1 ?c2 ?c3 ?_))
      case c1 => simp; omega
      case c2 => simp [maxLen]; omega
      case c3 => have := hb3.size; simp; omega
      intro v3' W4 hown4 hgr hpl
      have hun := Units.step hun3 _ hgr hpl
      have hb4 := b_grown (b_alloc hb3 _) hgr (OS.block hown3)
      clear hgr hpl hu hq d0 d1 d2 d3 hun3
      go_wp2_with fail
      rw [rounds_succ]
      have hfin : OS 5 1 cU8 W4 w.heap.size v3' (bytesW (l.take (k + 1))) := by rw [hsn.out]; simpa [bw] using hown4
      clear hown0 hown1 hown2 hown3 hown4 hun
      go_wp2_with fail
      go_roundw
      case rel => exact ⟨k + 1, by go_num, by omega, hfin, hb4⟩
      case measure => simp [intOf]; omega
    · go_wp2_with fail
      go_ret2
      obtain rfl : k = l.length := by omega
      rw [List.take_length] at hown
      exact ⟨_, rfl, hown, hb⟩
end Go.Proofs.YtpcnhldlfmdlhaaGreatDoor

namespace Go.Proofs.YtpcnhldlfmdlhaaGreatDoor
open Go.RowKit

end Go.Proofs.YtpcnhldlfmdlhaaGreatDoor
