/-
  word.Choose, word.Most and the reference's Chosen, MostOf: what each computes. word.Rotate, word.Mix and the reference's Rotated, Mixed: what each computes; the law WordTurns. word.Words, word.Bytes and the reference's WordsOf, WordBytes: what each computes; the law WordBytes. The reference's WordsOf: what it computes. word.Bytes and the reference's WordBytes: what they compute; the law WordBytes. The reference's WordBytes: what it computes; the law WordBytes. sameWords of the laws: two slices that read as one list are the same.
-/
import Derived.Test.YtkbijjglodnfbaaBas
import Derived.Test.YtkbijjglodnfbaaWir
import Derived.BigQuiet
import Derived.Deep.QuietTactic
import Derived.LoopN
import Derived.Deep.RegionHeld3
import Derived.Deep.AppendLies
import Derived.WalkSpells
import Derived.StillTactics
import Derived.OwnWalk
namespace Go.Proofs.Ytkbijjglodnfbaa
open Go.RowKit

def choose (x y z : UInt32) : UInt32 := (x &&& y) ||| (~~~x &&& z)
def most (x y z : UInt32) : UInt32 := ((x &&& y) ||| (x &&& z)) ||| (y &&& z)

theorem choose_bit (x y z : UInt32) (k : Nat) (hk : k < 32) : (choose x y z).toNat.testBit k = (if x.toNat.testBit k then y.toNat.testBit k else z.toNat.testBit k) := by
  have e : ∀ u : UInt32, u.toNat.testBit k = u.toBitVec.getLsbD k := fun u => rfl
  simp only [e, choose, UInt32.toBitVec_or, UInt32.toBitVec_and, UInt32.toBitVec_not, BitVec.getLsbD_or, BitVec.getLsbD_and, BitVec.getLsbD_not, hk, decide_true, Bool.true_and]
  cases x.toBitVec.getLsbD k <;> simp
theorem most_bit (x y z : UInt32) (k : Nat) : (most x y z).toNat.testBit k = decide ((x.toNat.testBit k).toNat + (y.toNat.testBit k).toNat + (z.toNat.testBit k).toNat > 1) := by
  have e : ∀ u : UInt32, u.toNat.testBit k = u.toBitVec.getLsbD k := fun u => rfl
  simp only [e, most, UInt32.toBitVec_or, UInt32.toBitVec_and, BitVec.getLsbD_or, BitVec.getLsbD_and]
  cases x.toBitVec.getLsbD k <;> cases y.toBitVec.getLsbD k <;> cases z.toBitVec.getLsbD k <;> simp

end Go.Proofs.Ytkbijjglodnfbaa

namespace Go.Proofs.Ytkbijjglodnfbaa
open Go.RowKit

def rot (x : UInt32) (n : Nat) : UInt32 := UInt32.ofNat ((x.toNat / 2 ^ n) ||| (x.toNat * 2 ^ (32 - n) % 4294967296))

theorem rot_or (x : UInt32) (m : Nat) (_h : m ≤ 31) : bits .or .u32 ((x.toNat : Int) / 2 ^ m) ((x.toNat : Int) * 2 ^ (32 - m) % 4294967296) = ((rot x m).toNat : Int) := by
  have hx : x.toNat < 4294967296 := x.toNat_lt
  have e1 : ((x.toNat : Int) / 2 ^ m) = ((x.toNat / 2 ^ m : Nat) : Int) := by rw [Int.natCast_ediv, Int.natCast_pow]; rfl
  have e2 : ((x.toNat : Int) * 2 ^ (32 - m) % 4294967296) = ((x.toNat * 2 ^ (32 - m) % 4294967296 : Nat) : Int) := by rw [Int.natCast_emod, Int.natCast_mul, Int.natCast_pow]; rfl
  have b1 : x.toNat / 2 ^ m < 4294967296 := Nat.lt_of_le_of_lt (Nat.div_le_self _ _) hx
  have b2 : x.toNat * 2 ^ (32 - m) % 4294967296 < 4294967296 := Nat.mod_lt _ (by decide)
  have b3 : (x.toNat / 2 ^ m ||| x.toNat * 2 ^ (32 - m) % 4294967296) < 2 ^ 32 := Nat.or_lt_two_pow b1 b2
  rw [e1, e2, u32_or_nat _ _ b1 b2]
  unfold rot
  rw [UInt32.toNat_ofNat', Nat.mod_eq_of_lt b3]

theorem rot_or' (x : UInt32) (m : Nat) (h : m ≤ 31) (h0 : 0 < m) : bits .or .u32 ((x.toNat : Int) * 2 ^ (32 - m) % 4294967296) ((x.toNat : Int) / 2 ^ (32 - (32 - m))) = ((rot x m).toNat : Int) := by
  rw [show 32 - (32 - m) = m by omega, ← rot_or x m h]
  have hx : x.toNat < 4294967296 := x.toNat_lt
  have e1 : ((x.toNat : Int) / 2 ^ m) = ((x.toNat / 2 ^ m : Nat) : Int) := by rw [Int.natCast_ediv, Int.natCast_pow]; rfl
  have e2 : ((x.toNat : Int) * 2 ^ (32 - m) % 4294967296) = ((x.toNat * 2 ^ (32 - m) % 4294967296 : Nat) : Int) := by rw [Int.natCast_emod, Int.natCast_mul, Int.natCast_pow]; rfl
  have b1 : x.toNat / 2 ^ m < 4294967296 := Nat.lt_of_le_of_lt (Nat.div_le_self _ _) hx
  have b2 : x.toNat * 2 ^ (32 - m) % 4294967296 < 4294967296 := Nat.mod_lt _ (by decide)
  rw [e1, e2, u32_or_nat _ _ b1 b2, u32_or_nat _ _ b2 b1, Nat.or_comm]

theorem neg_and31 (m : Nat) (h : m ≤ 31) : bits .and .u64 (IntKind.u64.wrap (-(m : Int))) 31 = (((32 - m) % 32 : Nat) : Int) := by
  have key : ∀ k : Fin 32, bits .and .u64 (IntKind.u64.wrap (-((k.val : Nat) : Int))) 31 = (((32 - k.val) % 32 : Nat) : Int) := by decide +kernel
  exact key ⟨m, by omega⟩

theorem rot_zero (x : UInt32) : rot x 0 = x := by
  unfold rot
  have hx : x.toNat < 4294967296 := x.toNat_lt
  rw [Nat.pow_zero, Nat.div_one, show x.toNat * 2 ^ (32 - 0) % 4294967296 = 0 by omega, Nat.or_zero]
  simp

def mixW (x : UInt32) (n : Int) : UInt32 :=
  if n = 0 then (rot x 2 ^^^ rot x 13) ^^^ rot x 22 else if n = 1 then (rot x 6 ^^^ rot x 11) ^^^ rot x 25
  else if n = 2 then (rot x 7 ^^^ rot x 18) ^^^ (x >>> 3) else (rot x 17 ^^^ rot x 19) ^^^ (x >>> 10)

theorem shr3 (x : UInt32) : ((x.toNat : Int) / (8 : Int)) = ((x >>> 3).toNat : Int) := by
  rw [UInt32.toNat_shiftRight, Nat.shiftRight_eq_div_pow, Int.natCast_ediv]; rfl
theorem shr10 (x : UInt32) : ((x.toNat : Int) / (1024 : Int)) = ((x >>> 10).toNat : Int) := by
  rw [UInt32.toNat_shiftRight, Nat.shiftRight_eq_div_pow, Int.natCast_ediv]; rfl
theorem xor3 (a b c : UInt32) : bits .xor .u32 (bits .xor .u32 (a.toNat : Int) (b.toNat : Int)) (c.toNat : Int) = (((a ^^^ b) ^^^ c).toNat : Int) := by
  rw [w_xor, w_xor]
theorem ret2_i {k k2 : IntKind} {a b c : Int} (h : a = b) : Ending.returned (.tuple #[.int k a, .int k2 c]) = .returned (.tuple #[.int k b, .int k2 c]) := by rw [h]

theorem xor0 (a : UInt32) : bits .xor .u32 0 (a.toNat : Int) = (a.toNat : Int) := by
  have h := w_xor 0 a
  rw [show (0 : UInt32) ^^^ a = a by simp] at h
  exact h
theorem xor0_3 (a b c : UInt32) : bits .xor .u32 (bits .xor .u32 (bits .xor .u32 0 (a.toNat : Int)) (b.toNat : Int)) (c.toNat : Int) = (((a ^^^ b) ^^^ c).toNat : Int) := by
  rw [xor0, xor3]

end Go.Proofs.Ytkbijjglodnfbaa

namespace Go.Proofs.Ytkbijjglodnfbaa
open Go.RowKit

def wordOf (a b c d : UInt8) : UInt32 := UInt32.ofNat (2 ^ 24 * a.toNat + (2 ^ 16 * b.toNat + (2 ^ 8 * c.toNat + d.toNat)))
theorem wordOf_nat (a b c d : UInt8) : (wordOf a b c d).toNat = 2 ^ 24 * a.toNat + (2 ^ 16 * b.toNat + (2 ^ 8 * c.toNat + d.toNat)) := by
  have := a.toNat_lt; have := b.toNat_lt; have := c.toNat_lt; have := d.toNat_lt
  unfold wordOf
  rw [UInt32.toNat_ofNat']
  omega
theorem word_or (a b c d : UInt8) : bits .or .u32 (bits .or .u32 (bits .or .u32 ((a.toNat : Int) * 16777216) ((b.toNat : Int) * 65536)) ((c.toNat : Int) * 256)) (d.toNat : Int) = ((wordOf a b c d).toNat : Int) := by
  have ha := a.toNat_lt; have hb := b.toNat_lt; have hc := c.toNat_lt; have hd := d.toNat_lt
  have e1 : ((a.toNat : Int) * 16777216) = ((a.toNat * 16777216 : Nat) : Int) := by omega
  have e2 : ((b.toNat : Int) * 65536) = ((b.toNat * 65536 : Nat) : Int) := by omega
  have e3 : ((c.toNat : Int) * 256) = ((c.toNat * 256 : Nat) : Int) := by omega
  have o1 : a.toNat * 16777216 ||| b.toNat * 65536 = a.toNat * 16777216 + b.toNat * 65536 := by
    rw [Nat.mul_comm a.toNat, show 16777216 = 2 ^ 24 from rfl, ← Nat.two_pow_add_eq_or_of_lt (by omega)]
  have o2 : (a.toNat * 16777216 + b.toNat * 65536) ||| c.toNat * 256 = a.toNat * 16777216 + b.toNat * 65536 + c.toNat * 256 := by
    rw [show a.toNat * 16777216 + b.toNat * 65536 = 2 ^ 16 * (a.toNat * 256 + b.toNat) by omega, ← Nat.two_pow_add_eq_or_of_lt (by omega)]
  have o3 : (a.toNat * 16777216 + b.toNat * 65536 + c.toNat * 256) ||| d.toNat = a.toNat * 16777216 + b.toNat * 65536 + c.toNat * 256 + d.toNat := by
    rw [show a.toNat * 16777216 + b.toNat * 65536 + c.toNat * 256 = 2 ^ 8 * (a.toNat * 65536 + b.toNat * 256 + c.toNat) by omega, ← Nat.two_pow_add_eq_or_of_lt (by omega)]
  rw [e1, e2, e3, u32_or_nat _ _ (by omega) (by omega), o1, u32_or_nat _ _ (by omega) (by omega), o2, u32_or_nat _ _ (by omega) (by omega), o3, wordOf_nat]
  omega

theorem word_or' (a b c d : UInt8) : bits .or .u32 (bits .or .u32 (bits .or .u32 (IntKind.u32.wrap (IntKind.u32.wrap (a.toNat : Int) * 16777216)) (IntKind.u32.wrap (IntKind.u32.wrap (b.toNat : Int) * 65536))) (IntKind.u32.wrap (IntKind.u32.wrap (c.toNat : Int) * 256))) (IntKind.u32.wrap (d.toNat : Int)) = ((wordOf a b c d).toNat : Int) := by
  have ha := a.toNat_lt; have hb := b.toNat_lt; have hc := c.toNat_lt; have hd := d.toNat_lt
  have key : ∀ n : Int, 0 ≤ n → n < 4294967296 → IntKind.u32.wrap n = n := fun n h0 h1 => IntWalk.u32_in _ (by omega)
  rw [key (a.toNat : Int) (by omega) (by omega), key (b.toNat : Int) (by omega) (by omega), key (c.toNat : Int) (by omega) (by omega), key (d.toNat : Int) (by omega) (by omega),
    key ((a.toNat : Int) * 16777216) (by omega) (by omega), key ((b.toNat : Int) * 65536) (by omega) (by omega), key ((c.toNat : Int) * 256) (by omega) (by omega)]
  exact word_or a b c d

theorem RB.block {w : World} {v : Value} {l : List UInt8} (h : RB w v l) (hne : 0 < l.length) : ∃ b off c, v = .slice (some ⟨b, off, none⟩) l.length c ∧ b < w.heap.size ∧ l.length ≤ c ∧ c ≤ maxLen ∧ ∀ k (hk : k < l.length), w.cell? ⟨b, off + k, none⟩ = some (.int .u8 (l[k].toNat : Int)) := by
  obtain ⟨a, c, rfl, hlc, hcm, hre, hno, hat⟩ := h
  obtain ⟨b, off, rfl, hlt, _⟩ := hat 0 _ (List.getElem?_eq_getElem hne)
  refine ⟨b, off, c, rfl, hlt, hlc, hcm, fun k hk => ?_⟩
  obtain ⟨b', off', hb, _, he⟩ := hat k _ (List.getElem?_eq_getElem hk)
  simp only [Option.some.injEq, Addr.mk.injEq, and_true] at hb
  obtain ⟨rfl, rfl⟩ := hb
  rw [Nat.mul_one] at he
  exact he

def wordAt (l : List UInt8) (k : Nat) : UInt32 := if h : 4 * k + 3 < l.length then wordOf l[4 * k] l[4 * k + 1] l[4 * k + 2] (l[4 * k + 3]'h) else 0
theorem wordAt_val (l : List UInt8) (k m : Nat) (hm : m = 4 * k) (h : m + 3 < l.length) : wordAt l k = wordOf l[m] l[m + 1] l[m + 2] l[m + 3] := by
  subst hm
  unfold wordAt
  rw [dif_pos h]
def wordsDec (l : List UInt8) (k : Nat) : List UInt32 := (List.range k).map (wordAt l)
theorem wordsDec_len (l : List UInt8) (k : Nat) : (wordsDec l k).length = k := by simp [wordsDec]
theorem wordsDec_snoc (l : List UInt8) (k : Nat) : wordsDec l (k + 1) = wordsDec l k ++ [wordAt l k] := by simp [wordsDec, List.range_succ]
theorem info_u32 : (Try.prog.info? 59).map (fun i => (i.zero, i.size, i.bytes)) = some (some (.int .u32 0), 1, 4) := by kernel_rfl

end Go.Proofs.Ytkbijjglodnfbaa

namespace Go.Proofs.Ytkbijjglodnfbaa
open Go.RowKit

def accN (l : List UInt8) (q : Nat) : Nat → Nat
  | 0 => 0
  | r + 1 => accN l q r * 256 + (l.getD (4 * q + r) 0).toNat
theorem accN_lt (l : List UInt8) (q : Nat) : ∀ r, accN l q r < 256 ^ r
  | 0 => by simp [accN]
  | r + 1 => by
    have h := accN_lt l q r
    have h2 := (l.getD (4 * q + r) 0).toNat_lt
    rw [Nat.pow_succ]
    unfold accN
    omega
theorem accN_word (l : List UInt8) (q : Nat) (h : 4 * q + 3 < l.length) : UInt32.ofNat (accN l q 4) = wordAt l q := by
  have d0 : l.getD (4 * q + 0) 0 = l[4 * q] := by simp [List.getD_eq_getElem?_getD, List.getElem?_eq_getElem (show 4 * q < l.length by omega)]
  have d1 : l.getD (4 * q + 1) 0 = l[4 * q + 1] := by simp [List.getD_eq_getElem?_getD, List.getElem?_eq_getElem (show 4 * q + 1 < l.length by omega)]
  have d2 : l.getD (4 * q + 2) 0 = l[4 * q + 2] := by simp [List.getD_eq_getElem?_getD, List.getElem?_eq_getElem (show 4 * q + 2 < l.length by omega)]
  have d3 : l.getD (4 * q + 3) 0 = l[4 * q + 3] := by simp [List.getD_eq_getElem?_getD, List.getElem?_eq_getElem h]
  have e : accN l q 4 = (((0 * 256 + (l.getD (4 * q + 0) 0).toNat) * 256 + (l.getD (4 * q + 1) 0).toNat) * 256 + (l.getD (4 * q + 2) 0).toNat) * 256 + (l.getD (4 * q + 3) 0).toNat := rfl
  rw [d0, d1, d2, d3] at e
  rw [wordAt_val l q (4 * q) rfl h, e]
  unfold wordOf
  refine congrArg UInt32.ofNat ?_
  omega
def wordsPart (l : List UInt8) (m : Nat) : List UInt32 := wordsDec l (m / 4) ++ (if m % 4 = 0 then [] else [UInt32.ofNat (accN l (m / 4) (m % 4))])
theorem wordsPart_full (l : List UInt8) (m : Nat) (h : m % 4 = 0) : wordsPart l m = wordsDec l (m / 4) := by unfold wordsPart; rw [if_pos h, List.append_nil]
theorem wordsPart_mid (l : List UInt8) (m : Nat) (h : m % 4 ≠ 0) : wordsPart l m = wordsDec l (m / 4) ++ [UInt32.ofNat (accN l (m / 4) (m % 4))] := by unfold wordsPart; rw [if_neg h]
theorem wordsPart_len (l : List UInt8) (m : Nat) : (wordsPart l m).length = (m + 3) / 4 := by
  unfold wordsPart
  split
  · rw [List.append_nil, wordsDec_len]; omega
  · rw [List.length_append, wordsDec_len]; simp; omega
theorem wordsPart_set (l : List UInt8) (m : Nat) (y : UInt32) (h : m < l.length) (hl : l.length % 4 = 0) : (wordsDec l (m / 4) ++ [y]).set (m / 4) (UInt32.ofNat (accN l (m / 4) (m % 4 + 1))) = wordsPart l (m + 1) := by
  rw [List.set_append_right _ _ (by rw [wordsDec_len]; exact Nat.le_refl _), wordsDec_len, Nat.sub_self]
  show wordsDec l (m / 4) ++ [UInt32.ofNat (accN l (m / 4) (m % 4 + 1))] = _
  by_cases h3 : m % 4 = 3
  · rw [wordsPart_full l (m + 1) (by omega), show (m + 1) / 4 = m / 4 + 1 by omega, wordsDec_snoc, h3, accN_word l (m / 4) (by omega)]
  · rw [wordsPart_mid l (m + 1) (by omega), show (m + 1) / 4 = m / 4 by omega, show (m + 1) % 4 = m % 4 + 1 by omega]
theorem acc_val (l : List UInt8) (m : Nat) (h : m < l.length) (y : UInt32) (hy : y.toNat = accN l (m / 4) (m % 4)) : y.toNat < 16777216 ∧ ((y.toNat : Int) * 256 + (l[m].toNat : Int)) = ((UInt32.ofNat (accN l (m / 4) (m % 4 + 1))).toNat : Int) := by
  have hb := accN_lt l (m / 4) (m % 4)
  have h3 : 256 ^ (m % 4) ≤ 256 ^ 3 := Nat.pow_le_pow_right (by decide) (by omega)
  have hx := l[m].toNat_lt
  refine ⟨by omega, ?_⟩
  rw [UInt32.toNat_ofNat', accN, show 4 * (m / 4) + m % 4 = m by omega, List.getD_eq_getElem?_getD, List.getElem?_eq_getElem h, Option.getD_some]
  omega
theorem acc_toNat (l : List UInt8) (m : Nat) : (UInt32.ofNat (accN l (m / 4) (m % 4))).toNat = accN l (m / 4) (m % 4) := by
  have hb := accN_lt l (m / 4) (m % 4)
  have h3 : 256 ^ (m % 4) ≤ 256 ^ 3 := Nat.pow_le_pow_right (by decide) (by omega)
  rw [UInt32.toNat_ofNat']
  omega
theorem one_u32 (w : World) (t : TypeId) (n : Int) (b : UInt32) (k : Nat) (hk : k = w.heap.size) (h : n = (b.toNat : Int)) : RW (w.alloc (.cells #[.int .u32 n] t)) (.slice (some ⟨k, 0, none⟩) 1 1) [b] := by
  subst hk
  refine ⟨_, _, rfl, by simp, by simp [maxLen], by simp, fun h => by simp at h, fun k x hk => ⟨w.heap.size, 0, rfl, by simp, ?_⟩⟩
  obtain rfl : k = 0 := by have := (List.getElem?_eq_some_iff.1 hk).1; simp at this; omega
  simp only [List.getElem?_cons_zero, Option.some.injEq] at hk
  subst hk h
  have hc : (w.alloc (.cells #[.int .u32 (b.toNat : Int)] t)).cell? ⟨w.heap.size, 0 + 0 * 1, none⟩ = some (.int .u32 (b.toNat : Int)) := by simp
  exact hc

end Go.Proofs.Ytkbijjglodnfbaa

namespace Go.Proofs.Ytkbijjglodnfbaa
open Go.RowKit

theorem lit_u8 (w : World) (t : TypeId) (cs : Array Value) (m : List UInt8) (h : cs.toList = m.map fun x => Value.int .u8 (x.toNat : Int)) (k n : Nat) (hk : k = w.heap.size) (hn : n = m.length) (hb : n ≤ 140737488351232) : RB (w.alloc (.cells cs t)) (.slice (some ⟨k, 0, none⟩) n n) m := by
  subst hk hn
  refine ⟨_, _, rfl, Nat.le_refl _, by simp [maxLen]; omega, by omega, fun h => by simp at h, fun j x hj => ⟨w.heap.size, 0, rfl, by simp, ?_⟩⟩
  have e : (w.alloc (.cells cs t)).heap[w.heap.size]? = some (.cells cs t) := heap_alloc_new w _
  unfold EU8
  rw [cell_of_row _ _ _ _ _ _ e, ← Array.getElem?_toList, h, Nat.mul_one, Nat.zero_add, List.getElem?_map, hj]
  rfl

def bw (x : UInt32) : List UInt8 := [UInt8.ofNat (x.toNat / 16777216), UInt8.ofNat (x.toNat / 65536), UInt8.ofNat (x.toNat / 256), UInt8.ofNat x.toNat]
def bytesW (l : List UInt32) : List UInt8 := l.flatMap bw
theorem bytesW_len (l : List UInt32) : (bytesW l).length = 4 * l.length := by
  unfold bytesW
  induction l with
  | nil => rfl
  | cons x l ih => rw [List.flatMap_cons, List.length_append, ih, List.length_cons]; simp [bw]; omega
theorem bytesW_snoc (l : List UInt32) (k : Nat) (h : k < l.length) : bytesW (l.take (k + 1)) = bytesW (l.take k) ++ bw l[k] := by
  unfold bytesW
  rw [List.take_succ_eq_append_getElem h, List.flatMap_append]
  simp
theorem bw_cells (x : UInt32) : [Value.int .u8 ((x.toNat : Int) / 16777216), .int .u8 ((x.toNat : Int) / 65536 % 256), .int .u8 ((x.toNat : Int) / 256 % 256), .int .u8 ((x.toNat : Int) % 256)] = (bw x).map fun x => Value.int .u8 (x.toNat : Int) := by
  have h : ∀ n : Nat, ((n : Int) % 256) = ((UInt8.ofNat n).toNat : Int) := fun n => by rw [UInt8.toNat_ofNat']; omega
  have hx := x.toNat_lt
  have h0 : ((x.toNat : Int) / 16777216) = ((x.toNat / 16777216 : Nat) : Int) % 256 := by omega
  simp only [bw, List.map_cons, List.map_nil]
  rw [← h, ← h, ← h, ← h, h0]
  rfl

theorem RW.block {w : World} {v : Value} {l : List UInt32} (h : RW w v l) (hne : 0 < l.length) : ∃ b off c, v = .slice (some ⟨b, off, none⟩) l.length c ∧ b < w.heap.size ∧ l.length ≤ c ∧ c ≤ maxLen ∧ ∀ k (hk : k < l.length), w.cell? ⟨b, off + k, none⟩ = some (.int .u32 (l[k].toNat : Int)) := by
  obtain ⟨a, c, rfl, hlc, hcm, hre, hno, hat⟩ := h
  obtain ⟨b, off, rfl, hlt, _⟩ := hat 0 _ (List.getElem?_eq_getElem hne)
  refine ⟨b, off, c, rfl, hlt, hlc, hcm, fun k hk => ?_⟩
  obtain ⟨b', off', hb, _, he⟩ := hat k _ (List.getElem?_eq_getElem hk)
  simp only [Option.some.injEq, Addr.mk.injEq, and_true] at hb
  obtain ⟨rfl, rfl⟩ := hb
  rw [Nat.mul_one] at he
  exact he

end Go.Proofs.Ytkbijjglodnfbaa

namespace Go.Proofs.Ytkbijjglodnfbaa
open Go.RowKit

def Units (ub : Nat) (W : World) (v : Value) : Prop := ub < W.heap.size ∧ v.ownBlock ≠ some ub ∧ W.cell? ⟨ub, 0, none⟩ = some (.int .u32 16777216) ∧ W.cell? ⟨ub, 1, none⟩ = some (.int .u32 65536) ∧ W.cell? ⟨ub, 2, none⟩ = some (.int .u32 256) ∧ W.cell? ⟨ub, 3, none⟩ = some (.int .u32 1)
theorem Units.step {ub : Nat} {W W' : World} {v v' : Value} (h : Units ub W v) (o : Obj) (hgr : (W.alloc o).grownBy W' v.ownBlock) (hpl : v'.ownBlock = v.ownBlock ∨ v'.ownBlock = some (W.heap.size + 1)) : Units ub W' v' := by
  obtain ⟨h1, h2, c0, c1, c2, c3⟩ := h
  have hs : (W.alloc o).heap.size = W.heap.size + 1 := by simp
  have hlt : ub < (W.alloc o).heap.size := by omega
  have hb : Below W.heap.size W (W.alloc o) := b_alloc (Below.refl _ _) o
  have far : ∀ j u, W.cell? ⟨ub, j, none⟩ = some u → W'.cell? ⟨ub, j, none⟩ = some u := fun j u hu => by
    rw [hgr.cell_far ⟨ub, j, none⟩ hlt (Ne.symm h2)]
    exact cell_stays hb h1 hu
  refine ⟨Nat.lt_of_lt_of_le hlt hgr.size, ?_, far _ _ c0, far _ _ c1, far _ _ c2, far _ _ c3⟩
  rcases hpl with e | e
  · rw [e]; exact h2
  · rw [e]; simp only [ne_eq, Option.some.injEq]; omega

end Go.Proofs.Ytkbijjglodnfbaa

namespace Go.Proofs.Ytkbijjglodnfbaa
open Go.RowKit

end Go.Proofs.Ytkbijjglodnfbaa
