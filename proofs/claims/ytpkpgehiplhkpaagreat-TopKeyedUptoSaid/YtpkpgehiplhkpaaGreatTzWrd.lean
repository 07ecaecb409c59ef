import Derived.Test.YtpkpgehiplhkpaaGreatTzWir
import Derived.Deep.RegionHeld3
namespace Go.Proofs.YtpkpgehiplhkpaaGreat
open Go.RowKit
theorem qzwrd_4 {P : Prop} (h : P := by decide) : P := h
theorem qzwrd_3 {P : Prop} (h : P := by omega) : P := h
theorem qzwrd_2 {P : Prop} (h : P := by
 rintro e w3 ⟨rfl, b3⟩
 go_wp2_with fail
 have b := b_call (b_call b1 b2) b3
 go_ret2
 refine ⟨?_, b⟩
 exact ret2_i (xor3 _ _ _)) : P := h
theorem qzwrd_1 {P : Prop} (h : P := by
 obtain ⟨a, c, rfl, hlc, hcm, hre, hno, hat⟩ := h
 obtain ⟨b, off, rfl, hlt, _⟩ := hat 0 _ (List.getElem?_eq_getElem hne)
 refine ⟨b, off, c, rfl, hlt, hlc, hcm, fun k hk => ?_⟩
 obtain ⟨b', off', hb, _, he⟩ := hat k _ (List.getElem?_eq_getElem hk)
 simp only [Option.some.injEq, Addr.mk.injEq, and_true] at hb
 obtain ⟨rfl, rfl⟩ := hb
 rw [Nat.mul_one] at he
 exact he) : P := h
def choose (x y z : UInt32) : UInt32 := (x &&& y) ||| (~~~x &&& z)
def most (x y z : UInt32) : UInt32 := ((x &&& y) ||| (x &&& z)) ||| (y &&& z)
set_option maxRecDepth 100000 in
set_option maxHeartbeats 400000 in
theorem word_Choose (x y z : UInt32) (w : World) :
 Calls Tryz.prog 205 #[.int .u32 (x.toNat : Int), .int .u32 (y.toNat : Int), .int .u32 (z.toNat : Int)] w fun e w' => e = .returned (.int .u32 ((choose x y z).toNat : Int)) ∧ w = w' := by
 go_enter Tryz.func205, Tryz.ntmps205
 go_wp2
 go_ret
 exact ⟨ret_i (by rw [w_not, w_and, w_and, w_or]; rfl), rfl⟩
set_option maxRecDepth 100000 in
set_option maxHeartbeats 400000 in
theorem word_Most (x y z : UInt32) (w : World) :
 Calls Tryz.prog 206 #[.int .u32 (x.toNat : Int), .int .u32 (y.toNat : Int), .int .u32 (z.toNat : Int)] w fun e w' => e = .returned (.int .u32 ((most x y z).toNat : Int)) ∧ w = w' := by
 go_enter Tryz.func206, Tryz.ntmps206
 go_wp2
 go_ret
 exact ⟨ret_i (by rw [w_and, w_and, w_and, w_or, w_or]; rfl), rfl⟩
def rot (x : UInt32) (n : Nat) : UInt32 := UInt32.ofNat ((x.toNat / 2 ^ n) ||| (x.toNat * 2 ^ (32 - n) % 4294967296))
theorem rot_or (x : UInt32) (m : Nat) (_h : m ≤ 31) : bits .or .u32 ((x.toNat : Int) / 2 ^ m) ((x.toNat : Int) * 2 ^ (32 - m) % 4294967296) = ((rot x m).toNat : Int) := by
 have hx : x.toNat < 4294967296 := x.toNat_lt
 have e1 : ((x.toNat : Int) / 2 ^ m) = ((x.toNat / 2 ^ m : Nat) : Int) := by rw [Int.natCast_ediv, Int.natCast_pow]; rfl
 have e2 : ((x.toNat : Int) * 2 ^ (32 - m) % 4294967296) = ((x.toNat * 2 ^ (32 - m) % 4294967296 : Nat) : Int) := by rw [Int.natCast_emod, Int.natCast_mul, Int.natCast_pow]; rfl
 have b1 : x.toNat / 2 ^ m < 4294967296 := Nat.lt_of_le_of_lt (Nat.div_le_self _ _) hx
 have b2 : x.toNat * 2 ^ (32 - m) % 4294967296 < 4294967296 := Nat.mod_lt _ qzwrd_4
 have b3 : (x.toNat / 2 ^ m ||| x.toNat * 2 ^ (32 - m) % 4294967296) < 2 ^ 32 := Nat.or_lt_two_pow b1 b2
 rw [e1, e2, u32_or_nat _ _ b1 b2]
 unfold rot
 rw [UInt32.toNat_ofNat', Nat.mod_eq_of_lt b3]
theorem rot_or' (x : UInt32) (m : Nat) (h : m ≤ 31) (h0 : 0 < m) : bits .or .u32 ((x.toNat : Int) * 2 ^ (32 - m) % 4294967296) ((x.toNat : Int) / 2 ^ (32 - (32 - m))) = ((rot x m).toNat : Int) := by
 rw [show 32 - (32 - m) = m by omega, ← rot_or x m h]
 have hx : x.toNat < 4294967296 := x.toNat_lt
 have e1 : ((x.toNat : Int) / 2 ^ m) = ((x.toNat / 2 ^ m : Nat) : Int) := by rw [Int.natCast_ediv, Int.natCast_pow]; rfl
 have e2 : ((x.toNat : Int) * 2 ^ (32 - m) % 4294967296) = ((x.toNat * 2 ^ (32 - m) % 4294967296 : Nat) : Int) := by rw [Int.natCast_emod, Int.natCast_mul, Int.natCast_pow]; rfl
 have b1 : x.toNat / 2 ^ m < 4294967296 := Nat.lt_of_le_of_lt (Nat.div_le_self _ _) hx
 have b2 : x.toNat * 2 ^ (32 - m) % 4294967296 < 4294967296 := Nat.mod_lt _ qzwrd_4
 rw [e1, e2, u32_or_nat _ _ b1 b2, u32_or_nat _ _ b2 b1, Nat.or_comm]
set_option maxRecDepth 100000 in
set_option maxHeartbeats 400000 in
theorem word_rotated (x : UInt32) (n : Int) (w : World) (h0 : 0 ≤ n) (h1 : n ≤ 31) :
 Calls Tryz.prog 248 #[.int .u32 (x.toNat : Int), .int .i64 n] w fun e w' => e = .returned (.int .u32 ((rot x n.toNat).toNat : Int)) ∧ Below w.heap.size w w' := by
 have hx : x.toNat < 4294967296 := x.toNat_lt
 obtain ⟨m, rfl⟩ := Int.eq_ofNat_of_zero_le h0
 go_enter Tryz.func248, Tryz.ntmps248
 go_wp2_with fail
 go_quiet (fail)
 go_wp2_with fail
 go_ret
 exact ⟨ret_i (by rw [Int.toNat_natCast]; exact rot_or x m qzwrd_3), below_drewN (Below.refl _ _) _⟩
def mixW (x : UInt32) (n : Int) : UInt32 :=
 if n = 0 then (rot x 2 ^^^ rot x 13) ^^^ rot x 22 else if n = 1 then (rot x 6 ^^^ rot x 11) ^^^ rot x 25
 else if n = 2 then (rot x 7 ^^^ rot x 18) ^^^ (x >>> 3) else (rot x 17 ^^^ rot x 19) ^^^ (x >>> 10)
theorem shr3 (x : UInt32) : ((x.toNat : Int) / (8 : Int)) = ((x >>> 3).toNat : Int) := by
 rw [UInt32.toNat_shiftRight, Nat.shiftRight_eq_div_pow, Int.natCast_ediv]; rfl
theorem shr10 (x : UInt32) : ((x.toNat : Int) / (1024 : Int)) = ((x >>> 10).toNat : Int) := by
 rw [UInt32.toNat_shiftRight, Nat.shiftRight_eq_div_pow, Int.natCast_ediv]; rfl
theorem xor3 (a b c : UInt32) : bits .xor .u32 (bits .xor .u32 (a.toNat : Int) (b.toNat : Int)) (c.toNat : Int) = (((a ^^^ b) ^^^ c).toNat : Int) := by
 rw [w_xor, w_xor]
theorem ret2_i {k k2 : IntKind} {a b c : Int} (h : a = b) : Ending.returned (.tuple #[.int k a, .int k2 c]) = .returned (.tuple #[.int k b, .int k2 c]) := by rw [h]
set_option maxRecDepth 100000 in
set_option maxHeartbeats 1000000 in
theorem word_Mix (x : UInt32) (n : Int) (w : World) (h0 : 0 ≤ n) (h3 : n ≤ 3) :
 Calls Tryz.prog 204 #[.int .u32 (x.toNat : Int), .int .i64 n] w fun e w' => e = .returned (.tuple #[.int .u32 ((mixW x n).toNat : Int), .int .i64 0]) ∧ Below w.heap.size w w' := by
 have hx : x.toNat < 4294967296 := x.toNat_lt
 have hn : n = 0 ∨ n = 1 ∨ n = 2 ∨ n = 3 := by omega
 rcases hn with rfl | rfl | rfl | rfl
 · go_enter Tryz.func204, Tryz.ntmps204
   go_wp2_with fail
   refine (word_rotated x 2 _ qzwrd_4 qzwrd_4).mono ?_
   rintro e w1 ⟨rfl, b1⟩
   go_wp2_with fail
   refine (word_rotated x 13 _ qzwrd_4 qzwrd_4).mono ?_
   rintro e w2 ⟨rfl, b2⟩
   go_wp2_with fail
   refine (word_rotated x 22 _ qzwrd_4 qzwrd_4).mono ?_
   exact qzwrd_2
 · go_enter Tryz.func204, Tryz.ntmps204
   go_wp2_with fail
   refine (word_rotated x 6 _ qzwrd_4 qzwrd_4).mono ?_
   rintro e w1 ⟨rfl, b1⟩
   go_wp2_with fail
   refine (word_rotated x 11 _ qzwrd_4 qzwrd_4).mono ?_
   rintro e w2 ⟨rfl, b2⟩
   go_wp2_with fail
   refine (word_rotated x 25 _ qzwrd_4 qzwrd_4).mono ?_
   exact qzwrd_2
 · go_enter Tryz.func204, Tryz.ntmps204
   go_wp2_with fail
   refine (word_rotated x 7 _ qzwrd_4 qzwrd_4).mono ?_
   rintro e w1 ⟨rfl, b1⟩
   go_wp2_with fail
   refine (word_rotated x 18 _ qzwrd_4 qzwrd_4).mono ?_
   rintro e w2 ⟨rfl, b2⟩
   go_wp2_with fail
   have b := b_call b1 b2
   go_ret2
   refine ⟨?_, b⟩
   exact ret2_i (by rw [shr3, xor3]; rfl)
 go_enter Tryz.func204, Tryz.ntmps204
 go_wp2_with fail
 refine (word_rotated x 17 _ qzwrd_4 qzwrd_4).mono ?_
 rintro e w1 ⟨rfl, b1⟩
 go_wp2_with fail
 refine (word_rotated x 19 _ qzwrd_4 qzwrd_4).mono ?_
 rintro e w2 ⟨rfl, b2⟩
 go_wp2_with fail
 have b := b_call b1 b2
 go_ret2
 refine ⟨?_, b⟩
 exact ret2_i (by rw [shr10, xor3]; rfl)
def wordOf (a b c d : UInt8) : UInt32 := UInt32.ofNat (2 ^ 24 * a.toNat + (2 ^ 16 * b.toNat + (2 ^ 8 * c.toNat + d.toNat)))
theorem wordOf_nat (a b c d : UInt8) : (wordOf a b c d).toNat = 2 ^ 24 * a.toNat + (2 ^ 16 * b.toNat + (2 ^ 8 * c.toNat + d.toNat)) := by
 have := a.toNat_lt; have := b.toNat_lt; have := c.toNat_lt; have := d.toNat_lt
 unfold wordOf
 rw [UInt32.toNat_ofNat']
 omega
theorem word_or (a b c d : UInt8) : bits .or .u32 (bits .or .u32 (bits .or .u32 ((a.toNat : Int) * 16777216) ((b.toNat : Int) * 65536)) ((c.toNat : Int) * 256)) (d.toNat : Int) = ((wordOf a b c d).toNat : Int) := by
 have ha := a.toNat_lt; have hb := b.toNat_lt; have hc := c.toNat_lt; have hd := d.toNat_lt
 have e1 : ((a.toNat : Int) * 16777216) = ((a.toNat * 16777216 : Nat) : Int) := by omega
 have e2 : ((b.toNat : Int) * 65536) = ((b.toNat * 65536 : Nat) : Int) := by omega
 have e3 : ((c.toNat : Int) * 256) = ((c.toNat * 256 : Nat) : Int) := by omega
 have o1 : a.toNat * 16777216 ||| b.toNat * 65536 = a.toNat * 16777216 + b.toNat * 65536 := by
  rw [Nat.mul_comm a.toNat, show 16777216 = 2 ^ 24 from rfl, ← Nat.two_pow_add_eq_or_of_lt qzwrd_3]
 have o2 : (a.toNat * 16777216 + b.toNat * 65536) ||| c.toNat * 256 = a.toNat * 16777216 + b.toNat * 65536 + c.toNat * 256 := by
  rw [show a.toNat * 16777216 + b.toNat * 65536 = 2 ^ 16 * (a.toNat * 256 + b.toNat) by omega, ← Nat.two_pow_add_eq_or_of_lt qzwrd_3]
 have o3 : (a.toNat * 16777216 + b.toNat * 65536 + c.toNat * 256) ||| d.toNat = a.toNat * 16777216 + b.toNat * 65536 + c.toNat * 256 + d.toNat := by
  rw [show a.toNat * 16777216 + b.toNat * 65536 + c.toNat * 256 = 2 ^ 8 * (a.toNat * 65536 + b.toNat * 256 + c.toNat) by omega, ← Nat.two_pow_add_eq_or_of_lt qzwrd_3]
 rw [e1, e2, e3, u32_or_nat _ _ qzwrd_3 qzwrd_3, o1, u32_or_nat _ _ qzwrd_3 qzwrd_3, o2, u32_or_nat _ _ qzwrd_3 qzwrd_3, o3, wordOf_nat]
 omega
theorem word_or' (a b c d : UInt8) : bits .or .u32 (bits .or .u32 (bits .or .u32 (IntKind.u32.wrap (IntKind.u32.wrap (a.toNat : Int) * 16777216)) (IntKind.u32.wrap (IntKind.u32.wrap (b.toNat : Int) * 65536))) (IntKind.u32.wrap (IntKind.u32.wrap (c.toNat : Int) * 256))) (IntKind.u32.wrap (d.toNat : Int)) = ((wordOf a b c d).toNat : Int) := by
 have ha := a.toNat_lt; have hb := b.toNat_lt; have hc := c.toNat_lt; have hd := d.toNat_lt
 have key : ∀ n : Int, 0 ≤ n → n < 4294967296 → IntKind.u32.wrap n = n := fun n h0 h1 => IntWalk.u32_in _ qzwrd_3
 rw [key (a.toNat : Int) qzwrd_3 qzwrd_3, key (b.toNat : Int) qzwrd_3 qzwrd_3, key (c.toNat : Int) qzwrd_3 qzwrd_3, key (d.toNat : Int) qzwrd_3 qzwrd_3,
  key ((a.toNat : Int) * 16777216) qzwrd_3 qzwrd_3, key ((b.toNat : Int) * 65536) qzwrd_3 qzwrd_3, key ((c.toNat : Int) * 256) qzwrd_3 qzwrd_3]
 exact word_or a b c d
theorem RB.block {w : World} {v : Value} {l : List UInt8} (h : RB w v l) (hne : 0 < l.length) : ∃ b off c, v = .slice (some ⟨b, off, none⟩) l.length c ∧ b < w.heap.size ∧ l.length ≤ c ∧ c ≤ maxLen ∧ ∀ k (hk : k < l.length), w.cell? ⟨b, off + k, none⟩ = some (.int .u8 (l[k].toNat : Int)) := by
 exact qzwrd_1
def wordAt (l : List UInt8) (k : Nat) : UInt32 := if h : 4 * k + 3 < l.length then wordOf l[4 * k] l[4 * k + 1] l[4 * k + 2] (l[4 * k + 3]'h) else 0
theorem wordAt_val (l : List UInt8) (k m : Nat) (hm : m = 4 * k) (h : m + 3 < l.length) : wordAt l k = wordOf l[m] l[m + 1] l[m + 2] l[m + 3] := by
 subst hm
 unfold wordAt
 rw [dif_pos h]
def wordsDec (l : List UInt8) (k : Nat) : List UInt32 := (List.range k).map (wordAt l)
theorem wordsDec_len (l : List UInt8) (k : Nat) : (wordsDec l k).length = k := by simp [wordsDec]
theorem wordsDec_snoc (l : List UInt8) (k : Nat) : wordsDec l (k + 1) = wordsDec l k ++ [wordAt l k] := by simp [wordsDec, List.range_succ]
theorem info_u32 : (Tryz.prog.info? 98).map (fun i => (i.zero, i.size, i.bytes)) = some (some (.int .u32 0), 1, 4) := by kernel_rfl
set_option maxRecDepth 100000 in
set_option maxHeartbeats 1000000 in
theorem word_Words (v : Value) (l : List UInt8) (w : World) (hl : RB w v l) (h : l.length ≤ 2072) (h2 : l.length % 4 = 0) :
 Calls Tryz.prog 138 #[v] w fun e w' => ∃ v', e = .returned (.tuple #[v', .int .i64 0]) ∧ OS 98 1 cU32 w' w.heap.size v' (wordsDec l (l.length / 4)) ∧ Below w.heap.size w w' := by
 obtain ⟨i0, hi, hz0, hz1, hz2⟩ := info_parts info_u32
 obtain ⟨w1, hmk, how, hgr⟩ := run_make_own w w.heap.size 100 98 i0 (.int .u32 0) 1 Tryz.underlying100 hi hz0 hz1 .i64 .i64 (l.length / 4) (by rw [hz2]; omega) (by simp [maxLen]; omega) (Nat.le_refl _)
 have ho1 : OS 98 1 cU32 w1 w.heap.size (.slice (some ⟨w.heap.size, 0, none⟩) 0 (l.length / 4)) [] := how
 rw [Int.natCast_ediv] at hmk
 simp only [Int.cast_ofNat_Int] at hmk
 have hb1 : Below w.heap.size w w1 := b_grown (v := .slice none 0 0) (Below.refl _ _) hgr (fun k hk => by simp [Value.ownBlock] at hk)
 clear how hgr
 have q2 : ((l.length : Int) % 4 != 0) = false := by simp; omega
 have q4 : decide (2072 < (l.length : Int)) = false := by simp; omega
 have hR := hl
 obtain ⟨a, c, rfl, hlc, hcm, hre, hno, _⟩ := hl
 unfold maxLen at hcm
 generalize hB : w.heap.size = B at *
 generalize Value.slice (some ⟨B, 0, none⟩) 0 (l.length / 4) = v1 at *
 go_enter Tryz.func138, Tryz.ntmps138
 go_wp2_with fail
 go_loopw [4, 5] (fun v i wr => ∃ (m : Nat), i = .int .i64 (m : Int) ∧ m % 4 = 0 ∧ m ≤ l.length ∧ OS 98 1 cU32 wr B v (wordsDec l (m / 4)) ∧ Below B w wr) (fun _ i _ => l.length - (intOf i).toNat)
 case atStart => exact ⟨0, rfl, rfl, by omega, ho1, hb1⟩
 obtain ⟨m, rfl, hm, hk, hown, hb⟩ := hrel
 by_cases hlt : m < l.length
 · have hlt3 : m + 3 < l.length := by omega
   obtain ⟨b, off, c', hv, hbl, _, _, hc⟩ := RB.block hR qzwrd_3
   simp only [Value.slice.injEq] at hv
   obtain ⟨rfl, -, -⟩ := hv
   have c0 := cell_stays (hB ▸ hb) hbl (hc m hlt)
   have c1 := cell_stays (hB ▸ hb) hbl (hc (m + 1) qzwrd_3)
   have c2 := cell_stays (hB ▸ hb) hbl (hc (m + 2) qzwrd_3)
   have c3 := cell_stays (hB ▸ hb) hbl (hc (m + 3) hlt3)
   have hwa := hid (wordAt_val l (m / 4) m qzwrd_3 hlt3)
   clear hc hR
   generalize l[m] = x0 at *
   generalize l[m + 1] = x1 at *
   generalize l[m + 2] = x2 at *
   generalize l[m + 3] = x3 at *
   have hwo := word_or' x0 x1 x2 x3
   have r0 := x0.toNat_lt; have r1 := x1.toNat_lt; have r2 := x2.toNat_lt; have r3 := x3.toNat_lt
   have hs := hb.size
   replace hm := hid hm
   have w1 : IntKind.i64.wrap ((m : Int) + 1) = (m : Int) + 1 := IntWalk.i64_in _ qzwrd_3
   have w2 : IntKind.i64.wrap ((m : Int) + 2) = (m : Int) + 2 := IntWalk.i64_in _ qzwrd_3
   have w3 : IntKind.i64.wrap ((m : Int) + 3) = (m : Int) + 3 := IntWalk.i64_in _ qzwrd_3
   have g0 : (0 : Int) ≤ (m : Int) ∧ (m : Int) < (l.length : Int) := by omega
   have g1 : (0 : Int) ≤ (m : Int) + 1 ∧ (m : Int) + 1 < (l.length : Int) := by omega
   have g2 : (0 : Int) ≤ (m : Int) + 2 ∧ (m : Int) + 2 < (l.length : Int) := by omega
   have g3 : (0 : Int) ≤ (m : Int) + 3 ∧ (m : Int) + 3 < (l.length : Int) := by omega
   have n2 : ((m : Int) + 2).toNat = m + 2 := by omega
   have n3 : ((m : Int) + 3).toNat = m + 3 := by omega
   have hne : u4.ownBlock ≠ some b := fun h => by have := OS.block hown b h; omega
   have hlen := wordsDec_len l (m / 4)
   have ho : wr.ownsRow B 98 1 u4 (wordsDec l (m / 4)).length ((wordsDec l (m / 4)).flatMap cU32) := hown
   rw [hlen] at ho
   go_wp2_with fail
   go_region_held3 (fun w' => w'.cell? ⟨b, off + m, none⟩ = some (.int .u8 (x0.toNat : Int)) ∧ w'.cell? ⟨b, off + (m + 1), none⟩ = some (.int .u8 (x1.toNat : Int)) ∧ w'.cell? ⟨b, off + (m + 2), none⟩ = some (.int .u8 (x2.toNat : Int)) ∧ w'.cell? ⟨b, off + (m + 3), none⟩ = some (.int .u8 (x3.toNat : Int)))
    (first
      | go_keep
      | (go_split_ands
         refine ⟨?_, ?_, ?_, ?_⟩
         all_goals (rw [hgrow.cell_far _ (by simp; omega) (Ne.symm hne)]; assumption)))
    ((refine step_append_lies _ (by rfl) _ _ _ (by rfl) B 98 i0 _ 1 4 Tryz.underlying100 hi hz0 hz1 hz2 rfl qzwrd_3 u4 (m / 4) ((wordsDec l (m / 4)).flatMap cU32) (by rfl) ((ho.alloc _).drew)
       ⟨wr.heap.size, 0, none⟩ 1 1 [.int .u32 ((wordOf x0 x1 x2 x3).toNat : Int)] (by rfl) (by rfl) (World.news_of_block (cs := #[.int .u32 ((wordOf x0 x1 x2 x3).toNat : Int)]) (t := 98) (fr := (0, 0)) (heap_alloc_new wr _)) (by simp [Value.oneCell'])
       qzwrd_3 (by simp [maxLen]; omega) qzwrd_3 (by simp; omega) (wr.heap.size + 1) (by simp) ?_; intro gg cap w1 hown1 hgrow hat hlt))
   rename_i hHeld
   have ho2 : OS 98 1 cU32 w1 B (.slice (some ⟨gg, 0, none⟩) (m / 4 + 1) cap) (wordsDec l (m / 4 + 1)) := by
    unfold OS
    rw [wordsDec_len, wordsDec_snoc, hwa.out, List.flatMap_append]
    exact hown1
   have hb2 := b_grown (v := u4) (Below.drew (b_alloc (hB ▸ hb) _)) hgrow (hB ▸ OS.block hown)
   clear hgrow hb hown hown1 ho hwo hne hHeld
   go_wp2_with fail
   go_roundw
   case rel => exact ⟨m + 4, by go_num, by have := hm.out; omega, by have := hm.out; omega, by rw [show (m + 4) / 4 = m / 4 + 1 by omega]; exact ho2, hB ▸ hb2⟩
   case measure => simp [intOf]; omega
 go_wp2_with fail
 go_ret2
 obtain rfl : m = l.length := by omega
 exact ⟨_, rfl, hown, hb⟩
theorem lit_u8 (w : World) (t : TypeId) (cs : Array Value) (m : List UInt8) (h : cs.toList = m.map fun x => Value.int .u8 (x.toNat : Int)) (k n : Nat) (hk : k = w.heap.size) (hn : n = m.length) (hb : n ≤ 140737488351232) : RB (w.alloc (.cells cs t)) (.slice (some ⟨k, 0, none⟩) n n) m := by
 subst hk hn
 refine ⟨_, _, rfl, Nat.le_refl _, by simp [maxLen]; omega, by omega, fun h => by simp at h, fun j x hj => ⟨w.heap.size, 0, rfl, by simp, ?_⟩⟩
 have e : (w.alloc (.cells cs t)).heap[w.heap.size]? = some (.cells cs t) := heap_alloc_new w _
 unfold EU8
 rw [cell_of_row _ _ _ _ _ _ e, ← Array.getElem?_toList, h, Nat.mul_one, Nat.zero_add, List.getElem?_map, hj]
 rfl
def bw (x : UInt32) : List UInt8 := [UInt8.ofNat (x.toNat / 16777216), UInt8.ofNat (x.toNat / 65536), UInt8.ofNat (x.toNat / 256), UInt8.ofNat x.toNat]
def bytesW (l : List UInt32) : List UInt8 := l.flatMap bw
theorem bytesW_len (l : List UInt32) : (bytesW l).length = 4 * l.length := by
 unfold bytesW
 induction l with
 | nil => rfl
 | cons x l ih => rw [List.flatMap_cons, List.length_append, ih, List.length_cons]; simp [bw]; omega
theorem bytesW_snoc (l : List UInt32) (k : Nat) (h : k < l.length) : bytesW (l.take (k + 1)) = bytesW (l.take k) ++ bw l[k] := by
 unfold bytesW
 rw [List.take_succ_eq_append_getElem h, List.flatMap_append]
 simp
theorem bw_cells (x : UInt32) : [Value.int .u8 ((x.toNat : Int) / 16777216), .int .u8 ((x.toNat : Int) / 65536 % 256), .int .u8 ((x.toNat : Int) / 256 % 256), .int .u8 ((x.toNat : Int) % 256)] = (bw x).map fun x => Value.int .u8 (x.toNat : Int) := by
 have h : ∀ n : Nat, ((n : Int) % 256) = ((UInt8.ofNat n).toNat : Int) := fun n => by rw [UInt8.toNat_ofNat']; omega
 have hx := x.toNat_lt
 have h0 : ((x.toNat : Int) / 16777216) = ((x.toNat / 16777216 : Nat) : Int) % 256 := by omega
 simp only [bw, List.map_cons, List.map_nil]
 rw [← h, ← h, ← h, ← h, h0]
 rfl
theorem RW.block {w : World} {v : Value} {l : List UInt32} (h : RW w v l) (hne : 0 < l.length) : ∃ b off c, v = .slice (some ⟨b, off, none⟩) l.length c ∧ b < w.heap.size ∧ l.length ≤ c ∧ c ≤ maxLen ∧ ∀ k (hk : k < l.length), w.cell? ⟨b, off + k, none⟩ = some (.int .u32 (l[k].toNat : Int)) := by
 exact qzwrd_1
set_option maxRecDepth 100000 in
set_option maxHeartbeats 1000000 in
theorem word_Bytes (v : Value) (l : List UInt32) (w : World) (hl : RW w v l) (h : l.length ≤ 2000) :
 Calls Tryz.prog 141 #[v] w fun e w' => ∃ v', e = .returned (.tuple #[v', .int .i64 0]) ∧ OS 5 1 cU8 w' w.heap.size v' (bytesW l) ∧ Below w.heap.size w w' := by
 obtain ⟨i0, hi, hz0, hz1, hz2⟩ := info_parts info_u8
 obtain ⟨w1, hmk, how, hgr⟩ := run_make_own w w.heap.size 41 5 i0 (.int .u8 0) 1 Tryz.underlying41 hi hz0 hz1 .i64 .i64 (4 * l.length) (by rw [hz2]; omega) (by simp [maxLen]; omega) (Nat.le_refl _)
 have ho1 : OS 5 1 cU8 w1 w.heap.size (.slice (some ⟨w.heap.size, 0, none⟩) 0 (4 * l.length)) [] := how
 rw [Int.natCast_mul] at hmk
 simp only [Int.cast_ofNat_Int] at hmk
 have hb1 : Below w.heap.size w w1 := b_grown (v := .slice none 0 0) (Below.refl _ _) hgr (fun k hk => by simp [Value.ownBlock] at hk)
 clear how hgr
 have q4 : decide (2000 < (l.length : Int)) = false := by simp; omega
 have hR := hl
 obtain ⟨a, c, rfl, hlc, hcm, hre, hno, _⟩ := hl
 unfold maxLen at hcm
 generalize hB : w.heap.size = B at *
 generalize Value.slice (some ⟨B, 0, none⟩) 0 (4 * l.length) = v1 at *
 go_enter Tryz.func141, Tryz.ntmps141
 go_wp2_with fail
 go_loopw [4, 16] (fun v i wr => ∃ (k : Nat), i = .int .i64 (k : Int) ∧ k ≤ l.length ∧ OS 5 1 cU8 wr B v (bytesW (l.take k)) ∧ Below B w wr) (fun _ i _ => l.length - (intOf i).toNat)
 case atStart => exact ⟨0, rfl, by omega, ho1, hb1⟩
 obtain ⟨k, rfl, hk, hown, hb⟩ := hrel
 by_cases hlt : k < l.length
 · obtain ⟨b, off, c', hv, hbl, _, _, hc⟩ := RW.block hR qzwrd_3
   simp only [Value.slice.injEq] at hv
   obtain ⟨rfl, -, -⟩ := hv
   have c0 := cell_stays (hB ▸ hb) hbl (hc k hlt)
   have hs := hb.size
   have r0 := l[k].toNat_lt
   have hsn := hid (bytesW_snoc l k hlt)
   have hlen := bytesW_len (l.take k)
   rw [List.length_take, Nat.min_eq_left hk] at hlen
   clear hc hR
   generalize l[k] = x0 at *
   go_wp2_with (at_builtin; go_must (refine wpL_append flat_u8 rfl (.tmp 20) (.tmp 32) 41 rfl 5 i0 (.int .u8 0) Tryz.underlying41 hi hz0 hz1 hz2 rfl B _ (bytesW (l.take k)) rfl (OS.alloc hown _) _ (bw x0) rfl (lit_u8 _ _ _ _ (bw_cells x0) _ 4 (by first | rfl | simp) rfl qzwrd_4) ?c1 ?c2 ?c3 ?_))
   case c1 => rw [hlen]; simp [bw]; omega
   case c2 => rw [hlen]; simp [bw, maxLen]; omega
   case c3 => simp; omega
   intro v' w2 hown1 hgr
   rw [← hsn.out] at hown1
   have hb2 := b_grown (b_alloc (hB ▸ hb) _) hgr (hB ▸ OS.block hown)
   clear hgr hb hown c0
   go_wp2_with fail
   go_roundw
   case rel => exact ⟨k + 1, by go_num, by omega, hown1, hB ▸ hb2⟩
   case measure => simp [intOf]; omega
 go_wp2_with fail
 go_ret2
 obtain rfl : k = l.length := by omega
 rw [List.take_length] at hown
 exact ⟨_, rfl, hown, hb⟩
def Units (ub : Nat) (W : World) (v : Value) : Prop := ub < W.heap.size ∧ v.ownBlock ≠ some ub ∧ W.cell? ⟨ub, 0, none⟩ = some (.int .u32 16777216) ∧ W.cell? ⟨ub, 1, none⟩ = some (.int .u32 65536) ∧ W.cell? ⟨ub, 2, none⟩ = some (.int .u32 256) ∧ W.cell? ⟨ub, 3, none⟩ = some (.int .u32 1)
theorem Units.step {ub : Nat} {W W' : World} {v v' : Value} (h : Units ub W v) (o : Obj) (hgr : (W.alloc o).grownBy W' v.ownBlock) (hpl : v'.ownBlock = v.ownBlock ∨ v'.ownBlock = some (W.heap.size + 1)) : Units ub W' v' := by
 obtain ⟨h1, h2, c0, c1, c2, c3⟩ := h
 have hs : (W.alloc o).heap.size = W.heap.size + 1 := by simp
 have hlt : ub < (W.alloc o).heap.size := by omega
 have hb : Below W.heap.size W (W.alloc o) := b_alloc (Below.refl _ _) o
 have far : ∀ j u, W.cell? ⟨ub, j, none⟩ = some u → W'.cell? ⟨ub, j, none⟩ = some u := fun j u hu => by
  rw [hgr.cell_far ⟨ub, j, none⟩ hlt (Ne.symm h2)]
  exact cell_stays hb h1 hu
 refine ⟨Nat.lt_of_lt_of_le hlt hgr.size, ?_, far _ _ c0, far _ _ c1, far _ _ c2, far _ _ c3⟩
 rcases hpl with e | e
 · rw [e]; exact h2
 rw [e]; simp only [ne_eq, Option.some.injEq]; omega
end Go.Proofs.YtpkpgehiplhkpaaGreat
