/-
  The reference's WordsOf: what it computes.
-/
import Derived.Test.YtaojfpgbpakmpaaWord3
namespace Go.Proofs.Ytaojfpgbpakmpaa
open Go.RowKit

def accN (l : List UInt8) (q : Nat) : Nat → Nat
  | 0 => 0
  | r + 1 => accN l q r * 256 + (l.getD (4 * q + r) 0).toNat
theorem accN_lt (l : List UInt8) (q : Nat) : ∀ r, accN l q r < 256 ^ r
  | 0 => by simp [accN]
  | r + 1 => by
    have h := accN_lt l q r
    have h2 := (l.getD (4 * q + r) 0).toNat_lt
    rw [Nat.pow_succ]
    unfold accN
    omega
theorem accN_word (l : List UInt8) (q : Nat) (h : 4 * q + 3 < l.length) : UInt32.ofNat (accN l q 4) = wordAt l q := by
  have d0 : l.getD (4 * q + 0) 0 = l[4 * q] := by simp [List.getD_eq_getElem?_getD, List.getElem?_eq_getElem (show 4 * q < l.length by omega)]
  have d1 : l.getD (4 * q + 1) 0 = l[4 * q + 1] := by simp [List.getD_eq_getElem?_getD, List.getElem?_eq_getElem (show 4 * q + 1 < l.length by omega)]
  have d2 : l.getD (4 * q + 2) 0 = l[4 * q + 2] := by simp [List.getD_eq_getElem?_getD, List.getElem?_eq_getElem (show 4 * q + 2 < l.length by omega)]
  have d3 : l.getD (4 * q + 3) 0 = l[4 * q + 3] := by simp [List.getD_eq_getElem?_getD, List.getElem?_eq_getElem h]
  have e : accN l q 4 = (((0 * 256 + (l.getD (4 * q + 0) 0).toNat) * 256 + (l.getD (4 * q + 1) 0).toNat) * 256 + (l.getD (4 * q + 2) 0).toNat) * 256 + (l.getD (4 * q + 3) 0).toNat := rfl
  rw [d0, d1, d2, d3] at e
  rw [wordAt_val l q (4 * q) rfl h, e]
  unfold wordOf
  refine congrArg UInt32.ofNat ?_
  omega
def wordsPart (l : List UInt8) (m : Nat) : List UInt32 := wordsDec l (m / 4) ++ (if m % 4 = 0 then [] else [UInt32.ofNat (accN l (m / 4) (m % 4))])
theorem wordsPart_full (l : List UInt8) (m : Nat) (h : m % 4 = 0) : wordsPart l m = wordsDec l (m / 4) := by unfold wordsPart; rw [if_pos h, List.append_nil]
theorem wordsPart_mid (l : List UInt8) (m : Nat) (h : m % 4 ≠ 0) : wordsPart l m = wordsDec l (m / 4) ++ [UInt32.ofNat (accN l (m / 4) (m % 4))] := by unfold wordsPart; rw [if_neg h]
theorem wordsPart_len (l : List UInt8) (m : Nat) : (wordsPart l m).length = (m + 3) / 4 := by
  unfold wordsPart
  split
  · rw [List.append_nil, wordsDec_len]; omega
  · rw [List.length_append, wordsDec_len]; simp; omega
theorem wordsPart_set (l : List UInt8) (m : Nat) (y : UInt32) (h : m < l.length) (hl : l.length % 4 = 0) : (wordsDec l (m / 4) ++ [y]).set (m / 4) (UInt32.ofNat (accN l (m / 4) (m % 4 + 1))) = wordsPart l (m + 1) := by
  rw [List.set_append_right _ _ (by rw [wordsDec_len]; exact Nat.le_refl _), wordsDec_len, Nat.sub_self]
  show wordsDec l (m / 4) ++ [UInt32.ofNat (accN l (m / 4) (m % 4 + 1))] = _
  by_cases h3 : m % 4 = 3
  · rw [wordsPart_full l (m + 1) (by omega), show (m + 1) / 4 = m / 4 + 1 by omega, wordsDec_snoc, h3, accN_word l (m / 4) (by omega)]
  · rw [wordsPart_mid l (m + 1) (by omega), show (m + 1) / 4 = m / 4 by omega, show (m + 1) % 4 = m % 4 + 1 by omega]
theorem acc_val (l : List UInt8) (m : Nat) (h : m < l.length) (y : UInt32) (hy : y.toNat = accN l (m / 4) (m % 4)) : y.toNat < 16777216 ∧ ((y.toNat : Int) * 256 + (l[m].toNat : Int)) = ((UInt32.ofNat (accN l (m / 4) (m % 4 + 1))).toNat : Int) := by
  have hb := accN_lt l (m / 4) (m % 4)
  have h3 : 256 ^ (m % 4) ≤ 256 ^ 3 := Nat.pow_le_pow_right (by decide) (by omega)
  have hx := l[m].toNat_lt
  refine ⟨by omega, ?_⟩
  rw [UInt32.toNat_ofNat', accN, show 4 * (m / 4) + m % 4 = m by omega, List.getD_eq_getElem?_getD, List.getElem?_eq_getElem h, Option.getD_some]
  omega
theorem acc_toNat (l : List UInt8) (m : Nat) : (UInt32.ofNat (accN l (m / 4) (m % 4))).toNat = accN l (m / 4) (m % 4) := by
  have hb := accN_lt l (m / 4) (m % 4)
  have h3 : 256 ^ (m % 4) ≤ 256 ^ 3 := Nat.pow_le_pow_right (by decide) (by omega)
  rw [UInt32.toNat_ofNat']
  omega
theorem one_u32 (w : World) (t : TypeId) (n : Int) (b : UInt32) (k : Nat) (hk : k = w.heap.size) (h : n = (b.toNat : Int)) : RW (w.alloc (.cells #[.int .u32 n] t)) (.slice (some ⟨k, 0, none⟩) 1 1) [b] := by
  subst hk
  refine ⟨_, _, rfl, by simp, by simp [maxLen], by simp, fun h => by simp at h, fun k x hk => ⟨w.heap.size, 0, rfl, by simp, ?_⟩⟩
  obtain rfl : k = 0 := by have := (List.getElem?_eq_some_iff.1 hk).1; simp at this; omega
  simp only [List.getElem?_cons_zero, Option.some.injEq] at hk
  subst hk h
  have hc : (w.alloc (.cells #[.int .u32 (b.toNat : Int)] t)).cell? ⟨w.heap.size, 0 + 0 * 1, none⟩ = some (.int .u32 (b.toNat : Int)) := by simp
  exact hc

set_option maxRecDepth 100000 in
set_option maxHeartbeats 1000000 in
theorem ref_WordsOf (v : Value) (l : List UInt8) (w : World) (hl : RB w v l) (h : l.length ≤ 2072) (h2 : l.length % 4 = 0) :
    Calls Try.prog 197 #[v] w fun e w' => ∃ v', e = .returned (.tuple #[v', .int .i64 0]) ∧ OS 209 1 cU32 w' w.heap.size v' (wordsDec l (l.length / 4)) ∧ Below w.heap.size w w' := by
  obtain ⟨i0, hi, hz0, hz1, hz2⟩ := info_parts info_u32
  have q2 : (bits .and .i64 (l.length : Int) 3 != 0) = false := by
    have := bits_mask .i64 63 (by decide) (fun m a b => by rw [IntKind.wrap_i64]; omega) 2 (by decide) (l.length : Int) (by omega) (by omega)
    rw [show (2 : Int) ^ 2 - 1 = 3 from rfl] at this
    rw [this]; simp; omega
  have q4 : decide (2072 < (l.length : Int)) = false := by simp; omega
  have hR := hl
  obtain ⟨a, c, rfl, hlc, hcm, hre, hno, _⟩ := hl
  unfold maxLen at hcm
  go_enter Try.func197, Try.ntmps197
  go_wp2_with fail
  go_loopw [4, 16] (fun v i wr => ∃ (m : Nat), i = .int .i64 (m : Int) ∧ m ≤ l.length ∧ OS 209 1 cU32 wr w.heap.size v (wordsPart l m) ∧ Below w.heap.size w wr) (fun _ i _ => l.length - (intOf i).toNat)
  case atStart => exact ⟨0, rfl, by omega, OS.nil, Below.refl _ _⟩
  case round =>
    obtain ⟨m, rfl, hk, hown, hb⟩ := hrel
    by_cases hlt : m < l.length
    · obtain ⟨b, off, c', hv, hbl, _, _, hc⟩ := RB.block hR (by omega)
      simp only [Value.slice.injEq] at hv
      obtain ⟨rfl, -, -⟩ := hv
      have c0 := cell_stays hb hbl (hc m hlt)
      have hs := hb.size
      have r0 := l[m].toNat_lt
      have hlen := wordsPart_len l m
      have hset0 := hid (fun y => wordsPart_set l m y hlt h2)
      have hval := acc_val l m hlt
      clear hc hR
      generalize l[m] = x0 at *
      by_cases hev : m % 4 = 0
      · have qe : ((m : Int) % 4 == 0) = true := by simp; omega
        have hfull := hid (show (wordsPart l m ++ [0]).set (m / 4) (UInt32.ofNat (accN l (m / 4) (m % 4 + 1))) = wordsPart l (m + 1) by rw [wordsPart_full l m hev]; exact hset0.out 0)
        obtain ⟨_, hv0⟩ := hval 0 (by rw [hev]; rfl)
        replace hval := hid hv0
        clear hv0
        go_wp2_with (at_builtin; go_must (refine wpL_append flat_u32 rfl (.tmp 24) (.tmp 25) 203 rfl 209 i0 (.int .u32 0) Try.underlying203 hi hz0 hz1 hz2 rfl w.heap.size _ (wordsPart l m) rfl (OS.alloc hown _) _ [0] rfl (one_u32 _ _ _ _ _ (by simp) rfl) ?c1 ?c2 ?c3 ?_))
        case c1 => simp; omega
        case c2 => simp [maxLen]; omega
        case c3 => simp; omega
        intro v' w2 hown1 hgr
        have hb2 := b_grown (b_alloc hb _) hgr (OS.block hown)
        clear hgr hb hown c0
        obtain ⟨g, cap, rfl, hg, hgs, hcell, hfr, hset⟩ := OS.cell1 hown1 (fun _ => rfl) (m / 4) 0 (by rw [List.getElem?_append_right (by omega), hlen, show m / 4 - (m + 3) / 4 = 0 by omega]; rfl)
        have hset1 := hset (UInt32.ofNat (accN l (m / 4) (m % 4 + 1))) (.int .u32 (x0.toNat : Int)) (by have := hval.out; simp at this; rw [cU32]; simp [this])
        rw [hfull.out] at hset1
        simp only [cU32, List.getElem?_cons_zero] at hcell
        have hb3 := b_set hb2 (p := ⟨g, m / 4, none⟩) hg (.int .u32 (x0.toNat : Int))
        clear hset hown1 hb2
        have hcell' : w2.cell? ⟨g, m / 4, none⟩ = some (.int .u32 0) := hcell
        go_wp2_with fail
        go_roundw
        case rel => exact ⟨m + 1, by go_num, by omega, hset1, hb3⟩
        case measure => simp [intOf]; omega
      · have qe : ((m : Int) % 4 == 0) = false := by simp; omega
        have hmid := hid (wordsPart_mid l m hev)
        have hix : m / 4 < (wordsPart l m).length := by rw [hlen]; omega
        obtain ⟨g, cap, rfl, hg, hgs, hcell, hfr, hset⟩ := OS.cell1 hown (fun _ => rfl) (m / 4) (UInt32.ofNat (accN l (m / 4) (m % 4))) (by rw [hmid.out, List.getElem?_append_right (by rw [wordsDec_len]; exact Nat.le_refl _), wordsDec_len, Nat.sub_self]; rfl)
        obtain ⟨hy, hv0⟩ := hval _ (acc_toNat l m)
        replace hval := hid hv0
        clear hv0
        have hst := hid (show (wordsPart l m).set (m / 4) (UInt32.ofNat (accN l (m / 4) (m % 4 + 1))) = wordsPart l (m + 1) by rw [hmid.out]; exact hset0.out _)
        generalize UInt32.ofNat (accN l (m / 4) (m % 4)) = y at *
        have hset1 := hset (UInt32.ofNat (accN l (m / 4) (m % 4 + 1))) (.int .u32 ((y.toNat : Int) * 256 + (x0.toNat : Int))) (by rw [hval.out]; rfl)
        rw [hst.out] at hset1
        simp only [cU32, List.getElem?_cons_zero] at hcell
        have hb3 := b_set hb (p := ⟨g, m / 4, none⟩) hg (.int .u32 ((y.toNat : Int) * 256 + (x0.toNat : Int)))
        clear hset hown
        go_wp2_with fail
        go_roundw
        case rel => exact ⟨m + 1, by go_num, by omega, hset1, hb3⟩
        case measure => simp [intOf]; omega
    · go_wp2_with fail
      go_ret2
      obtain rfl : m = l.length := by omega
      rw [wordsPart_full l _ h2] at hown
      exact ⟨_, rfl, hown, hb⟩

set_option maxRecDepth 100000 in
theorem ref_WordsOf_size (v : Value) (l : List UInt8) (w : World) (hl : RB w v l) (h : 2072 < l.length) :
    Calls Try.prog 197 #[v] w fun e w' => e = .returned (.tuple #[.slice none 0 0, .int .i64 1]) ∧ w = w' := by
  obtain ⟨a, c, rfl, hlc, hcm, hre, hno, _⟩ := hl
  go_enter Try.func197, Try.ntmps197
  go_wp2_with fail
  go_ret2
  exact ⟨rfl, rfl⟩

set_option maxRecDepth 100000 in
theorem ref_WordsOf_odd (v : Value) (l : List UInt8) (w : World) (hl : RB w v l) (h : l.length ≤ 2072) (h2 : l.length % 4 ≠ 0) :
    Calls Try.prog 197 #[v] w fun e w' => e = .returned (.tuple #[.slice none 0 0, .int .i64 3]) ∧ w = w' := by
  obtain ⟨a, c, rfl, hlc, hcm, hre, hno, _⟩ := hl
  have q2 : (bits .and .i64 (l.length : Int) 3 != 0) = true := by
    have := bits_mask .i64 63 (by decide) (fun m a b => by rw [IntKind.wrap_i64]; omega) 2 (by decide) (l.length : Int) (by omega) (by omega)
    rw [show (2 : Int) ^ 2 - 1 = 3 from rfl] at this
    rw [this]; simp; omega
  go_enter Try.func197, Try.ntmps197
  go_wp2_with fail
  go_ret2
  exact ⟨rfl, rfl⟩
end Go.Proofs.Ytaojfpgbpakmpaa
