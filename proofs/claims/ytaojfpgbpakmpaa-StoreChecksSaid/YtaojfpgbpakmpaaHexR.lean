/-
  The reference's HexText: the text of bytes.
-/
import Derived.Test.YtaojfpgbpakmpaaHexT
import Derived.Laws.OwnMore
namespace Go.Proofs.Ytaojfpgbpakmpaa
open Go.RowKit

/-- What stands in the reference's row after m rounds. -/
def hexRow (l : List UInt8) (m : Nat) : List UInt8 := (hexOf l).take m ++ List.replicate (2 * l.length - m) 0
theorem hexRow_len (l : List UInt8) (m : Nat) (h : m ≤ 2 * l.length) : (hexRow l m).length = 2 * l.length := by
  unfold hexRow
  rw [List.length_append, List.length_take, hexOf_len, List.length_replicate]; omega
theorem hexRow_all (l : List UInt8) : hexRow l (2 * l.length) = hexOf l := by
  unfold hexRow
  rw [List.take_of_length_le (by rw [hexOf_len]; exact Nat.le_refl _), Nat.sub_self]; simp
theorem hexRow_zero (l : List UInt8) : hexRow l 0 = List.replicate (2 * l.length) 0 := by
  unfold hexRow; simp
theorem hexOf_at (l : List UInt8) (m : Nat) (h : m < 2 * l.length) : (hexOf l)[m]? = some (if m % 2 = 0 then hexDig ((l.getD (m / 2) 0).toNat / 16) else hexDig ((l.getD (m / 2) 0).toNat % 16)) := by
  unfold hexOf
  have key : ∀ (l : List UInt8) (m : Nat), m < 2 * l.length → (l.flatMap hexTwo)[m]? = some (if m % 2 = 0 then hexDig ((l.getD (m / 2) 0).toNat / 16) else hexDig ((l.getD (m / 2) 0).toNat % 16)) := by
    intro l
    induction l with
    | nil => intro m h; simp at h
    | cons c l ih =>
      intro m h
      rw [List.flatMap_cons]
      match m with
      | 0 => simp [hexTwo]
      | 1 => simp [hexTwo]
      | m + 2 =>
        rw [List.getElem?_append_right (by simp [hexTwo])]
        have := ih m (by simp at h; omega)
        rw [show m + 2 - (hexTwo c).length = m by simp [hexTwo], this, show (m + 2) % 2 = m % 2 by omega, show (m + 2) / 2 = m / 2 + 1 by omega]
        simp
  exact key l m h
theorem hexRow_get (l : List UInt8) (m : Nat) (h : m < 2 * l.length) : (hexRow l m)[m]? = some 0 := by
  unfold hexRow
  rw [List.getElem?_append_right (by rw [List.length_take]; omega), List.length_take, hexOf_len, Nat.min_eq_left (by omega), Nat.sub_self, List.getElem?_replicate, if_pos (by omega)]
theorem hexRow_set (l : List UInt8) (m : Nat) (h : m < 2 * l.length) (y : UInt8) (hy : (hexOf l)[m]? = some y) : (hexRow l m).set m y = hexRow l (m + 1) := by
  unfold hexRow
  have hl := hexOf_len l
  have ht : ((hexOf l).take m).length = m := by rw [List.length_take, hl, Nat.min_eq_left (by omega)]
  rw [List.set_append_right _ _ (by omega), ht, Nat.sub_self, List.take_add_one, hy]
  obtain ⟨q, hq⟩ : ∃ q, 2 * l.length - m = q + 1 := ⟨2 * l.length - m - 1, by omega⟩
  rw [hq, show 2 * l.length - (m + 1) = q by omega, List.replicate_succ]
  simp
theorem dig_lo (k : Nat) (h : k ≤ 9) : ((hexDig k).toNat : Int) = 48 + (k : Int) := by
  have key : ∀ j : Fin 10, (hexDig j.val).toNat = 48 + j.val := by decide
  have := key ⟨k, by omega⟩
  simp only at this
  omega
theorem dig_hi (k : Nat) (h : 9 < k) (h2 : k < 16) : ((hexDig k).toNat : Int) = 97 + (k : Int) - 10 := by
  have key : ∀ j : Fin 16, 9 < j.val → (hexDig j.val).toNat = 87 + j.val := by decide
  have := key ⟨k, h2⟩ h
  simp only at this
  omega
theorem and15 (n : Nat) (h : n < 256) : bits .and .u8 (n : Int) 15 = ((n % 16 : Nat) : Int) := by
  have key : ∀ j : Fin 256, bits .and .u8 (j.val : Int) 15 = ((j.val % 16 : Nat) : Int) := by decide +kernel
  exact key ⟨n, h⟩

set_option maxRecDepth 100000 in
set_option maxHeartbeats 2000000 in
theorem ref_HexText (v : Value) (l : List UInt8) (w : World) (hl : RB w v l) (h : l.length ≤ 35184372088832) :
    Calls Try.prog 136 #[v] w fun e w' => e = .returned (.string (bstr (hexOf l))) ∧ Below w.heap.size w w' := by
  obtain ⟨i0, hi, hz0, hz1, hz2⟩ := info_parts info_u8
  obtain ⟨w1, hmk, how, hgr⟩ := run_make_full w w.heap.size 38 5 i0 (.int .u8 0) 1 Try.underlying38 hi hz0 hz1 .i64 .i64 (2 * l.length) (by rw [hz2]; omega) (by simp [maxLen]; omega) (Nat.le_refl _)
  have ho1 : OS 5 1 cU8 w1 w.heap.size (.slice (some ⟨w.heap.size, 0, none⟩) (2 * l.length) (2 * l.length)) (hexRow l 0) := by
    unfold OS
    rw [hexRow_zero, List.length_replicate]
    have e : (List.replicate (2 * l.length) (0 : UInt8)).flatMap cU8 = (madeCells (Value.int .u8 0).cells (2 * l.length * 1)).toList := by
      rw [Nat.mul_one, show (Value.int .u8 0).cells = #[.int .u8 0] from rfl, toList_madeCells_one]
      generalize 2 * l.length = n
      induction n with
      | zero => rfl
      | succ n ih => rw [List.replicate_succ, List.flatMap_cons, ih, List.replicate_succ]; rfl
    rw [e]
    exact how
  have hb1 : Below w.heap.size w w1 := b_grown (v := .slice none 0 0) (Below.refl _ _) hgr (fun k hk => by simp [Value.ownBlock] at hk)
  clear how hgr
  rw [show ((2 * l.length : Nat) : Int) = 2 * (l.length : Int) by omega] at hmk
  have hR := hl
  obtain ⟨a, c, rfl, hlc, hcm, hre, hno, _⟩ := hl
  unfold maxLen at hcm
  generalize hB : w.heap.size = B at *
  have hN : 2 * l.length ≤ 70368744177664 := by omega
  generalize hv1 : Value.slice (some ⟨B, 0, none⟩) (2 * l.length) (2 * l.length) = v1 at *
  obtain ⟨g0, hg0⟩ : ∃ cap, v1 = .slice (some ⟨B, 0, none⟩) (2 * l.length) cap := ⟨_, hv1.symm⟩
  subst hv1
  clear hg0 g0
  go_enter Try.func136, Try.ntmps136
  go_wp2_with fail
  go_loopw [4, 5, 12] (fun _ _ i wr => ∃ (m : Nat), i = .int .i64 (m : Int) ∧ m ≤ 2 * l.length ∧ OS 5 1 cU8 wr B (.slice (some ⟨B, 0, none⟩) (2 * l.length) (2 * l.length)) (hexRow l m) ∧ Below B w wr) (fun _ _ i _ => 2 * l.length - (intOf i).toNat)
  case atStart => exact ⟨0, rfl, by omega, ho1, hb1⟩
  case round =>
    obtain ⟨m, rfl, hm, hown, hb⟩ := hrel
    by_cases hlt : m < 2 * l.length
    · obtain ⟨b, off, c', hv, hbl, _, _, hc⟩ := RB.block hR (by omega)
      simp only [Value.slice.injEq] at hv
      obtain ⟨rfl, -, -⟩ := hv
      have c0 := cell_stays (hB ▸ hb) hbl (hc (m / 2) (by omega))
      have hat := hexOf_at l m hlt
      rw [List.getD_eq_getElem?_getD, List.getElem?_eq_getElem (show m / 2 < l.length by omega), Option.getD_some] at hat
      have hq := l[m / 2].toNat_lt
      have hset := hexRow_set l m hlt
      have hget := hexRow_get l m hlt
      have hlen := hexRow_len l m hm
      clear hc hR ho1 hb1 hmk
      generalize l[m / 2] = x0 at *
      obtain ⟨g, cap, hv, hg, hgs, hcell, hfr, hst⟩ := OS.cell1 hown (fun _ => rfl) m 0 hget
      rw [hlen] at hv
      simp only [Value.slice.injEq, Option.some.injEq, Addr.mk.injEq, and_true, true_and] at hv
      obtain ⟨rfl, -⟩ := hv
      simp only [cU8, List.getElem?_cons_zero] at hcell
      have hcell' : wr.cell? ⟨B, m, none⟩ = some (.int .u8 0) := hcell
      clear hcell hown
      have h1 : bits .and .i64 (m : Int) 1 = ((m % 2 : Nat) : Int) := and1 m (by omega)
      have h15 := and15 x0.toNat (by omega)
      by_cases hev : m % 2 = 0
      · rw [if_pos hev] at hat
        have q1 : (((m % 2 : Nat) : Int) == 1) = false := by simp; omega
        by_cases hdig : x0.toNat / 16 ≤ 9
        · have hd := dig_lo (x0.toNat / 16) hdig
          have hs := hst (hexDig (x0.toNat / 16)) (.int .u8 (48 + (x0.toNat : Int) / 16)) (by rw [cU8, hd]; congr 2)
          rw [hset _ hat] at hs
          have hb2 := b_set (hB ▸ hb) (p := ⟨B, m, none⟩) (hB ▸ hg) (.int .u8 (48 + (x0.toNat : Int) / 16))
          clear hst hset hat hd hget hlen hb
          go_wp2_with fail
          go_roundw
          case rel => exact ⟨m + 1, by go_num, by omega, hs, hB ▸ hb2⟩
          case measure => simp [intOf]; omega
        · have hd := dig_hi (x0.toNat / 16) (by omega) (by omega)
          have hs1 := hst (UInt8.ofNat (48 + x0.toNat / 16)) (.int .u8 (48 + (x0.toNat : Int) / 16)) (by rw [cU8, UInt8.toNat_ofNat']; congr 2; omega)
          have hb1 := b_set (hB ▸ hb) (p := ⟨B, m, none⟩) (hB ▸ hg) (.int .u8 (48 + (x0.toNat : Int) / 16))
          obtain ⟨g, cap, hv, hg, hgs1, hcell1, hfr1, hst1⟩ := OS.cell1 hs1 (fun _ => rfl) m _ (List.getElem?_set_self (by omega))
          rw [List.length_set, hlen] at hv
          simp only [Value.slice.injEq, Option.some.injEq, Addr.mk.injEq, and_true, true_and] at hv
          obtain ⟨rfl, -⟩ := hv
          have hs := hst1 (hexDig (x0.toNat / 16)) (.int .u8 (97 + (x0.toNat : Int) / 16 - 10)) (by rw [cU8, hd]; congr 2)
          rw [List.set_set, hset _ hat] at hs
          have hb2 := b_set hb1 (p := ⟨B, m, none⟩) (hB ▸ hg) (.int .u8 (97 + (x0.toNat : Int) / 16 - 10))
          clear hst hst1 hset hat hd hget hlen hb hs1 hcell1 hfr1 hgs1 hb1
          go_wp2_with fail
          go_roundw
          case rel => exact ⟨m + 1, by go_num, by omega, hs, hB ▸ hb2⟩
          case measure => simp [intOf]; omega
      · rw [if_neg hev] at hat
        have q1 : (((m % 2 : Nat) : Int) == 1) = true := by simp; omega
        by_cases hdig : x0.toNat % 16 ≤ 9
        · have hd := dig_lo (x0.toNat % 16) hdig
          have hs := hst (hexDig (x0.toNat % 16)) (.int .u8 (48 + (x0.toNat : Int) % 16)) (by rw [cU8, hd]; congr 2)
          rw [hset _ hat] at hs
          have hb2 := b_set (hB ▸ hb) (p := ⟨B, m, none⟩) (hB ▸ hg) (.int .u8 (48 + (x0.toNat : Int) % 16))
          clear hst hset hat hd hget hlen hb
          go_wp2_with fail
          go_roundw
          case rel => exact ⟨m + 1, by go_num, by omega, hs, hB ▸ hb2⟩
          case measure => simp [intOf]; omega
        · have hd := dig_hi (x0.toNat % 16) (by omega) (by omega)
          have hs1 := hst (UInt8.ofNat (48 + x0.toNat % 16)) (.int .u8 (48 + (x0.toNat : Int) % 16)) (by rw [cU8, UInt8.toNat_ofNat']; congr 2; omega)
          have hb1 := b_set (hB ▸ hb) (p := ⟨B, m, none⟩) (hB ▸ hg) (.int .u8 (48 + (x0.toNat : Int) % 16))
          obtain ⟨g, cap, hv, hg, hgs1, hcell1, hfr1, hst1⟩ := OS.cell1 hs1 (fun _ => rfl) m _ (List.getElem?_set_self (by omega))
          rw [List.length_set, hlen] at hv
          simp only [Value.slice.injEq, Option.some.injEq, Addr.mk.injEq, and_true, true_and] at hv
          obtain ⟨rfl, -⟩ := hv
          have hs := hst1 (hexDig (x0.toNat % 16)) (.int .u8 (97 + (x0.toNat : Int) % 16 - 10)) (by rw [cU8, hd]; congr 2)
          rw [List.set_set, hset _ hat] at hs
          have hb2 := b_set hb1 (p := ⟨B, m, none⟩) (hB ▸ hg) (.int .u8 (97 + (x0.toNat : Int) % 16 - 10))
          clear hst hst1 hset hat hd hget hlen hb hs1 hcell1 hfr1 hgs1 hb1
          go_wp2_with fail
          go_roundw
          case rel => exact ⟨m + 1, by go_num, by omega, hs, hB ▸ hb2⟩
          case measure => simp [intOf]; omega
    · obtain rfl : m = 2 * l.length := by omega
      rw [hexRow_all] at hown
      have hrd := reads_u8 hown (by rw [hexOf_len]; omega)
      have hcv := run_string_of 38 5 Try.underlying38 Try.underlying5 9 Try.underlying9 hrd
      clear hown hrd hR
      go_wp2_with fail
      go_ret
      exact ⟨rfl, hb⟩
end Go.Proofs.Ytaojfpgbpakmpaa
