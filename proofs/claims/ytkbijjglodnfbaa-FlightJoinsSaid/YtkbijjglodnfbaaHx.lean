/-
  hex.Bytes, hex.Check and the reference's HexBytes, HexFault: what each computes; the law HexChecks. hex.Check and the reference's HexFault; the law HexChecks. hex.Text and the reference's HexText: the text of bytes. The builder that hex.Text makes is written byte by byte. The reference's HexText: the text of bytes. hex.Bytes, hex.Check and the references' HexBytes, HexFault: what each answers, in one contract a function. The law HexTexts: its walk.
-/
import Derived.Test.YtkbijjglodnfbaaWir
import Derived.Test.YtkbijjglodnfbaaShelf
import Derived.Test.YtkbijjglodnfbaaWrd
import Derived.BigQuiet
import Derived.Deep.QuietTactic
import Derived.Lib.Builder
import Derived.Laws.Externs
import Derived.Laws.OwnMore
namespace Go.Proofs.Ytkbijjglodnfbaa
open Go.RowKit

def hexDigits : List UInt8 := [48, 49, 50, 51, 52, 53, 54, 55, 56, 57, 97, 98, 99, 100, 101, 102]
def hexv (c : UInt8) : Int := Lib.indexByte hexDigits c
theorem hexv_range (c : UInt8) : -1 ≤ hexv c ∧ hexv c ≤ 15 := by
  have key : ∀ k : Fin 256, -1 ≤ hexv (UInt8.ofNat k.val) ∧ hexv (UInt8.ofNat k.val) ≤ 15 := by decide +kernel
  have h := key ⟨c.toNat, c.toNat_lt⟩
  rw [show UInt8.ofNat c.toNat = c by simp] at h
  exact h
theorem index_hexv (c : UInt8) (w : World) : Calls Try.prog 30 #[.string ⟨#[48, 49, 50, 51, 52, 53, 54, 55, 56, 57, 97, 98, 99, 100, 101, 102]⟩, .int .u8 (c.toNat : Int)] w fun e w' => e = .returned (.int .i64 (hexv c)) ∧ w' = w := by
  refine (Try.strings_IndexByte _ _ _).mono ?_
  rintro e w' ⟨rfl, rfl⟩
  refine ⟨?_, rfl⟩
  rw [Int.toNat_natCast, show c.toNat.toUInt8 = c by simp]
  rfl

/-- One byte of a text. -/
theorem str_at (t : TypeId) (ht : Try.prog.underlying t = some .string) (s : ByteArray) (i : Nat) (n : Int) (hn : n = (i : Int)) (h : i < s.size) (w : World) : (Instr.index t (.string s) (.int .i64 n)).run Try.prog w = .ok (.int .u8 (s[i].toNat : Int)) w := by
  subst hn
  rw [run_index_string w t s .i64 i ht, dif_pos (by omega)]
  simp only [Int.toNat_natCast]

def AllHex (s : ByteArray) : Prop := ∀ k (h : k < s.size), 0 ≤ hexv s[k]
def hexAt (s : ByteArray) (k : Nat) : UInt8 := if h : 2 * k + 1 < s.size then UInt8.ofNat (16 * (hexv s[2 * k]).toNat + (hexv (s[2 * k + 1]'h)).toNat) else 0
def hexDec (s : ByteArray) (k : Nat) : List UInt8 := (List.range k).map (hexAt s)
theorem hexDec_len (s : ByteArray) (k : Nat) : (hexDec s k).length = k := by simp [hexDec]
theorem hexDec_snoc (s : ByteArray) (k : Nat) : hexDec s (k + 1) = hexDec s k ++ [hexAt s k] := by simp [hexDec, List.range_succ]
theorem hexAt_val (s : ByteArray) (k m : Nat) (hm : m = 2 * k) (h : m + 1 < s.size) (h0 : 0 ≤ hexv s[m]) (h1 : 0 ≤ hexv s[m + 1])   : 16 * hexv s[m] + hexv s[m + 1] = ((hexAt s k).toNat : Int) := by
  subst hm
  unfold hexAt
  have r0 := hexv_range s[2 * k]
  have r1 := hexv_range s[2 * k + 1]
  rw [dif_pos h, UInt8.toNat_ofNat']
  omega

set_option maxRecDepth 100000 in
set_option maxHeartbeats 1000000 in
theorem hex_Bytes (s : ByteArray) (w : World) (h : s.size ≤ 4000) (h2 : s.size % 2 = 0) (ha : AllHex s) :
    Calls Try.prog 24 #[.string s] w fun e w' => ∃ v, e = .returned (.tuple #[v, .int .i64 0]) ∧ OS 5 1 cU8 w' w.heap.size v (hexDec s (s.size / 2)) ∧ Below w.heap.size w w' := by
  obtain ⟨i0, hi, hz0, hz1, hz2⟩ := info_parts info_u8
  obtain ⟨w1, hmk, how, hgr⟩ := run_make_own w w.heap.size 44 5 i0 (.int .u8 0) 1 Try.underlying44 hi hz0 hz1 .i64 .i64 (s.size / 2) (by rw [hz2]; omega) (by simp [maxLen]; omega) (Nat.le_refl _)
  have ho1 : OS 5 1 cU8 w1 w.heap.size (.slice (some ⟨w.heap.size, 0, none⟩) 0 (s.size / 2)) [] := how
  rw [Int.natCast_ediv] at hmk
  simp only [Int.cast_ofNat_Int] at hmk
  have hb1 : Below w.heap.size w w1 := b_grown (v := .slice none 0 0) (Below.refl _ _) hgr (fun k hk => by simp [Value.ownBlock] at hk)
  clear how hgr
  have q2 : ((s.size : Int) % 2 != 0) = false := by simp; omega
  have q4 : decide (4000 < (s.size : Int)) = false := by simp; omega
  generalize hB : w.heap.size = B at *
  generalize Value.slice (some ⟨B, 0, none⟩) 0 (s.size / 2) = v1 at *
  go_enter Try.func24, Try.ntmps24
  go_wp2_with fail
  go_loopw [4, 5] (fun v i wr => ∃ (m : Nat), i = .int .i64 (m : Int) ∧ m % 2 = 0 ∧ m ≤ s.size ∧ OS 5 1 cU8 wr B v (hexDec s (m / 2)) ∧ Below B w wr) (fun _ i _ => s.size - (intOf i).toNat)
  case atStart => exact ⟨0, rfl, rfl, by omega, ho1, hb1⟩
  case round =>
    obtain ⟨m, rfl, hm, hk, hown, hb⟩ := hrel
    by_cases hlt : m < s.size
    · have hlt1 : m + 1 < s.size := by omega
      have h0 := ha m hlt
      have h1 := ha (m + 1) hlt1
      have hv := hid (hexAt_val s (m / 2) m (by omega) hlt1 h0 h1)
      have hs := hb.size
      have r0 := hexv_range s[m]
      have r1 := hexv_range s[m + 1]
      replace hm := hid hm
      have hwr : IntKind.i64.wrap ((m : Int) + 1) = (m : Int) + 1 := IntWalk.i64_in _ (by omega)
      have hge : (0 : Int) ≤ (m : Int) + 1 := by omega
      have hlz : (m : Int) + 1 < (s.size : Int) := by omega
      go_wp2_with fail
      go_quiet (exact Calls.quiet_of_same (index_hexv _ _))
      clear hwr
      go_wp2_with (at_builtin; go_must (refine wpL_append flat_u8 rfl (.tmp 40) (.tmp 46) 44 rfl 5 i0 (.int .u8 0) Try.underlying44 hi hz0 hz1 hz2 rfl B _ (hexDec s (m / 2)) rfl (OS.alloc (OS.drewN hown _) _) _ [hexAt s (m / 2)] rfl (one_u8 _ _ _ _ _ (by simp) hv.out) ?c1 ?c2 ?c3 ?_))
      case c1 => rw [hexDec_len]; simp; omega
      case c2 => rw [hexDec_len]; simp [maxLen]; omega
      case c3 => simp; omega
      intro v' w2 hown1 hgr
      rw [← hexDec_snoc] at hown1
      have hb2 := b_grown (b_alloc (below_drewN (hB ▸ hb) _) _) hgr (hB ▸ OS.block hown)
      clear hgr hb hown
      go_wp2_with fail
      go_roundw
      case rel => exact ⟨m + 2, by go_num, by have := hm.out; omega, by have := hm.out; omega, by rw [show (m + 2) / 2 = m / 2 + 1 by omega]; exact hown1, hB ▸ hb2⟩
      case measure => simp [intOf]; omega
    · go_wp2_with fail
      go_ret2
      obtain rfl : m = s.size := by omega
      exact ⟨_, rfl, hown, hb⟩

set_option maxRecDepth 100000 in
set_option maxHeartbeats 1000000 in
theorem hex_Bytes_no (s : ByteArray) (w : World) (h : s.size ≤ 4000) (h2 : s.size % 2 = 0) (ha : ¬ AllHex s) :
    Calls Try.prog 24 #[.string s] w fun e w' => e = .returned (.tuple #[.slice none 0 0, .int .i64 3]) ∧ Below w.heap.size w w' := by
  obtain ⟨i0, hi, hz0, hz1, hz2⟩ := info_parts info_u8
  obtain ⟨w1, hmk, how, hgr⟩ := run_make_own w w.heap.size 44 5 i0 (.int .u8 0) 1 Try.underlying44 hi hz0 hz1 .i64 .i64 (s.size / 2) (by rw [hz2]; omega) (by simp [maxLen]; omega) (Nat.le_refl _)
  have ho1 : OS 5 1 cU8 w1 w.heap.size (.slice (some ⟨w.heap.size, 0, none⟩) 0 (s.size / 2)) [] := how
  rw [Int.natCast_ediv] at hmk
  simp only [Int.cast_ofNat_Int] at hmk
  have hb1 : Below w.heap.size w w1 := b_grown (v := .slice none 0 0) (Below.refl _ _) hgr (fun k hk => by simp [Value.ownBlock] at hk)
  clear how hgr
  have q2 : ((s.size : Int) % 2 != 0) = false := by simp; omega
  have q4 : decide (4000 < (s.size : Int)) = false := by simp; omega
  generalize hB : w.heap.size = B at *
  generalize Value.slice (some ⟨B, 0, none⟩) 0 (s.size / 2) = v1 at *
  replace ha := hid ha
  go_enter Try.func24, Try.ntmps24
  go_wp2_with fail
  go_loopw [4, 5] (fun v i wr => ∃ (m : Nat), i = .int .i64 (m : Int) ∧ m % 2 = 0 ∧ m ≤ s.size ∧ OS 5 1 cU8 wr B v (hexDec s (m / 2)) ∧ (∀ j (hj : j < s.size), j < m → 0 ≤ hexv s[j]) ∧ Below B w wr) (fun _ i _ => s.size - (intOf i).toNat)
  case atStart => exact ⟨0, rfl, rfl, by omega, ho1, (fun j _ hj => by omega), hb1⟩
  case round =>
    obtain ⟨m, rfl, hm, hk, hown, hall, hb⟩ := hrel
    replace hall := hid hall
    by_cases hlt : m < s.size
    · have hlt1 : m + 1 < s.size := by omega
      have hs := hb.size
      have r0 := hexv_range s[m]
      have r1 := hexv_range s[m + 1]
      have hwr : IntKind.i64.wrap ((m : Int) + 1) = (m : Int) + 1 := IntWalk.i64_in _ (by omega)
      have hge : (0 : Int) ≤ (m : Int) + 1 := by omega
      have hlz : (m : Int) + 1 < (s.size : Int) := by omega
      by_cases h0 : 0 ≤ hexv s[m]
      · by_cases h1 : 0 ≤ hexv s[m + 1]
        · have hv := hid (hexAt_val s (m / 2) m (by omega) hlt1 h0 h1)
          replace hm := hid hm
          go_wp2_with fail
          go_quiet (exact Calls.quiet_of_same (index_hexv _ _))
          clear hwr
          go_wp2_with (at_builtin; go_must (refine wpL_append flat_u8 rfl (.tmp 40) (.tmp 46) 44 rfl 5 i0 (.int .u8 0) Try.underlying44 hi hz0 hz1 hz2 rfl B _ (hexDec s (m / 2)) rfl (OS.alloc (OS.drewN hown _) _) _ [hexAt s (m / 2)] rfl (one_u8 _ _ _ _ _ (by simp) hv.out) ?c1 ?c2 ?c3 ?_))
          case c1 => rw [hexDec_len]; simp; omega
          case c2 => rw [hexDec_len]; simp [maxLen]; omega
          case c3 => simp; omega
          intro v' w2 hown1 hgr
          rw [← hexDec_snoc] at hown1
          have hb2 := b_grown (b_alloc (below_drewN (hB ▸ hb) _) _) hgr (hB ▸ OS.block hown)
          clear hgr hb hown
          go_wp2_with fail
          go_roundw
          case rel => exact ⟨m + 2, by go_num, by have := hm.out; omega, by have := hm.out; omega, by rw [show (m + 2) / 2 = m / 2 + 1 by omega]; exact hown1, (fun j hj hjm => by
            by_cases e0 : j = m
            · subst e0; exact h0
            · by_cases e1 : j = m + 1
              · subst e1; exact h1
              · exact hall.out j hj (by omega)), hB ▸ hb2⟩
          case measure => simp [intOf]; omega
        · have h1' : hexv s[m + 1] < 0 := by omega
          replace hm := hid hm
          go_wp2_with fail
          go_quiet (exact Calls.quiet_of_same (index_hexv _ _))
          clear hwr
          go_wp2_with fail
          go_ret2
          exact ⟨rfl, below_drewN hb _⟩
      · have h0' : hexv s[m] < 0 := by omega
        replace hm := hid hm
        go_wp2_with fail
        go_quiet (exact Calls.quiet_of_same (index_hexv _ _))
        clear hwr
        go_wp2_with fail
        go_ret2
        exact ⟨rfl, below_drewN hb _⟩
    · exact absurd (fun j hj => hall.out j hj (by omega)) ha.out

set_option maxRecDepth 100000 in
theorem hex_Bytes_size (s : ByteArray) (w : World) (h : 4000 < s.size) (hm : s.size ≤ 140737488351232) :
    Calls Try.prog 24 #[.string s] w fun e w' => e = .returned (.tuple #[.slice none 0 0, .int .i64 1]) ∧ w = w' := by
  go_enter Try.func24, Try.ntmps24
  go_wp2_with fail
  go_ret2
  exact ⟨rfl, rfl⟩

set_option maxRecDepth 100000 in
theorem hex_Bytes_odd (s : ByteArray) (w : World) (h : s.size ≤ 4000) (h2 : s.size % 2 = 1) :
    Calls Try.prog 24 #[.string s] w fun e w' => e = .returned (.tuple #[.slice none 0 0, .int .i64 3]) ∧ w = w' := by
  have q : ((s.size : Int) % 2 != 0) = true := by simp; omega
  go_enter Try.func24, Try.ntmps24
  go_wp2_with fail
  go_ret2
  exact ⟨rfl, rfl⟩

def nib (s : ByteArray) (m : Nat) : UInt8 := if h : m < s.size then UInt8.ofNat (hexv s[m]).toNat else 0
def hexPart (s : ByteArray) (m : Nat) : List UInt8 := if m % 2 = 0 then hexDec s (m / 2) else hexDec s (m / 2) ++ [nib s (m - 1)]
theorem hexPart_even (s : ByteArray) (m : Nat) (h : m % 2 = 0) : hexPart s m = hexDec s (m / 2) := by unfold hexPart; rw [if_pos h]
theorem hexPart_odd (s : ByteArray) (m : Nat) (h : m % 2 = 0) : (hexDec s (m / 2) ++ [0]).set (m / 2) (nib s m) = hexPart s (m + 1) := by
  unfold hexPart
  rw [if_neg (by omega), show (m + 1) / 2 = m / 2 by omega, Nat.add_sub_cancel, List.set_append_right _ _ (by rw [hexDec_len]; exact Nat.le_refl _), hexDec_len, Nat.sub_self]
  rfl
theorem hexPart_odd' (s : ByteArray) (m : Nat) (h : m % 2 = 0) : (hexPart s m ++ [0]).set (m / 2) (nib s m) = hexPart s (m + 1) := by
  rw [hexPart_even s m h]; exact hexPart_odd s m h
theorem hexPart_next (s : ByteArray) (m : Nat) (h : m % 2 = 1) : (hexPart s m).set (m / 2) (hexAt s (m / 2)) = hexPart s (m + 1) := by
  unfold hexPart
  rw [if_neg (by omega), if_pos (by omega), show (m + 1) / 2 = m / 2 + 1 by omega, List.set_append_right _ _ (by rw [hexDec_len]; exact Nat.le_refl _), hexDec_len, Nat.sub_self, hexDec_snoc]
  rfl
theorem hexPart_len (s : ByteArray) (m : Nat) : (hexPart s m).length = (m + 1) / 2 := by
  unfold hexPart
  split
  · rw [hexDec_len]; omega
  · rw [List.length_append, hexDec_len]; simp; omega
theorem nib_val (s : ByteArray) (m : Nat) (h : m < s.size) (h0 : 0 ≤ hexv s[m]) : hexv s[m] = ((nib s m).toNat : Int) := by
  have r0 := hexv_range s[m]
  unfold nib
  rw [dif_pos h, UInt8.toNat_ofNat']
  omega
theorem nib_next (s : ByteArray) (m : Nat) (hm : m % 2 = 1) (h : m < s.size) (h0 : 0 ≤ hexv s[m - 1]) (h1 : 0 ≤ hexv s[m]) : (((nib s (m - 1)).toNat : Int) * 16 + hexv s[m]) = ((hexAt s (m / 2)).toNat : Int) := by
  have e := hexAt_val s (m / 2) (m - 1) (by omega) (by omega) h0 (by simp only [show m - 1 + 1 = m by omega]; exact h1)
  rw [← nib_val s (m - 1) (by omega) h0, ← e]
  simp only [show m - 1 + 1 = m by omega]
  omega
theorem list_at (s : ByteArray) (m : Nat) (h : m < s.size) : s.data.toList[m]? = some s[m] := by
  rw [Array.getElem?_toList, Array.getElem?_eq_getElem (by exact h)]
  rfl
theorem and1 (n : Nat) (h : n < 9223372036854775808) : bits .and .i64 (n : Int) 1 = ((n % 2 : Nat) : Int) := by
  have := bits_mask .i64 63 (by decide) (fun m a b => by rw [IntKind.wrap_i64]; omega) 1 (by decide) (n : Int) (by omega) (by omega)
  rw [show (2 : Int) ^ 1 - 1 = 1 from rfl] at this
  rw [this]
  omega

def HexPost (s : ByteArray) (w : World) (e : Ending) (w' : World) : Prop :=
  (AllHex s ∧ ∃ v, e = .returned (.tuple #[v, .int .i64 0]) ∧ OS 5 1 cU8 w' w.heap.size v (hexDec s (s.size / 2)) ∧ Below w.heap.size w w') ∨
  (¬ AllHex s ∧ e = .returned (.tuple #[.slice none 0 0, .int .i64 3]) ∧ Below w.heap.size w w')
theorem hexPost_no {s : ByteArray} {w w' : World} (m : Nat) (h : m < s.size) (h0 : hexv s[m] < 0) (hb : Below w.heap.size w w') : HexPost s w (.returned (.tuple #[.slice none 0 0, .int .i64 3])) w' :=
  .inr ⟨fun ha => by have := ha m h; omega, rfl, hb⟩
theorem hexPost_yes {s : ByteArray} {w w' : World} {v : Value} (h2 : s.size % 2 = 0) (ha : ∀ j (hj : j < s.size), j < s.size → 0 ≤ hexv s[j]) (ho : OS 5 1 cU8 w' w.heap.size v (hexPart s s.size)) (hb : Below w.heap.size w w') : HexPost s w (.returned (.tuple #[v, .int .i64 0])) w' :=
  .inl ⟨fun j hj => ha j hj hj, v, rfl, by rw [← hexPart_even s _ h2]; exact ho, hb⟩

set_option maxRecDepth 100000 in
set_option maxHeartbeats 1000000 in
theorem ref_HexBytes (s : ByteArray) (w : World) (h : s.size ≤ 4000) (h2 : s.size % 2 = 0) :
    Calls Try.prog 28 #[.string s] w (HexPost s w) := by
  obtain ⟨i0, hi, hz0, hz1, hz2⟩ := info_parts info_u8
  have e1 : s.data.toList.length = s.size := by rw [Array.length_toList]; rfl
  have hcv := Lib.run_convert_string_bytes (P := Try.prog) w 9 44 5 s Try.underlying9 Try.underlying44 Try.underlying5
  have hrd := conv_reads w 5 s (by omega)
  have hbl := conv_below w 5 s
  have hs1' : w.heap.size < (Lib.bytesWorld w 5 s).heap.size := by rw [Lib.bytesWorld_size]; omega
  generalize Lib.bytesWorld w 5 s = w1 at hcv hrd hbl hs1'
  generalize grownCap w s.size 0 5 = c1 at hcv hrd
  have q2 : (bits .and .i64 (s.size : Int) 1 == 1) = false := by rw [and1 _ (by omega)]; simp; omega
  have q4 : decide (4000 < (s.size : Int)) = false := by simp; omega
  have hs1 := hbl.size
  go_enter Try.func28, Try.ntmps28
  go_wp2_with fail
  have hat : ∀ k (hk : k < s.size), EU8 w1 w.heap.size k s[k] := fun k hk => by
    obtain ⟨a, c, hv, _, _, _, _, hh⟩ := hrd
    obtain ⟨b, off, hb, hlt, he⟩ := hh k _ (list_at s k hk)
    simp only [Value.slice.injEq] at hv
    rw [← hv.1] at hb
    simp only [Option.some.injEq, Addr.mk.injEq] at hb
    obtain ⟨rfl, rfl, _⟩ := hb
    rw [Nat.mul_one, Nat.zero_add] at he
    exact he
  have hlt1 : w.heap.size < w1.heap.size := hs1'
  clear hrd
  go_loopw [4, 18] (fun v i wr => ∃ (m : Nat), i = .int .i64 (m : Int) ∧ m ≤ s.size ∧ OS 5 1 cU8 wr w1.heap.size v (hexPart s m) ∧ (∀ j (hj : j < s.size), j < m → 0 ≤ hexv s[j]) ∧ Below w1.heap.size w1 wr) (fun _ i _ => s.size - (intOf i).toNat)
  case atStart => exact ⟨0, rfl, by omega, OS.nil, (fun j _ hj => by omega), Below.refl _ _⟩
  case round =>
    obtain ⟨m, rfl, hk, hown, hall, hb⟩ := hrel
    replace hall := hid hall
    by_cases hlt : m < s.size
    · have hcell := EU8.stable _ _ _ _ _ hb hlt1 (hat m hlt)
      unfold EU8 at hcell
      have r0 := hexv_range s[m]
      have hs := hb.size
      by_cases h0 : 0 ≤ hexv s[m]
      · by_cases hev : m % 2 = 0
        · have qb : bits .and .i64 (m : Int) 1 = 0 := by rw [and1 _ (by omega)]; omega
          have hlen := hexPart_len s m
          go_wp2_with (first | (go_at_call 30; refine (index_hexv _ _).mono ?_; rintro e wq ⟨rfl, rfl⟩) | (at_builtin; go_must (refine wpL_append flat_u8 rfl (.tmp 30) (.tmp 31) 44 rfl 5 i0 (.int .u8 0) Try.underlying44 hi hz0 hz1 hz2 rfl w1.heap.size _ (hexPart s m) rfl (OS.alloc hown _) _ [0] rfl (one_u8 _ _ _ _ _ (by simp) rfl) ?c1 ?c2 ?c3 ?_)))
          case c1 => simp; omega
          case c2 => simp [maxLen]; omega
          case c3 => simp; omega
          intro v' w2 hown1 hgr
          have hb2 := b_grown (b_alloc hb _) hgr (OS.block hown)
          clear hgr hb hown hcell qb
          obtain ⟨g, cap, rfl, hg, hgs, hcell, hfr, hset⟩ := OS.cell1 hown1 (fun _ => rfl) (m / 2) 0 (by rw [List.getElem?_append_right (by omega), hlen, show m / 2 - (m + 1) / 2 = 0 by omega]; rfl)
          have hset1 := hset (nib s m) (.int .u8 (hexv s[m])) (by rw [nib_val s m hlt h0]; rfl)
          rw [hexPart_odd' s m hev] at hset1
          simp only [cU8, List.getElem?_cons_zero] at hcell
          have hb3 := b_set hb2 (p := ⟨g, m / 2, none⟩) hg (.int .u8 (hexv s[m]))
          clear hset hown1 hb2
          have hcell' : w2.cell? ⟨g, m / 2, none⟩ = some (.int .u8 0) := hcell
          go_wp2_with fail
          go_roundw
          case rel => exact ⟨m + 1, by go_num, by omega, hset1, (fun j hj hjm => by
            by_cases e0 : j = m
            · subst e0; exact h0
            · exact hall.out j hj (by omega)), hb3⟩
          case measure => simp [intOf]; omega
        · have qb : bits .and .i64 (m : Int) 1 = 1 := by rw [and1 _ (by omega)]; omega
          obtain ⟨g, cap, rfl, hg, hgs, hcello, hfr, hset⟩ := OS.cell1 hown (fun _ => rfl) (m / 2) (nib s (m - 1)) (by unfold hexPart; rw [if_neg hev, List.getElem?_append_right (by rw [hexDec_len]; exact Nat.le_refl _), hexDec_len, Nat.sub_self]; rfl)
          have hnn := hid (nib_next s m (by omega) hlt (hall.out (m - 1) (by omega) (by omega)) h0)
          have hset1 := hset (hexAt s (m / 2)) (.int .u8 (((nib s (m - 1)).toNat : Int) * 16 + hexv s[m])) (by rw [hnn.out]; rfl)
          rw [hexPart_next s m (by omega)] at hset1
          simp only [cU8, List.getElem?_cons_zero] at hcello
          have hb3 := b_set hb (p := ⟨g, m / 2, none⟩) hg (.int .u8 (((nib s (m - 1)).toNat : Int) * 16 + hexv s[m]))
          have hix : m / 2 < (hexPart s m).length := by rw [hexPart_len]; omega
          have hn15 : (nib s (m - 1)).toNat ≤ 15 := by
            have := nib_val s (m - 1) (by omega) (hall.out (m - 1) (by omega) (by omega))
            have := hexv_range s[m - 1]
            omega
          clear hset
          go_wp2_with (go_at_call 30; refine (index_hexv _ _).mono ?_; rintro e wq ⟨rfl, rfl⟩)
          go_roundw
          case rel => exact ⟨m + 1, by go_num, by omega, hset1, (fun j hj hjm => by
            by_cases e0 : j = m
            · subst e0; exact h0
            · exact hall.out j hj (by omega)), hb3⟩
          case measure => simp [intOf]; omega
      · have h0' : hexv s[m] < 0 := by omega
        go_wp2_with (go_at_call 30; refine (index_hexv _ _).mono ?_; rintro e wq ⟨rfl, rfl⟩)
        go_ret2
        exact hexPost_no m hlt h0' (b_call hbl hb)
    · go_wp2_with fail
      go_ret2
      obtain rfl : m = s.size := by omega
      exact hexPost_yes h2 hall.out (OS.mono hown hs1) (b_call hbl hb)
end Go.Proofs.Ytkbijjglodnfbaa

namespace Go.Proofs.Ytkbijjglodnfbaa
open Go.RowKit

set_option maxRecDepth 100000 in
theorem hex_Check (s : ByteArray) (w : World) (h : s.size = 64) (ha : AllHex s) :
    Calls Try.prog 8 #[.string s] w fun e w' => e = .returned (.int .i64 0) ∧ Below w.heap.size w w' := by
  replace ha := hid ha
  go_enter Try.func8, Try.ntmps8
  go_wp2_with fail
  refine (hex_Bytes s _ (by omega) (by omega) ha.out).mono ?_
  rintro e w1 ⟨v, rfl, _, hb⟩
  go_wp2_with fail
  go_ret
  exact ⟨rfl, hb⟩

set_option maxRecDepth 100000 in
theorem hex_Check_no (s : ByteArray) (w : World) (h : s.size = 64) (ha : ¬ AllHex s) :
    Calls Try.prog 8 #[.string s] w fun e w' => e = .returned (.int .i64 3) ∧ Below w.heap.size w w' := by
  replace ha := hid ha
  go_enter Try.func8, Try.ntmps8
  go_wp2_with fail
  refine (hex_Bytes_no s _ (by omega) (by omega) ha.out).mono ?_
  rintro e w1 ⟨rfl, hb⟩
  go_wp2_with fail
  go_ret
  exact ⟨rfl, hb⟩

set_option maxRecDepth 100000 in
theorem hex_Check_size (s : ByteArray) (w : World) (h : s.size ≠ 64) (_hm : s.size ≤ 140737488351232) :
    Calls Try.prog 8 #[.string s] w fun e w' => e = .returned (.int .i64 1) ∧ w = w' := by
  have q : ((s.size : Int) != 64) = true := by simp; omega
  go_enter Try.func8, Try.ntmps8
  go_wp2_with fail
  go_ret
  exact ⟨rfl, rfl⟩

set_option maxRecDepth 100000 in
theorem ref_HexFault (s : ByteArray) (w : World) (h : s.size = 64) (ha : AllHex s) :
    Calls Try.prog 17 #[.string s] w fun e w' => e = .returned (.int .i64 0) ∧ Below w.heap.size w w' := by
  replace ha := hid ha
  go_enter Try.func17, Try.ntmps17
  go_wp2_with fail
  refine (ref_HexBytes s _ (by omega) (by omega)).mono ?_
  rintro e w1 (⟨_, v, rfl, _, hb⟩ | ⟨hn, _, _⟩)
  · go_wp2_with fail
    go_ret
    exact ⟨rfl, hb⟩
  · exact absurd ha.out hn

set_option maxRecDepth 100000 in
theorem ref_HexFault_no (s : ByteArray) (w : World) (h : s.size = 64) (ha : ¬ AllHex s) :
    Calls Try.prog 17 #[.string s] w fun e w' => e = .returned (.int .i64 3) ∧ Below w.heap.size w w' := by
  replace ha := hid ha
  go_enter Try.func17, Try.ntmps17
  go_wp2_with fail
  refine (ref_HexBytes s _ (by omega) (by omega)).mono ?_
  rintro e w1 (⟨hy, _⟩ | ⟨_, rfl, hb⟩)
  · exact absurd hy ha.out
  · go_wp2_with fail
    go_ret
    exact ⟨rfl, hb⟩

set_option maxRecDepth 100000 in
theorem ref_HexFault_size (s : ByteArray) (w : World) (h : s.size ≠ 64) (_hm : s.size ≤ 140737488351232) :
    Calls Try.prog 17 #[.string s] w fun e w' => e = .returned (.int .i64 1) ∧ w = w' := by
  have q : ((s.size : Int) != 64) = true := by simp; omega
  go_enter Try.func17, Try.ntmps17
  go_wp2_with fail
  go_ret
  exact ⟨rfl, rfl⟩

end Go.Proofs.Ytkbijjglodnfbaa

namespace Go.Proofs.Ytkbijjglodnfbaa
open Go.RowKit

theorem byteCells_len (l : List UInt8) : (Lib.byteCells l).length = l.length := by simp [Lib.byteCells]
theorem byteCells_snoc (l : List UInt8) (c : UInt8) : Lib.byteCells (l ++ [c]) = Lib.byteCells l ++ [.int .u8 (c.toNat : Int)] := by simp [Lib.byteCells]

/-- A hexadecimal digit. -/
def hexDig (n : Nat) : UInt8 := hexDigits.getD n 0
def hexTwo (c : UInt8) : List UInt8 := [hexDig (c.toNat / 16), hexDig (c.toNat % 16)]
/-- The text of bytes. -/
def hexOf (l : List UInt8) : List UInt8 := l.flatMap hexTwo
theorem hexOf_len (l : List UInt8) : (hexOf l).length = 2 * l.length := by
  unfold hexOf
  induction l with
  | nil => rfl
  | cons c l ih => rw [List.flatMap_cons, List.length_append, ih]; simp [hexTwo]; omega
theorem hexOf_snoc (l : List UInt8) (k : Nat) (h : k < l.length) : hexOf (l.take (k + 1)) = hexOf (l.take k) ++ [hexDig (l[k].toNat / 16)] ++ [hexDig (l[k].toNat % 16)] := by
  unfold hexOf
  rw [List.take_succ_eq_append_getElem h, List.flatMap_append]
  simp [hexTwo]
theorem dig_at (n : Int) (k : Nat) (hn : n = (k : Int)) (hk : k < 16) (w : World) : (Instr.index 9 (.string ⟨#[48, 49, 50, 51, 52, 53, 54, 55, 56, 57, 97, 98, 99, 100, 101, 102]⟩) (.int .u8 n)).run Try.prog w = .ok (.int .u8 ((hexDig k).toNat : Int)) w := by
  subst hn
  rw [run_index_string w 9 _ .u8 k Try.underlying9, dif_pos (by have : (ByteArray.mk #[48, 49, 50, 51, 52, 53, 54, 55, 56, 57, 97, 98, 99, 100, 101, 102]).size = 16 := rfl; omega)]
  have key : ∀ j : Fin 16, ((ByteArray.mk #[48, 49, 50, 51, 52, 53, 54, 55, 56, 57, 97, 98, 99, 100, 101, 102])[j.val]'j.isLt) = hexDig j.val := by decide
  have := key ⟨k, hk⟩
  simp only [Int.toNat_natCast]
  rw [← this]

end Go.Proofs.Ytkbijjglodnfbaa

namespace Go.Proofs.Ytkbijjglodnfbaa
open Go.RowKit

/-- What stands in the reference's row after m rounds. -/
def hexRow (l : List UInt8) (m : Nat) : List UInt8 := (hexOf l).take m ++ List.replicate (2 * l.length - m) 0
theorem hexRow_len (l : List UInt8) (m : Nat) (h : m ≤ 2 * l.length) : (hexRow l m).length = 2 * l.length := by
  unfold hexRow
  rw [List.length_append, List.length_take, hexOf_len, List.length_replicate]; omega
theorem hexRow_all (l : List UInt8) : hexRow l (2 * l.length) = hexOf l := by
  unfold hexRow
  rw [List.take_of_length_le (by rw [hexOf_len]; exact Nat.le_refl _), Nat.sub_self]; simp
theorem hexRow_zero (l : List UInt8) : hexRow l 0 = List.replicate (2 * l.length) 0 := by
  unfold hexRow; simp
theorem hexOf_at (l : List UInt8) (m : Nat) (h : m < 2 * l.length) : (hexOf l)[m]? = some (if m % 2 = 0 then hexDig ((l.getD (m / 2) 0).toNat / 16) else hexDig ((l.getD (m / 2) 0).toNat % 16)) := by
  unfold hexOf
  have key : ∀ (l : List UInt8) (m : Nat), m < 2 * l.length → (l.flatMap hexTwo)[m]? = some (if m % 2 = 0 then hexDig ((l.getD (m / 2) 0).toNat / 16) else hexDig ((l.getD (m / 2) 0).toNat % 16)) := by
    intro l
    induction l with
    | nil => intro m h; simp at h
    | cons c l ih =>
      intro m h
      rw [List.flatMap_cons]
      match m with
      | 0 => simp [hexTwo]
      | 1 => simp [hexTwo]
      | m + 2 =>
        rw [List.getElem?_append_right (by simp [hexTwo])]
        have := ih m (by simp at h; omega)
        rw [show m + 2 - (hexTwo c).length = m by simp [hexTwo], this, show (m + 2) % 2 = m % 2 by omega, show (m + 2) / 2 = m / 2 + 1 by omega]
        simp
  exact key l m h
theorem hexRow_get (l : List UInt8) (m : Nat) (h : m < 2 * l.length) : (hexRow l m)[m]? = some 0 := by
  unfold hexRow
  rw [List.getElem?_append_right (by rw [List.length_take]; omega), List.length_take, hexOf_len, Nat.min_eq_left (by omega), Nat.sub_self, List.getElem?_replicate, if_pos (by omega)]
theorem hexRow_set (l : List UInt8) (m : Nat) (h : m < 2 * l.length) (y : UInt8) (hy : (hexOf l)[m]? = some y) : (hexRow l m).set m y = hexRow l (m + 1) := by
  unfold hexRow
  have hl := hexOf_len l
  have ht : ((hexOf l).take m).length = m := by rw [List.length_take, hl, Nat.min_eq_left (by omega)]
  rw [List.set_append_right _ _ (by omega), ht, Nat.sub_self, List.take_add_one, hy]
  obtain ⟨q, hq⟩ : ∃ q, 2 * l.length - m = q + 1 := ⟨2 * l.length - m - 1, by omega⟩
  rw [hq, show 2 * l.length - (m + 1) = q by omega, List.replicate_succ]
  simp
theorem dig_lo (k : Nat) (h : k ≤ 9) : ((hexDig k).toNat : Int) = 48 + (k : Int) := by
  have key : ∀ j : Fin 10, (hexDig j.val).toNat = 48 + j.val := by decide
  have := key ⟨k, by omega⟩
  simp only at this
  omega
theorem dig_hi (k : Nat) (h : 9 < k) (h2 : k < 16) : ((hexDig k).toNat : Int) = 97 + (k : Int) - 10 := by
  have key : ∀ j : Fin 16, 9 < j.val → (hexDig j.val).toNat = 87 + j.val := by decide
  have := key ⟨k, h2⟩ h
  simp only at this
  omega
theorem and15 (n : Nat) (h : n < 256) : bits .and .u8 (n : Int) 15 = ((n % 16 : Nat) : Int) := by
  have key : ∀ j : Fin 256, bits .and .u8 (j.val : Int) 15 = ((j.val % 16 : Nat) : Int) := by decide +kernel
  exact key ⟨n, h⟩

end Go.Proofs.Ytkbijjglodnfbaa

namespace Go.Proofs.Ytkbijjglodnfbaa
open Go.RowKit

instance (s : ByteArray) : Decidable (AllHex s) := Nat.decidableBallLT s.size (fun k h => 0 ≤ hexv s[k])

/-- What is wrong with a text that is to be hexadecimal digits. -/
def hexErr (s : ByteArray) : Int := if 4000 < s.size then 1 else if s.size % 2 = 0 ∧ AllHex s then 0 else 3
/-- The bytes of such a text. -/
def hexRes (s : ByteArray) : List UInt8 := if hexErr s = 0 then hexDec s (s.size / 2) else []
/-- What is wrong with a digest. -/
def hexFault (s : ByteArray) : Int := if s.size = 64 then (if AllHex s then 0 else 3) else 1

theorem hexErr_zero {s : ByteArray} (h : hexErr s = 0) : s.size ≤ 4000 ∧ s.size % 2 = 0 ∧ AllHex s := by
  unfold hexErr at h
  split at h
  · cases h
  · split at h
    · rename_i h1 h2; exact ⟨by omega, h2⟩
    · cases h
theorem hexRes_len (s : ByteArray) : (hexRes s).length ≤ 2000 := by
  by_cases h : hexErr s = 0
  · unfold hexRes
    rw [if_pos h, hexDec_len]
    have := (hexErr_zero h).1
    omega
  · unfold hexRes
    rw [if_neg h]; simp
theorem hexFault_zero {s : ByteArray} (h : hexFault s = 0) : s.size = 64 ∧ AllHex s := by
  unfold hexFault at h
  split at h
  · split at h
    · exact ⟨by assumption, by assumption⟩
    · cases h
  · cases h

theorem hexRes_ok {s : ByteArray} (h : hexFault s = 0) : hexErr s = 0 ∧ hexRes s = hexDec s 32 ∧ (hexRes s).length = 32 := by
  obtain ⟨h1, h2⟩ := hexFault_zero h
  have e : hexErr s = 0 := by unfold hexErr; rw [if_neg (by omega), if_pos ⟨by omega, h2⟩]
  refine ⟨e, ?_, ?_⟩
  · unfold hexRes; rw [if_pos e, h1]
  · unfold hexRes; rw [if_pos e, hexDec_len, h1]

theorem hex_Bytes_any (s : ByteArray) (w : World) (hs : s.size ≤ 140737488351232) :
    Calls Try.prog 24 #[.string s] w fun e w' => ∃ v, e = .returned (.tuple #[v, .int .i64 (hexErr s)]) ∧ RB w' v (hexRes s) ∧ Below w.heap.size w w' := by
  by_cases h : 4000 < s.size
  · have e1 : hexErr s = 1 := by unfold hexErr; rw [if_pos h]
    refine (hex_Bytes_size s w h hs).mono ?_
    rintro e w' ⟨rfl, rfl⟩
    refine ⟨_, by rw [e1], ?_, Below.refl _ _⟩
    unfold hexRes; rw [if_neg (by rw [e1]; decide)]; exact RS.nil
  · by_cases h2 : s.size % 2 = 0
    · by_cases ha : AllHex s
      · have e1 : hexErr s = 0 := by unfold hexErr; rw [if_neg h, if_pos ⟨h2, ha⟩]
        refine (hex_Bytes s w (by omega) h2 ha).mono ?_
        rintro e w' ⟨v, rfl, ho, hb⟩
        refine ⟨v, by rw [e1], ?_, hb⟩
        unfold hexRes; rw [if_pos e1]; exact reads_u8 ho (by rw [hexDec_len]; omega)
      · have e1 : hexErr s = 3 := by unfold hexErr; rw [if_neg h, if_neg (fun g => ha g.2)]
        refine (hex_Bytes_no s w (by omega) h2 ha).mono ?_
        rintro e w' ⟨rfl, hb⟩
        refine ⟨_, by rw [e1], ?_, hb⟩
        unfold hexRes; rw [if_neg (by rw [e1]; decide)]; exact RS.nil
    · have e1 : hexErr s = 3 := by unfold hexErr; rw [if_neg h, if_neg (fun g => h2 g.1)]
      refine (hex_Bytes_odd s w (by omega) (by omega)).mono ?_
      rintro e w' ⟨rfl, rfl⟩
      refine ⟨_, by rw [e1], ?_, Below.refl _ _⟩
      unfold hexRes; rw [if_neg (by rw [e1]; decide)]; exact RS.nil

set_option maxRecDepth 100000 in
theorem ref_HexBytes_size (s : ByteArray) (w : World) (h : 4000 < s.size) (hm : s.size ≤ 140737488351232) :
    Calls Try.prog 28 #[.string s] w fun e w' => e = .returned (.tuple #[.slice none 0 0, .int .i64 1]) ∧ w = w' := by
  go_enter Try.func28, Try.ntmps28
  go_wp2_with fail
  go_ret2
  exact ⟨rfl, rfl⟩
set_option maxRecDepth 100000 in
theorem ref_HexBytes_odd (s : ByteArray) (w : World) (h : s.size ≤ 4000) (h2 : s.size % 2 = 1) :
    Calls Try.prog 28 #[.string s] w fun e w' => e = .returned (.tuple #[.slice none 0 0, .int .i64 3]) ∧ w = w' := by
  have q : (bits .and .i64 (s.size : Int) 1 == 1) = true := by rw [and1 _ (by omega), h2]; rfl
  go_enter Try.func28, Try.ntmps28
  go_wp2_with fail
  go_ret2
  exact ⟨rfl, rfl⟩

theorem ref_HexBytes_any (s : ByteArray) (w : World) (hs : s.size ≤ 140737488351232) :
    Calls Try.prog 28 #[.string s] w fun e w' => ∃ v, e = .returned (.tuple #[v, .int .i64 (hexErr s)]) ∧ RB w' v (hexRes s) ∧ Below w.heap.size w w' := by
  by_cases h : 4000 < s.size
  · have e1 : hexErr s = 1 := by unfold hexErr; rw [if_pos h]
    refine (ref_HexBytes_size s w h hs).mono ?_
    rintro e w' ⟨rfl, rfl⟩
    refine ⟨_, by rw [e1], ?_, Below.refl _ _⟩
    unfold hexRes; rw [if_neg (by rw [e1]; decide)]; exact RS.nil
  · by_cases h2 : s.size % 2 = 0
    · refine (ref_HexBytes s w (by omega) h2).mono ?_
      rintro e w' (⟨ha, v, rfl, ho, hb⟩ | ⟨ha, rfl, hb⟩)
      · have e1 : hexErr s = 0 := by unfold hexErr; rw [if_neg h, if_pos ⟨h2, ha⟩]
        refine ⟨v, by rw [e1], ?_, hb⟩
        unfold hexRes; rw [if_pos e1]; exact reads_u8 ho (by rw [hexDec_len]; omega)
      · have e1 : hexErr s = 3 := by unfold hexErr; rw [if_neg h, if_neg (fun g => ha g.2)]
        refine ⟨_, by rw [e1], ?_, hb⟩
        unfold hexRes; rw [if_neg (by rw [e1]; decide)]; exact RS.nil
    · have e1 : hexErr s = 3 := by unfold hexErr; rw [if_neg h, if_neg (fun g => h2 g.1)]
      refine (ref_HexBytes_odd s w (by omega) (by omega)).mono ?_
      rintro e w' ⟨rfl, rfl⟩
      refine ⟨_, by rw [e1], ?_, Below.refl _ _⟩
      unfold hexRes; rw [if_neg (by rw [e1]; decide)]; exact RS.nil

theorem hex_Check_any (s : ByteArray) (w : World) (hs : s.size ≤ 140737488351232) :
    Calls Try.prog 8 #[.string s] w fun e w' => e = .returned (.int .i64 (hexFault s)) ∧ Below w.heap.size w w' := by
  by_cases h : s.size = 64
  · by_cases ha : AllHex s
    · have e1 : hexFault s = 0 := by unfold hexFault; rw [if_pos h, if_pos ha]
      rw [e1]; exact hex_Check s w h ha
    · have e1 : hexFault s = 3 := by unfold hexFault; rw [if_pos h, if_neg ha]
      rw [e1]; exact hex_Check_no s w h ha
  · have e1 : hexFault s = 1 := by unfold hexFault; rw [if_neg h]
    rw [e1]
    refine (hex_Check_size s w h hs).mono ?_
    rintro e w' ⟨rfl, rfl⟩
    exact ⟨rfl, Below.refl _ _⟩
theorem ref_HexFault_any (s : ByteArray) (w : World) (hs : s.size ≤ 140737488351232) :
    Calls Try.prog 17 #[.string s] w fun e w' => e = .returned (.int .i64 (hexFault s)) ∧ Below w.heap.size w w' := by
  by_cases h : s.size = 64
  · by_cases ha : AllHex s
    · have e1 : hexFault s = 0 := by unfold hexFault; rw [if_pos h, if_pos ha]
      rw [e1]; exact ref_HexFault s w h ha
    · have e1 : hexFault s = 3 := by unfold hexFault; rw [if_pos h, if_neg ha]
      rw [e1]; exact ref_HexFault_no s w h ha
  · have e1 : hexFault s = 1 := by unfold hexFault; rw [if_neg h]
    rw [e1]
    refine (ref_HexFault_size s w h hs).mono ?_
    rintro e w' ⟨rfl, rfl⟩
    exact ⟨rfl, Below.refl _ _⟩
end Go.Proofs.Ytkbijjglodnfbaa

namespace Go.Proofs.Ytkbijjglodnfbaa
open Go.RowKit

end Go.Proofs.Ytkbijjglodnfbaa
