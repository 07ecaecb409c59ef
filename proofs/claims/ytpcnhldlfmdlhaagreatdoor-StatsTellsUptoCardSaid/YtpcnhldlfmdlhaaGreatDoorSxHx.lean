/-
  hex.Bytes, hex.Check and the reference's HexBytes, HexFault: what each computes; the law HexChecks. hex.Check and the reference's HexFault; the law HexChecks. hex.Text and the reference's HexText: the text of bytes. The builder that hex.Text makes is written byte by byte. The reference's HexText: the text of bytes. hex.Bytes, hex.Check and the references' HexBytes, HexFault: what each answers, in one contract a function. The law HexTexts: its walk.
-/
import Derived.Test.YtpcnhldlfmdlhaaGreatDoorSxWir
import Derived.Test.YtpcnhldlfmdlhaaGreatDoorSxShelf
import Derived.Test.YtpcnhldlfmdlhaaGreatDoorSxWrd
import Derived.BigQuiet
import Derived.Deep.QuietTactic
import Derived.Lib.Builder
import Derived.Laws.Externs
import Derived.Laws.OwnMore
namespace Go.Proofs.YtpcnhldlfmdlhaaGreatDoor
open Go.RowKit

def hexDigits : List UInt8 := [48, 49, 50, 51, 52, 53, 54, 55, 56, 57, 97, 98, 99, 100, 101, 102]
def hexv (c : UInt8) : Int := Lib.indexByte hexDigits c
theorem hexv_range (c : UInt8) : -1 ≤ hexv c ∧ hexv c ≤ 15 := by
  have key : ∀ k : Fin 256, -1 ≤ hexv (UInt8.ofNat k.val) ∧ hexv (UInt8.ofNat k.val) ≤ 15 := by decide +kernel
  have h := key ⟨c.toNat, c.toNat_lt⟩
  rw [show UInt8.ofNat c.toNat = c by simp] at h
  exact h
theorem index_hexv (c : UInt8) (w : World) : Calls Tryz.prog 93 #[.string ⟨#[48, 49, 50, 51, 52, 53, 54, 55, 56, 57, 97, 98, 99, 100, 101, 102]⟩, .int .u8 (c.toNat : Int)] w fun e w' => e = .returned (.int .i64 (hexv c)) ∧ w' = w := by
  refine (Tryz.strings_IndexByte _ _ _).mono ?_
  rintro e w' ⟨rfl, rfl⟩
  refine ⟨?_, rfl⟩
  rw [Int.toNat_natCast, show c.toNat.toUInt8 = c by simp]
  rfl

def AllHex (s : ByteArray) : Prop := ∀ k (h : k < s.size), 0 ≤ hexv s[k]
def hexAt (s : ByteArray) (k : Nat) : UInt8 := if h : 2 * k + 1 < s.size then UInt8.ofNat (16 * (hexv s[2 * k]).toNat + (hexv (s[2 * k + 1]'h)).toNat) else 0
def hexDec (s : ByteArray) (k : Nat) : List UInt8 := (List.range k).map (hexAt s)
theorem hexDec_len (s : ByteArray) (k : Nat) : (hexDec s k).length = k := by simp [hexDec]
theorem hexDec_snoc (s : ByteArray) (k : Nat) : hexDec s (k + 1) = hexDec s k ++ [hexAt s k] := by simp [hexDec, List.range_succ]
theorem hexAt_val (s : ByteArray) (k m : Nat) (hm : m = 2 * k) (h : m + 1 < s.size) (h0 : 0 ≤ hexv s[m]) (h1 : 0 ≤ hexv s[m + 1])   : 16 * hexv s[m] + hexv s[m + 1] = ((hexAt s k).toNat : Int) := by
  subst hm
  unfold hexAt
  have r0 := hexv_range s[2 * k]
  have r1 := hexv_range s[2 * k + 1]
  rw [dif_pos h, UInt8.toNat_ofNat']
  omega

set_option maxRecDepth 100000 in
set_option maxHeartbeats 1000000 in
theorem hex_Bytes (s : ByteArray) (w : World) (h : s.size ≤ 4000) (h2 : s.size % 2 = 0) (ha : AllHex s) :
    Calls Tryz.prog 64 #[.string s] w fun e w' => ∃ v, e = .returned (.tuple #[v, .int .i64 0]) ∧ OS 5 1 cU8 w' w.heap.size v (hexDec s (s.size / 2)) ∧ Below w.heap.size w w' := by
  obtain ⟨i0, hi, hz0, hz1, hz2⟩ := info_parts info_u8
  obtain ⟨w1, hmk, how, hgr⟩ := run_make_own w w.heap.size 52 5 i0 (.int .u8 0) 1 Tryz.underlying52 hi hz0 hz1 .i64 .i64 (s.size / 2) (by rw [hz2]; omega) (by simp [maxLen]; omega) (Nat.le_refl _)
  have ho1 : OS 5 1 cU8 w1 w.heap.size (.slice (some ⟨w.heap.size, 0, none⟩) 0 (s.size / 2)) [] := how
  rw [Int.natCast_ediv] at hmk
  simp only [Int.cast_ofNat_Int] at hmk
  have hb1 : Below w.heap.size w w1 := b_grown (v := .slice none 0 0) (Below.refl _ _) hgr (fun k hk => by simp [Value.ownBlock] at hk)
  clear how hgr
  have q2 : ((s.size : Int) % 2 != 0) = false := by simp; omega
  have q4 : decide (4000 < (s.size : Int)) = false := by simp; omega
  generalize hB : w.heap.size = B at *
  generalize Value.slice (some ⟨B, 0, none⟩) 0 (s.size / 2) = v1 at *
  go_enter Tryz.func64, Tryz.ntmps64
  go_wp2_with fail
  go_loopw [4, 5] (fun v i wr => ∃ (m : Nat), i = .int .i64 (m : Int) ∧ m % 2 = 0 ∧ m ≤ s.size ∧ OS 5 1 cU8 wr B v (hexDec s (m / 2)) ∧ Below B w wr) (fun _ i _ => s.size - (intOf i).toNat)
  case atStart => exact ⟨0, rfl, rfl, by omega, ho1, hb1⟩
  case round =>
    obtain ⟨m, rfl, hm, hk, hown, hb⟩ := hrel
    by_cases hlt : m < s.size
    · have hlt1 : m + 1 < s.size := by omega
      have h0 := ha m hlt
      have h1 := ha (m + 1) hlt1
      have hv := hid (hexAt_val s (m / 2) m (by omega) hlt1 h0 h1)
      have hs := hb.size
      have r0 := hexv_range s[m]
      have r1 := hexv_range s[m + 1]
      replace hm := hid hm
      have hwr : IntKind.i64.wrap ((m : Int) + 1) = (m : Int) + 1 := IntWalk.i64_in _ (by omega)
      have hge : (0 : Int) ≤ (m : Int) + 1 := by omega
      have hlz : (m : Int) + 1 < (s.size : Int) := by omega
      go_wp2_with fail
      go_quiet (exact Calls.quiet_of_same (index_hexv _ _))
      clear hwr
      go_wp2_with (at_builtin; go_must (refine wpL_append flat_u8 rfl (.tmp 40) (.tmp 46) 52 rfl 5 i0 (.int .u8 0) Tryz.underlying52 hi hz0 hz1 hz2 rfl B _ (hexDec s (m / 2)) rfl (OS.alloc (OS.drewN hown _) _) _ [hexAt s (m / 2)] rfl (one_u8 _ _ _ _ _ (by simp) hv.out) ?c1 ?c2 ?c3 ?_))
      case c1 => rw [hexDec_len]; simp; omega
      case c2 => rw [hexDec_len]; simp [maxLen]; omega
      case c3 => simp; omega
      intro v' w2 hown1 hgr
      rw [← hexDec_snoc] at hown1
      have hb2 := b_grown (b_alloc (below_drewN (hB ▸ hb) _) _) hgr (hB ▸ OS.block hown)
      clear hgr hb hown
      go_wp2_with fail
      go_roundw
      case rel => exact ⟨m + 2, by go_num, by have := hm.out; omega, by have := hm.out; omega, by rw [show (m + 2) / 2 = m / 2 + 1 by omega]; exact hown1, hB ▸ hb2⟩
      case measure => simp [intOf]; omega
    · go_wp2_with fail
      go_ret2
      obtain rfl : m = s.size := by omega
      exact ⟨_, rfl, hown, hb⟩

set_option maxRecDepth 100000 in
set_option maxHeartbeats 1000000 in
theorem hex_Bytes_no (s : ByteArray) (w : World) (h : s.size ≤ 4000) (h2 : s.size % 2 = 0) (ha : ¬ AllHex s) :
    Calls Tryz.prog 64 #[.string s] w fun e w' => e = .returned (.tuple #[.slice none 0 0, .int .i64 3]) ∧ Below w.heap.size w w' := by
  obtain ⟨i0, hi, hz0, hz1, hz2⟩ := info_parts info_u8
  obtain ⟨w1, hmk, how, hgr⟩ := run_make_own w w.heap.size 52 5 i0 (.int .u8 0) 1 Tryz.underlying52 hi hz0 hz1 .i64 .i64 (s.size / 2) (by rw [hz2]; omega) (by simp [maxLen]; omega) (Nat.le_refl _)
  have ho1 : OS 5 1 cU8 w1 w.heap.size (.slice (some ⟨w.heap.size, 0, none⟩) 0 (s.size / 2)) [] := how
  rw [Int.natCast_ediv] at hmk
  simp only [Int.cast_ofNat_Int] at hmk
  have hb1 : Below w.heap.size w w1 := b_grown (v := .slice none 0 0) (Below.refl _ _) hgr (fun k hk => by simp [Value.ownBlock] at hk)
  clear how hgr
  have q2 : ((s.size : Int) % 2 != 0) = false := by simp; omega
  have q4 : decide (4000 < (s.size : Int)) = false := by simp; omega
  generalize hB : w.heap.size = B at *
  generalize Value.slice (some ⟨B, 0, none⟩) 0 (s.size / 2) = v1 at *
  replace ha := hid ha
  go_enter Tryz.func64, Tryz.ntmps64
  go_wp2_with fail
  go_loopw [4, 5] (fun v i wr => ∃ (m : Nat), i = .int .i64 (m : Int) ∧ m % 2 = 0 ∧ m ≤ s.size ∧ OS 5 1 cU8 wr B v (hexDec s (m / 2)) ∧ (∀ j (hj : j < s.size), j < m → 0 ≤ hexv s[j]) ∧ Below B w wr) (fun _ i _ => s.size - (intOf i).toNat)
  case atStart => exact ⟨0, rfl, rfl, by omega, ho1, (fun j _ hj => by omega), hb1⟩
  case round =>
    obtain ⟨m, rfl, hm, hk, hown, hall, hb⟩ := hrel
    replace hall := hid hall
    by_cases hlt : m < s.size
    · have hlt1 : m + 1 < s.size := by omega
      have hs := hb.size
      have r0 := hexv_range s[m]
      have r1 := hexv_range s[m + 1]
      have hwr : IntKind.i64.wrap ((m : Int) + 1) = (m : Int) + 1 := IntWalk.i64_in _ (by omega)
      have hge : (0 : Int) ≤ (m : Int) + 1 := by omega
      have hlz : (m : Int) + 1 < (s.size : Int) := by omega
      by_cases h0 : 0 ≤ hexv s[m]
      · by_cases h1 : 0 ≤ hexv s[m + 1]
        · have hv := hid (hexAt_val s (m / 2) m (by omega) hlt1 h0 h1)
          replace hm := hid hm
          go_wp2_with fail
          go_quiet (exact Calls.quiet_of_same (index_hexv _ _))
          clear hwr
          go_wp2_with (at_builtin; go_must (refine wpL_append flat_u8 rfl (.tmp 40) (.tmp 46) 52 rfl 5 i0 (.int .u8 0) Tryz.underlying52 hi hz0 hz1 hz2 rfl B _ (hexDec s (m / 2)) rfl (OS.alloc (OS.drewN hown _) _) _ [hexAt s (m / 2)] rfl (one_u8 _ _ _ _ _ (by simp) hv.out) ?c1 ?c2 ?c3 ?_))
          case c1 => rw [hexDec_len]; simp; omega
          case c2 => rw [hexDec_len]; simp [maxLen]; omega
          case c3 => simp; omega
          intro v' w2 hown1 hgr
          rw [← hexDec_snoc] at hown1
          have hb2 := b_grown (b_alloc (below_drewN (hB ▸ hb) _) _) hgr (hB ▸ OS.block hown)
          clear hgr hb hown
          go_wp2_with fail
          go_roundw
          case rel => exact ⟨m + 2, by go_num, by have := hm.out; omega, by have := hm.out; omega, by rw [show (m + 2) / 2 = m / 2 + 1 by omega]; exact hown1, (fun j hj hjm => by
            by_cases e0 : j = m
            · subst e0; exact h0
            · by_cases e1 : j = m + 1
              · subst e1; exact h1
              · exact hall.out j hj (by omega)), hB ▸ hb2⟩
          case measure => simp [intOf]; omega
        · have h1' : hexv s[m + 1] < 0 := by omega
          replace hm := hid hm
          go_wp2_with fail
          go_quiet (exact Calls.quiet_of_same (index_hexv _ _))
          clear hwr
          go_wp2_with fail
          go_ret2
          exact ⟨rfl, below_drewN hb _⟩
      · have h0' : hexv s[m] < 0 := by omega
        replace hm := hid hm
        go_wp2_with fail
        go_quiet (exact Calls.quiet_of_same (index_hexv _ _))
        clear hwr
        go_wp2_with fail
        go_ret2
        exact ⟨rfl, below_drewN hb _⟩
    · exact absurd (fun j hj => hall.out j hj (by omega)) ha.out

def nib (s : ByteArray) (m : Nat) : UInt8 := if h : m < s.size then UInt8.ofNat (hexv s[m]).toNat else 0
def hexPart (s : ByteArray) (m : Nat) : List UInt8 := if m % 2 = 0 then hexDec s (m / 2) else hexDec s (m / 2) ++ [nib s (m - 1)]
theorem hexPart_even (s : ByteArray) (m : Nat) (h : m % 2 = 0) : hexPart s m = hexDec s (m / 2) := by unfold hexPart; rw [if_pos h]
theorem hexPart_odd (s : ByteArray) (m : Nat) (h : m % 2 = 0) : (hexDec s (m / 2) ++ [0]).set (m / 2) (nib s m) = hexPart s (m + 1) := by
  unfold hexPart
  rw [if_neg (by omega), show (m + 1) / 2 = m / 2 by omega, Nat.add_sub_cancel, List.set_append_right _ _ (by rw [hexDec_len]; exact Nat.le_refl _), hexDec_len, Nat.sub_self]
  rfl
theorem hexPart_odd' (s : ByteArray) (m : Nat) (h : m % 2 = 0) : (hexPart s m ++ [0]).set (m / 2) (nib s m) = hexPart s (m + 1) := by
  rw [hexPart_even s m h]; exact hexPart_odd s m h
theorem hexPart_next (s : ByteArray) (m : Nat) (h : m % 2 = 1) : (hexPart s m).set (m / 2) (hexAt s (m / 2)) = hexPart s (m + 1) := by
  unfold hexPart
  rw [if_neg (by omega), if_pos (by omega), show (m + 1) / 2 = m / 2 + 1 by omega, List.set_append_right _ _ (by rw [hexDec_len]; exact Nat.le_refl _), hexDec_len, Nat.sub_self, hexDec_snoc]
  rfl
theorem hexPart_len (s : ByteArray) (m : Nat) : (hexPart s m).length = (m + 1) / 2 := by
  unfold hexPart
  split
  · rw [hexDec_len]; omega
  · rw [List.length_append, hexDec_len]; simp; omega
theorem nib_val (s : ByteArray) (m : Nat) (h : m < s.size) (h0 : 0 ≤ hexv s[m]) : hexv s[m] = ((nib s m).toNat : Int) := by
  have r0 := hexv_range s[m]
  unfold nib
  rw [dif_pos h, UInt8.toNat_ofNat']
  omega
theorem nib_next (s : ByteArray) (m : Nat) (hm : m % 2 = 1) (h : m < s.size) (h0 : 0 ≤ hexv s[m - 1]) (h1 : 0 ≤ hexv s[m]) : (((nib s (m - 1)).toNat : Int) * 16 + hexv s[m]) = ((hexAt s (m / 2)).toNat : Int) := by
  have e := hexAt_val s (m / 2) (m - 1) (by omega) (by omega) h0 (by simp only [show m - 1 + 1 = m by omega]; exact h1)
  rw [← nib_val s (m - 1) (by omega) h0, ← e]
  simp only [show m - 1 + 1 = m by omega]
  omega
theorem list_at (s : ByteArray) (m : Nat) (h : m < s.size) : s.data.toList[m]? = some s[m] := by
  rw [Array.getElem?_toList, Array.getElem?_eq_getElem (by exact h)]
  rfl
theorem and1 (n : Nat) (h : n < 9223372036854775808) : bits .and .i64 (n : Int) 1 = ((n % 2 : Nat) : Int) := by
  have := bits_mask .i64 63 (by decide) (fun m a b => by rw [IntKind.wrap_i64]; omega) 1 (by decide) (n : Int) (by omega) (by omega)
  rw [show (2 : Int) ^ 1 - 1 = 1 from rfl] at this
  rw [this]
  omega

def HexPost (s : ByteArray) (w : World) (e : Ending) (w' : World) : Prop :=
  (AllHex s ∧ ∃ v, e = .returned (.tuple #[v, .int .i64 0]) ∧ OS 5 1 cU8 w' w.heap.size v (hexDec s (s.size / 2)) ∧ Below w.heap.size w w') ∨
  (¬ AllHex s ∧ e = .returned (.tuple #[.slice none 0 0, .int .i64 3]) ∧ Below w.heap.size w w')
theorem hexPost_no {s : ByteArray} {w w' : World} (m : Nat) (h : m < s.size) (h0 : hexv s[m] < 0) (hb : Below w.heap.size w w') : HexPost s w (.returned (.tuple #[.slice none 0 0, .int .i64 3])) w' :=
  .inr ⟨fun ha => by have := ha m h; omega, rfl, hb⟩
theorem hexPost_yes {s : ByteArray} {w w' : World} {v : Value} (h2 : s.size % 2 = 0) (ha : ∀ j (hj : j < s.size), j < s.size → 0 ≤ hexv s[j]) (ho : OS 5 1 cU8 w' w.heap.size v (hexPart s s.size)) (hb : Below w.heap.size w w') : HexPost s w (.returned (.tuple #[v, .int .i64 0])) w' :=
  .inl ⟨fun j hj => ha j hj hj, v, rfl, by rw [← hexPart_even s _ h2]; exact ho, hb⟩

set_option maxRecDepth 100000 in
set_option maxHeartbeats 1000000 in
theorem ref_HexBytes (s : ByteArray) (w : World) (h : s.size ≤ 4000) (h2 : s.size % 2 = 0) :
    Calls Tryz.prog 75 #[.string s] w (HexPost s w) := by
  obtain ⟨i0, hi, hz0, hz1, hz2⟩ := info_parts info_u8
  have e1 : s.data.toList.length = s.size := by rw [Array.length_toList]; rfl
  have hcv := Lib.run_convert_string_bytes (P := Tryz.prog) w 9 52 5 s Tryz.underlying9 Tryz.underlying52 Tryz.underlying5
  have hrd := conv_reads w 5 s (by omega)
  have hbl := conv_below w 5 s
  have hs1' : w.heap.size < (Lib.bytesWorld w 5 s).heap.size := by rw [Lib.bytesWorld_size]; omega
  generalize Lib.bytesWorld w 5 s = w1 at hcv hrd hbl hs1'
  generalize grownCap w s.size 0 5 = c1 at hcv hrd
  have q2 : (bits .and .i64 (s.size : Int) 1 == 1) = false := by rw [and1 _ (by omega)]; simp; omega
  have q4 : decide (4000 < (s.size : Int)) = false := by simp; omega
  have hs1 := hbl.size
  go_enter Tryz.func75, Tryz.ntmps75
  go_wp2_with fail
  have hat : ∀ k (hk : k < s.size), EU8 w1 w.heap.size k s[k] := fun k hk => by
    obtain ⟨a, c, hv, _, _, _, _, hh⟩ := hrd
    obtain ⟨b, off, hb, hlt, he⟩ := hh k _ (list_at s k hk)
    simp only [Value.slice.injEq] at hv
    rw [← hv.1] at hb
    simp only [Option.some.injEq, Addr.mk.injEq] at hb
    obtain ⟨rfl, rfl, _⟩ := hb
    rw [Nat.mul_one, Nat.zero_add] at he
    exact he
  have hlt1 : w.heap.size < w1.heap.size := hs1'
  clear hrd
  go_loopw [4, 18] (fun v i wr => ∃ (m : Nat), i = .int .i64 (m : Int) ∧ m ≤ s.size ∧ OS 5 1 cU8 wr w1.heap.size v (hexPart s m) ∧ (∀ j (hj : j < s.size), j < m → 0 ≤ hexv s[j]) ∧ Below w1.heap.size w1 wr) (fun _ i _ => s.size - (intOf i).toNat)
  case atStart => exact ⟨0, rfl, by omega, OS.nil, (fun j _ hj => by omega), Below.refl _ _⟩
  case round =>
    obtain ⟨m, rfl, hk, hown, hall, hb⟩ := hrel
    replace hall := hid hall
    by_cases hlt : m < s.size
    · have hcell := EU8.stable _ _ _ _ _ hb hlt1 (hat m hlt)
      unfold EU8 at hcell
      have r0 := hexv_range s[m]
      have hs := hb.size
      by_cases h0 : 0 ≤ hexv s[m]
      · by_cases hev : m % 2 = 0
        · have qb : bits .and .i64 (m : Int) 1 = 0 := by rw [and1 _ (by omega)]; omega
          have hlen := hexPart_len s m
          go_wp2_with (first | (go_at_call 93; refine (index_hexv _ _).mono ?_; rintro e wq ⟨rfl, rfl⟩) | (at_builtin; go_must (refine wpL_append flat_u8 rfl (.tmp 30) (.tmp 31) 52 rfl 5 i0 (.int .u8 0) Tryz.underlying52 hi hz0 hz1 hz2 rfl w1.heap.size _ (hexPart s m) rfl (OS.alloc hown _) _ [0] rfl (one_u8 _ _ _ _ _ (by simp) rfl) ?c1 ?c2 ?c3 ?_)))
          case c1 => simp; omega
          case c2 => simp [maxLen]; omega
          case c3 => simp; omega
          intro v' w2 hown1 hgr
          have hb2 := b_grown (b_alloc hb _) hgr (OS.block hown)
          clear hgr hb hown hcell qb
          obtain ⟨g, cap, rfl, hg, hgs, hcell, hfr, hset⟩ := OS.cell1 hown1 (fun _ => rfl) (m / 2) 0 (by rw [List.getElem?_append_right (by omega), hlen, show m / 2 - (m + 1) / 2 = 0 by omega]; rfl)
          have hset1 := hset (nib s m) (.int .u8 (hexv s[m])) (by rw [nib_val s m hlt h0]; rfl)
          rw [hexPart_odd' s m hev] at hset1
          simp only [cU8, List.getElem?_cons_zero] at hcell
          have hb3 := b_set hb2 (p := ⟨g, m / 2, none⟩) hg (.int .u8 (hexv s[m]))
          clear hset hown1 hb2
          have hcell' : w2.cell? ⟨g, m / 2, none⟩ = some (.int .u8 0) := hcell
          go_wp2_with fail
          go_roundw
          case rel => exact ⟨m + 1, by go_num, by omega, hset1, (fun j hj hjm => by
            by_cases e0 : j = m
            · subst e0; exact h0
            · exact hall.out j hj (by omega)), hb3⟩
          case measure => simp [intOf]; omega
        · have qb : bits .and .i64 (m : Int) 1 = 1 := by rw [and1 _ (by omega)]; omega
          obtain ⟨g, cap, rfl, hg, hgs, hcello, hfr, hset⟩ := OS.cell1 hown (fun _ => rfl) (m / 2) (nib s (m - 1)) (by unfold hexPart; rw [if_neg hev, List.getElem?_append_right (by rw [hexDec_len]; exact Nat.le_refl _), hexDec_len, Nat.sub_self]; rfl)
          have hnn := hid (nib_next s m (by omega) hlt (hall.out (m - 1) (by omega) (by omega)) h0)
          have hset1 := hset (hexAt s (m / 2)) (.int .u8 (((nib s (m - 1)).toNat : Int) * 16 + hexv s[m])) (by rw [hnn.out]; rfl)
          rw [hexPart_next s m (by omega)] at hset1
          simp only [cU8, List.getElem?_cons_zero] at hcello
          have hb3 := b_set hb (p := ⟨g, m / 2, none⟩) hg (.int .u8 (((nib s (m - 1)).toNat : Int) * 16 + hexv s[m]))
          have hix : m / 2 < (hexPart s m).length := by rw [hexPart_len]; omega
          have hn15 : (nib s (m - 1)).toNat ≤ 15 := by
            have := nib_val s (m - 1) (by omega) (hall.out (m - 1) (by omega) (by omega))
            have := hexv_range s[m - 1]
            omega
          clear hset
          go_wp2_with (go_at_call 93; refine (index_hexv _ _).mono ?_; rintro e wq ⟨rfl, rfl⟩)
          go_roundw
          case rel => exact ⟨m + 1, by go_num, by omega, hset1, (fun j hj hjm => by
            by_cases e0 : j = m
            · subst e0; exact h0
            · exact hall.out j hj (by omega)), hb3⟩
          case measure => simp [intOf]; omega
      · have h0' : hexv s[m] < 0 := by omega
        go_wp2_with (go_at_call 93; refine (index_hexv _ _).mono ?_; rintro e wq ⟨rfl, rfl⟩)
        go_ret2
        exact hexPost_no m hlt h0' (b_call hbl hb)
    · go_wp2_with fail
      go_ret2
      obtain rfl : m = s.size := by omega
      exact hexPost_yes h2 hall.out (OS.mono hown hs1) (b_call hbl hb)
end Go.Proofs.YtpcnhldlfmdlhaaGreatDoor

namespace Go.Proofs.YtpcnhldlfmdlhaaGreatDoor
open Go.RowKit

set_option maxRecDepth 100000 in
theorem hex_Check (s : ByteArray) (w : World) (h : s.size = 64) (ha : AllHex s) :
    Calls Tryz.prog 35 #[.string s] w fun e w' => e = .returned (.int .i64 0) ∧ Below w.heap.size w w' := by
  replace ha := hid ha
  go_enter Tryz.func35, Tryz.ntmps35
  go_wp2_with fail
  refine (hex_Bytes s _ (by omega) (by omega) ha.out).mono ?_
  rintro e w1 ⟨v, rfl, _, hb⟩
  go_wp2_with fail
  go_ret
  exact ⟨rfl, hb⟩

set_option maxRecDepth 100000 in
theorem hex_Check_no (s : ByteArray) (w : World) (h : s.size = 64) (ha : ¬ AllHex s) :
    Calls Tryz.prog 35 #[.string s] w fun e w' => e = .returned (.int .i64 3) ∧ Below w.heap.size w w' := by
  replace ha := hid ha
  go_enter Tryz.func35, Tryz.ntmps35
  go_wp2_with fail
  refine (hex_Bytes_no s _ (by omega) (by omega) ha.out).mono ?_
  rintro e w1 ⟨rfl, hb⟩
  go_wp2_with fail
  go_ret
  exact ⟨rfl, hb⟩

set_option maxRecDepth 100000 in
theorem hex_Check_size (s : ByteArray) (w : World) (h : s.size ≠ 64) (_hm : s.size ≤ 140737488351232) :
    Calls Tryz.prog 35 #[.string s] w fun e w' => e = .returned (.int .i64 1) ∧ w = w' := by
  have q : ((s.size : Int) != 64) = true := by simp; omega
  go_enter Tryz.func35, Tryz.ntmps35
  go_wp2_with fail
  go_ret
  exact ⟨rfl, rfl⟩

set_option maxRecDepth 100000 in
theorem ref_HexFault (s : ByteArray) (w : World) (h : s.size = 64) (ha : AllHex s) :
    Calls Tryz.prog 44 #[.string s] w fun e w' => e = .returned (.int .i64 0) ∧ Below w.heap.size w w' := by
  replace ha := hid ha
  go_enter Tryz.func44, Tryz.ntmps44
  go_wp2_with fail
  refine (ref_HexBytes s _ (by omega) (by omega)).mono ?_
  rintro e w1 (⟨_, v, rfl, _, hb⟩ | ⟨hn, _, _⟩)
  · go_wp2_with fail
    go_ret
    exact ⟨rfl, hb⟩
  · exact absurd ha.out hn

set_option maxRecDepth 100000 in
theorem ref_HexFault_no (s : ByteArray) (w : World) (h : s.size = 64) (ha : ¬ AllHex s) :
    Calls Tryz.prog 44 #[.string s] w fun e w' => e = .returned (.int .i64 3) ∧ Below w.heap.size w w' := by
  replace ha := hid ha
  go_enter Tryz.func44, Tryz.ntmps44
  go_wp2_with fail
  refine (ref_HexBytes s _ (by omega) (by omega)).mono ?_
  rintro e w1 (⟨hy, _⟩ | ⟨_, rfl, hb⟩)
  · exact absurd hy ha.out
  · go_wp2_with fail
    go_ret
    exact ⟨rfl, hb⟩

set_option maxRecDepth 100000 in
theorem ref_HexFault_size (s : ByteArray) (w : World) (h : s.size ≠ 64) (_hm : s.size ≤ 140737488351232) :
    Calls Tryz.prog 44 #[.string s] w fun e w' => e = .returned (.int .i64 1) ∧ w = w' := by
  have q : ((s.size : Int) != 64) = true := by simp; omega
  go_enter Tryz.func44, Tryz.ntmps44
  go_wp2_with fail
  go_ret
  exact ⟨rfl, rfl⟩

end Go.Proofs.YtpcnhldlfmdlhaaGreatDoor

namespace Go.Proofs.YtpcnhldlfmdlhaaGreatDoor
open Go.RowKit

theorem size_builder : (Tryz.prog.info? 150).map (·.size) = some 2 := by kernel_rfl
theorem lies_builder : liesAt Tryz.prog Tryz.prog.depth 150 (2 / Tryz.prog.cellsOf 150) 0 150 1 = true := by kernel_rfl

set_option maxRecDepth 100000 in
set_option maxHeartbeats 1000000 in
/-- copyCheck at a builder that was written before. -/
theorem b_check_used (b : Nat) (w : World) (h0 : w.cell? ⟨b, 0, none⟩ = some (.pointer (some ⟨b, 0, none⟩))) :
    Calls Tryz.prog 139 #[.pointer (some ⟨b, 0, none⟩)] w fun e w' => e = .returned (.tuple #[]) ∧ w = w' := by
  obtain ⟨j, hj, _⟩ := Option.map_eq_some_iff.1 size_builder
  go_enter Tryz.func139, Tryz.ntmps139
  go_wp2_with fail
  rw [Lib.run_neq_ptr_same w _ Tryz.underlying148 hj]
  go_wp2_with fail
  go_end0
  exact ⟨rfl, rfl⟩

set_option maxRecDepth 100000 in
set_option maxHeartbeats 1000000 in
/-- copyCheck at a fresh builder. -/
theorem b_check_fresh (b : Nat) (w : World) (h0 : w.cell? ⟨b, 0, none⟩ = some (.pointer none)) (hsh : w.shape? b = some (150, 2)) (hfz : w.frozen? ⟨b, 0, none⟩ = false) :
    Calls Tryz.prog 139 #[.pointer (some ⟨b, 0, none⟩)] w fun e w' => e = .returned (.tuple #[]) ∧ w' = w.setCell ⟨b, 0, none⟩ (.pointer (some ⟨b, 0, none⟩)) := by
  obtain ⟨j, hj, hjs⟩ := Option.map_eq_some_iff.1 size_builder
  go_enter Tryz.func139, Tryz.ntmps139
  go_wp2_with fail
  rw [Lib.run_to_unsafe w ⟨b, 0, none⟩ Tryz.underlying148 Tryz.underlying189 hj (by rw [hjs]; decide) hsh (Nat.zero_lt_succ 1)]
  simp only [Result.andThen]
  rw [Oper.upon_value]
  go_wp2_with fail
  rw [run_callFunc_extern Tryz.func157 (by kernel_rfl) (by kernel_rfl) (by kernel_rfl) (e := Extern.AbiNoEscape.same) (by kernel_rfl)]
  rw [Lib.run_noEscape]
  simp only [Result.andThen]
  rw [Oper.upon_value]
  go_wp2_with fail
  rw [Lib.run_from_unsafe w ⟨b, 0, none⟩ Tryz.underlying189 Tryz.underlying148 hj hsh lies_builder]
  simp only [Result.andThen]
  rw [Oper.upon_value]
  go_wp2_with fail
  go_end0
  exact ⟨rfl, rfl⟩

abbrev IsB (B b : Nat) (l : List UInt8) (w : World) : Prop := Lib.IsBuilder 150 5 B b (Lib.byteCells l) w
abbrev BAt (B b : Nat) (l : List UInt8) (w : World) : Prop := Lib.BuilderAt 150 5 B b (.pointer (some ⟨b, 0, none⟩)) (Lib.byteCells l) w

theorem b_check (B b : Nat) (l : List UInt8) (w : World) (h : IsB B b l w) :
    Calls Tryz.prog 139 #[.pointer (some ⟨b, 0, none⟩)] w fun e w' => e = .returned (.tuple #[]) ∧ BAt B b l w' ∧ Below B w w' := by
  rcases h with h | h
  · refine (b_check_fresh b w h.cell0 h.shape h.frozen0).mono ?_
    rintro e w' ⟨rfl, rfl⟩
    exact ⟨rfl, h.used _, (Below.refl B w).setCell (p := ⟨b, 0, none⟩) h.1 _⟩
  · refine (b_check_used b w h.cell0).mono ?_
    rintro e w' ⟨rfl, rfl⟩
    exact ⟨rfl, h, Below.refl B _⟩

theorem byteCells_len (l : List UInt8) : (Lib.byteCells l).length = l.length := by simp [Lib.byteCells]
theorem byteCells_snoc (l : List UInt8) (c : UInt8) : Lib.byteCells (l ++ [c]) = Lib.byteCells l ++ [.int .u8 (c.toNat : Int)] := by simp [Lib.byteCells]

set_option maxRecDepth 100000 in
set_option maxHeartbeats 2000000 in
theorem b_write (B b : Nat) (l : List UInt8) (c : UInt8) (w : World) (h : IsB B b l w) (hlen : l.length + 1 ≤ 140737488355328) (hBw : B ≤ w.heap.size) :
    Calls Tryz.prog 114 #[.pointer (some ⟨b, 0, none⟩), .int .u8 (c.toNat : Int)] w fun e w' => e = .returned .nilIface ∧ BAt B b (l ++ [c]) w' ∧ Below B w w' := by
  obtain ⟨i0, hi, hz0, hz1, hz2⟩ := info_parts info_u8
  have hl : (Lib.byteCells l).length = l.length := byteCells_len l
  go_enter Tryz.func114, Tryz.ntmps114
  go_wp2_with fail
  refine (b_check B b l _ h).mono ?_
  rintro e w1 ⟨rfl, h1, hb1⟩
  obtain ⟨hB, v, hbk, hown, hne⟩ := h1
  have c0 : w1.cell? ⟨b, 0, none⟩ = some (.pointer (some ⟨b, 0, none⟩)) := by rw [Lib.cell_of_heap hbk]; rfl
  have c1 : w1.cell? ⟨b, 1, none⟩ = some v := by rw [Lib.cell_of_heap hbk]; rfl
  replace hl := hid hl
  go_wp2_with (at_builtin; refine wpList_append_own _ rfl _ _ 52 rfl B 5 i0 (.int .u8 0) 1 1 Tryz.underlying52 hi hz0 hz1 hz2 rfl (by decide) _ _ _ rfl (hown.alloc _) ⟨w1.heap.size, 0, none⟩ 1 1 [.int .u8 (c.toNat : Int)] rfl rfl ?c1 ?c2 ?c3 ?c4 ?c5 ?_)
  case c1 =>
    intro j u hj
    match j, hj with
    | 0, hj => simp at hj; subst hj; simp [Addr.add]
  case c2 => intro u hu; simp at hu; subst hu; rfl
  case c3 => rw [hl.out]; unfold maxLen; omega
  case c4 => rw [hl.out]; omega
  case c5 => have := hb1.size; simp; omega
  intro v' w2 hown' hgrow _
  have hlt : b < w1.heap.size := by
    rcases Nat.lt_or_ge b w1.heap.size with h' | h'
    · exact h'
    · simp [Array.getElem?_eq_none h'] at hbk
  have hb2 : w2.heap[b]? = some (.cells #[.pointer (some ⟨b, 0, none⟩), v] 150 (0, 0)) := by
    rw [hgrow.block b (by simp; omega) (fun e => hne e.symm), Lib.alloc_old w1 _ b hlt]
    exact hbk
  have d0 : w2.cell? ⟨b, 0, none⟩ = some (.pointer (some ⟨b, 0, none⟩)) := by rw [Lib.cell_of_heap hb2]; rfl
  have d1 : w2.cell? ⟨b, 1, none⟩ = some v := by rw [Lib.cell_of_heap hb2]; rfl
  have f1 : w2.frozen? ⟨b, 1, none⟩ = false := Lib.frozen_of_heap hb2 1
  obtain ⟨g, cap, rfl⟩ : ∃ g cap, v' = .slice (some ⟨g, 0, none⟩) ((Lib.byteCells l).length + 1) cap := by
    rcases hown'.2 with ⟨_, h0⟩ | ⟨g, cap, cur, hv, _⟩
    · omega
    · exact ⟨g, cap, hv⟩
  go_wp2_with fail
  go_ret
  refine ⟨rfl, ?_, ?_⟩
  · unfold BAt
    rw [byteCells_snoc]
    exact Lib.BuilderAt.put (T := 150) (e := 5) hB hb2 (bs' := Lib.byteCells l ++ [.int .u8 (c.toNat : Int)]) (by simpa using hown') (by decide)
  · exact ((hb1.alloc (by have := hb1.size; omega) _).grown hgrow (by have := hb1.size; simp; omega) (fun k hk => (hown.lt k hk).1)).setCell (p := ⟨b, 1, none⟩) hB _

/-- A hexadecimal digit. -/
def hexDig (n : Nat) : UInt8 := hexDigits.getD n 0
def hexTwo (c : UInt8) : List UInt8 := [hexDig (c.toNat / 16), hexDig (c.toNat % 16)]
/-- The text of bytes. -/
def hexOf (l : List UInt8) : List UInt8 := l.flatMap hexTwo
theorem hexOf_len (l : List UInt8) : (hexOf l).length = 2 * l.length := by
  unfold hexOf
  induction l with
  | nil => rfl
  | cons c l ih => rw [List.flatMap_cons, List.length_append, ih]; simp [hexTwo]; omega
theorem hexOf_snoc (l : List UInt8) (k : Nat) (h : k < l.length) : hexOf (l.take (k + 1)) = hexOf (l.take k) ++ [hexDig (l[k].toNat / 16)] ++ [hexDig (l[k].toNat % 16)] := by
  unfold hexOf
  rw [List.take_succ_eq_append_getElem h, List.flatMap_append]
  simp [hexTwo]
theorem dig_at (n : Int) (k : Nat) (hn : n = (k : Int)) (hk : k < 16) (w : World) : (Instr.index 9 (.string ⟨#[48, 49, 50, 51, 52, 53, 54, 55, 56, 57, 97, 98, 99, 100, 101, 102]⟩) (.int .u8 n)).run Tryz.prog w = .ok (.int .u8 ((hexDig k).toNat : Int)) w := by
  subst hn
  rw [run_index_string w 9 _ .u8 k Tryz.underlying9, dif_pos (by have : (ByteArray.mk #[48, 49, 50, 51, 52, 53, 54, 55, 56, 57, 97, 98, 99, 100, 101, 102]).size = 16 := rfl; omega)]
  have key : ∀ j : Fin 16, ((ByteArray.mk #[48, 49, 50, 51, 52, 53, 54, 55, 56, 57, 97, 98, 99, 100, 101, 102])[j.val]'j.isLt) = hexDig j.val := by decide
  have := key ⟨k, hk⟩
  simp only [Int.toNat_natCast]
  rw [← this]

set_option maxRecDepth 100000 in
set_option maxHeartbeats 2000000 in
theorem hex_Text (v : Value) (l : List UInt8) (w : World) (hl : RB w v l) (h : l.length ≤ 35184372088832) :
    Calls Tryz.prog 90 #[v] w fun e w' => e = .returned (.string (bstr (hexOf l))) ∧ Below w.heap.size w w' := by
  have hR := hl
  obtain ⟨a, c, rfl, hlc, hcm, hre, hno, _⟩ := hl
  unfold maxLen at hcm
  generalize hB : w.heap.size = B at *
  have hst : IsB B B (hexOf (l.take 0)) (w.alloc (.cells #[.pointer none, .slice none 0 0] 150)) := by
    refine .inl ⟨Nat.le_refl _, .slice none 0 0, ?_, World.ownsRow_nil _ _ _ _, by simp [Value.ownBlock]⟩
    rw [← hB]
    exact heap_alloc_new w _
  have hb0 : Below B w (w.alloc (.cells #[.pointer none, .slice none 0 0] 150)) := (Below.refl B w).alloc (by omega) _
  go_enter Tryz.func90, Tryz.ntmps90
  go_wp2_with fail
  go_loopw [8] (fun i wr => ∃ (k : Nat), i = .int .i64 (k : Int) ∧ k ≤ l.length ∧ IsB B B (hexOf (l.take k)) wr ∧ Below B w wr) (fun i _ => l.length - (intOf i).toNat)
  case atStart => exact ⟨0, rfl, by omega, hst, hb0⟩
  case round =>
    obtain ⟨k, rfl, hk, hI, hb⟩ := hrel
    by_cases hlt : k < l.length
    · obtain ⟨b, off, c', hv, hbl, _, _, hc⟩ := RB.block hR (by omega)
      simp only [Value.slice.injEq] at hv
      obtain ⟨rfl, -, -⟩ := hv
      have c0 := cell_stays (hB ▸ hb) hbl (hc k hlt)
      have hs := hb.size
      have hsn := hid (hexOf_snoc l k hlt)
      have hlen := hid (hexOf_len (l.take k))
      have hq := l[k].toNat_lt
      clear hc hR hst hb0
      generalize l[k] = x0 at *
      have d1 := dig_at ((x0.toNat : Int) / 16) (x0.toNat / 16) (by omega) (by omega)
      have d2 := dig_at ((x0.toNat : Int) % 16) (x0.toNat % 16) (by omega) (by omega)
      go_wp2_with fail
      refine (b_write B B _ (hexDig (x0.toNat / 16)) _ hI (by rw [hlen.out, List.length_take]; omega) (by omega)).mono ?_
      rintro e w1 ⟨rfl, h1, b1⟩
      have hs1 := b1.size
      go_wp2_with fail
      refine (b_write B B _ (hexDig (x0.toNat % 16)) _ (.inr h1) (by rw [List.length_append, hlen.out, List.length_take]; simp; omega) (by omega)).mono ?_
      rintro e w2 ⟨rfl, h2, b2⟩
      rw [← hsn.out] at h2
      clear d1 d2
      go_wp2_with fail
      go_roundw
      case rel => exact ⟨k + 1, by go_num, by omega, .inr h2, (hb.trans b1).trans b2⟩
      case measure => simp [intOf]; omega
    · obtain rfl : k = l.length := by omega
      rw [List.take_length] at hI
      have hs := hb.size
      go_wp2_with fail
      refine (Tryz.Builder_String_any B B _ _ hI (by omega)).mono ?_
      rintro e w1 ⟨rfl, b1⟩
      go_wp2_with fail
      go_ret
      exact ⟨rfl, hb.trans b1⟩
end Go.Proofs.YtpcnhldlfmdlhaaGreatDoor

namespace Go.Proofs.YtpcnhldlfmdlhaaGreatDoor
open Go.RowKit

/-- What stands in the reference's row after m rounds. -/
def hexRow (l : List UInt8) (m : Nat) : List UInt8 := (hexOf l).take m ++ List.replicate (2 * l.length - m) 0
theorem hexRow_len (l : List UInt8) (m : Nat) (h : m ≤ 2 * l.length) : (hexRow l m).length = 2 * l.length := by
  unfold hexRow
  rw [List.length_append, List.length_take, hexOf_len, List.length_replicate]; omega
theorem hexRow_all (l : List UInt8) : hexRow l (2 * l.length) = hexOf l := by
  unfold hexRow
  rw [List.take_of_length_le (by rw [hexOf_len]; exact Nat.le_refl _), Nat.sub_self]; simp
theorem hexRow_zero (l : List UInt8) : hexRow l 0 = List.replicate (2 * l.length) 0 := by
  unfold hexRow; simp
theorem hexOf_at (l : List UInt8) (m : Nat) (h : m < 2 * l.length) : (hexOf l)[m]? = some (if m % 2 = 0 then hexDig ((l.getD (m / 2) 0).toNat / 16) else hexDig ((l.getD (m / 2) 0).toNat % 16)) := by
  unfold hexOf
  have key : ∀ (l : List UInt8) (m : Nat), m < 2 * l.length → (l.flatMap hexTwo)[m]? = some (if m % 2 = 0 then hexDig ((l.getD (m / 2) 0).toNat / 16) else hexDig ((l.getD (m / 2) 0).toNat % 16)) := by
    intro l
    induction l with
    | nil => intro m h; simp at h
    | cons c l ih =>
      intro m h
      rw [List.flatMap_cons]
      match m with
      | 0 => simp [hexTwo]
      | 1 => simp [hexTwo]
      | m + 2 =>
        rw [List.getElem?_append_right (by simp [hexTwo])]
        have := ih m (by simp at h; omega)
        rw [show m + 2 - (hexTwo c).length = m by simp [hexTwo], this, show (m + 2) % 2 = m % 2 by omega, show (m + 2) / 2 = m / 2 + 1 by omega]
        simp
  exact key l m h
theorem hexRow_get (l : List UInt8) (m : Nat) (h : m < 2 * l.length) : (hexRow l m)[m]? = some 0 := by
  unfold hexRow
  rw [List.getElem?_append_right (by rw [List.length_take]; omega), List.length_take, hexOf_len, Nat.min_eq_left (by omega), Nat.sub_self, List.getElem?_replicate, if_pos (by omega)]
theorem hexRow_set (l : List UInt8) (m : Nat) (h : m < 2 * l.length) (y : UInt8) (hy : (hexOf l)[m]? = some y) : (hexRow l m).set m y = hexRow l (m + 1) := by
  unfold hexRow
  have hl := hexOf_len l
  have ht : ((hexOf l).take m).length = m := by rw [List.length_take, hl, Nat.min_eq_left (by omega)]
  rw [List.set_append_right _ _ (by omega), ht, Nat.sub_self, List.take_add_one, hy]
  obtain ⟨q, hq⟩ : ∃ q, 2 * l.length - m = q + 1 := ⟨2 * l.length - m - 1, by omega⟩
  rw [hq, show 2 * l.length - (m + 1) = q by omega, List.replicate_succ]
  simp
theorem dig_lo (k : Nat) (h : k ≤ 9) : ((hexDig k).toNat : Int) = 48 + (k : Int) := by
  have key : ∀ j : Fin 10, (hexDig j.val).toNat = 48 + j.val := by decide
  have := key ⟨k, by omega⟩
  simp only at this
  omega
theorem dig_hi (k : Nat) (h : 9 < k) (h2 : k < 16) : ((hexDig k).toNat : Int) = 97 + (k : Int) - 10 := by
  have key : ∀ j : Fin 16, 9 < j.val → (hexDig j.val).toNat = 87 + j.val := by decide
  have := key ⟨k, h2⟩ h
  simp only at this
  omega
theorem and15 (n : Nat) (h : n < 256) : bits .and .u8 (n : Int) 15 = ((n % 16 : Nat) : Int) := by
  have key : ∀ j : Fin 256, bits .and .u8 (j.val : Int) 15 = ((j.val % 16 : Nat) : Int) := by decide +kernel
  exact key ⟨n, h⟩

set_option maxRecDepth 100000 in
set_option maxHeartbeats 2000000 in
theorem ref_HexText (v : Value) (l : List UInt8) (w : World) (hl : RB w v l) (h : l.length ≤ 35184372088832) :
    Calls Tryz.prog 103 #[v] w fun e w' => e = .returned (.string (bstr (hexOf l))) ∧ Below w.heap.size w w' := by
  obtain ⟨i0, hi, hz0, hz1, hz2⟩ := info_parts info_u8
  obtain ⟨w1, hmk, how, hgr⟩ := run_make_full w w.heap.size 52 5 i0 (.int .u8 0) 1 Tryz.underlying52 hi hz0 hz1 .i64 .i64 (2 * l.length) (by rw [hz2]; omega) (by simp [maxLen]; omega) (Nat.le_refl _)
  have ho1 : OS 5 1 cU8 w1 w.heap.size (.slice (some ⟨w.heap.size, 0, none⟩) (2 * l.length) (2 * l.length)) (hexRow l 0) := by
    unfold OS
    rw [hexRow_zero, List.length_replicate]
    have e : (List.replicate (2 * l.length) (0 : UInt8)).flatMap cU8 = (madeCells (Value.int .u8 0).cells (2 * l.length * 1)).toList := by
      rw [Nat.mul_one, show (Value.int .u8 0).cells = #[.int .u8 0] from rfl, toList_madeCells_one]
      generalize 2 * l.length = n
      induction n with
      | zero => rfl
      | succ n ih => rw [List.replicate_succ, List.flatMap_cons, ih, List.replicate_succ]; rfl
    rw [e]
    exact how
  have hb1 : Below w.heap.size w w1 := b_grown (v := .slice none 0 0) (Below.refl _ _) hgr (fun k hk => by simp [Value.ownBlock] at hk)
  clear how hgr
  rw [show ((2 * l.length : Nat) : Int) = 2 * (l.length : Int) by omega] at hmk
  have hR := hl
  obtain ⟨a, c, rfl, hlc, hcm, hre, hno, _⟩ := hl
  unfold maxLen at hcm
  generalize hB : w.heap.size = B at *
  have hN : 2 * l.length ≤ 70368744177664 := by omega
  generalize hv1 : Value.slice (some ⟨B, 0, none⟩) (2 * l.length) (2 * l.length) = v1 at *
  obtain ⟨g0, hg0⟩ : ∃ cap, v1 = .slice (some ⟨B, 0, none⟩) (2 * l.length) cap := ⟨_, hv1.symm⟩
  subst hv1
  clear hg0 g0
  go_enter Tryz.func103, Tryz.ntmps103
  go_wp2_with fail
  go_loopw [4, 5, 12] (fun _ _ i wr => ∃ (m : Nat), i = .int .i64 (m : Int) ∧ m ≤ 2 * l.length ∧ OS 5 1 cU8 wr B (.slice (some ⟨B, 0, none⟩) (2 * l.length) (2 * l.length)) (hexRow l m) ∧ Below B w wr) (fun _ _ i _ => 2 * l.length - (intOf i).toNat)
  case atStart => exact ⟨0, rfl, by omega, ho1, hb1⟩
  case round =>
    obtain ⟨m, rfl, hm, hown, hb⟩ := hrel
    by_cases hlt : m < 2 * l.length
    · obtain ⟨b, off, c', hv, hbl, _, _, hc⟩ := RB.block hR (by omega)
      simp only [Value.slice.injEq] at hv
      obtain ⟨rfl, -, -⟩ := hv
      have c0 := cell_stays (hB ▸ hb) hbl (hc (m / 2) (by omega))
      have hat := hexOf_at l m hlt
      rw [List.getD_eq_getElem?_getD, List.getElem?_eq_getElem (show m / 2 < l.length by omega), Option.getD_some] at hat
      have hq := l[m / 2].toNat_lt
      have hset := hexRow_set l m hlt
      have hget := hexRow_get l m hlt
      have hlen := hexRow_len l m hm
      clear hc hR ho1 hb1 hmk
      generalize l[m / 2] = x0 at *
      obtain ⟨g, cap, hv, hg, hgs, hcell, hfr, hst⟩ := OS.cell1 hown (fun _ => rfl) m 0 hget
      rw [hlen] at hv
      simp only [Value.slice.injEq, Option.some.injEq, Addr.mk.injEq, and_true, true_and] at hv
      obtain ⟨rfl, -⟩ := hv
      simp only [cU8, List.getElem?_cons_zero] at hcell
      have hcell' : wr.cell? ⟨B, m, none⟩ = some (.int .u8 0) := hcell
      clear hcell hown
      have h1 : bits .and .i64 (m : Int) 1 = ((m % 2 : Nat) : Int) := and1 m (by omega)
      have h15 := and15 x0.toNat (by omega)
      by_cases hev : m % 2 = 0
      · rw [if_pos hev] at hat
        have q1 : (((m % 2 : Nat) : Int) == 1) = false := by simp; omega
        by_cases hdig : x0.toNat / 16 ≤ 9
        · have hd := dig_lo (x0.toNat / 16) hdig
          have hs := hst (hexDig (x0.toNat / 16)) (.int .u8 (48 + (x0.toNat : Int) / 16)) (by rw [cU8, hd]; congr 2)
          rw [hset _ hat] at hs
          have hb2 := b_set (hB ▸ hb) (p := ⟨B, m, none⟩) (hB ▸ hg) (.int .u8 (48 + (x0.toNat : Int) / 16))
          clear hst hset hat hd hget hlen hb
          go_wp2_with fail
          go_roundw
          case rel => exact ⟨m + 1, by go_num, by omega, hs, hB ▸ hb2⟩
          case measure => simp [intOf]; omega
        · have hd := dig_hi (x0.toNat / 16) (by omega) (by omega)
          have hs1 := hst (UInt8.ofNat (48 + x0.toNat / 16)) (.int .u8 (48 + (x0.toNat : Int) / 16)) (by rw [cU8, UInt8.toNat_ofNat']; congr 2; omega)
          have hb1 := b_set (hB ▸ hb) (p := ⟨B, m, none⟩) (hB ▸ hg) (.int .u8 (48 + (x0.toNat : Int) / 16))
          obtain ⟨g, cap, hv, hg, hgs1, hcell1, hfr1, hst1⟩ := OS.cell1 hs1 (fun _ => rfl) m _ (List.getElem?_set_self (by omega))
          rw [List.length_set, hlen] at hv
          simp only [Value.slice.injEq, Option.some.injEq, Addr.mk.injEq, and_true, true_and] at hv
          obtain ⟨rfl, -⟩ := hv
          have hs := hst1 (hexDig (x0.toNat / 16)) (.int .u8 (97 + (x0.toNat : Int) / 16 - 10)) (by rw [cU8, hd]; congr 2)
          rw [List.set_set, hset _ hat] at hs
          have hb2 := b_set hb1 (p := ⟨B, m, none⟩) (hB ▸ hg) (.int .u8 (97 + (x0.toNat : Int) / 16 - 10))
          clear hst hst1 hset hat hd hget hlen hb hs1 hcell1 hfr1 hgs1 hb1
          go_wp2_with fail
          go_roundw
          case rel => exact ⟨m + 1, by go_num, by omega, hs, hB ▸ hb2⟩
          case measure => simp [intOf]; omega
      · rw [if_neg hev] at hat
        have q1 : (((m % 2 : Nat) : Int) == 1) = true := by simp; omega
        by_cases hdig : x0.toNat % 16 ≤ 9
        · have hd := dig_lo (x0.toNat % 16) hdig
          have hs := hst (hexDig (x0.toNat % 16)) (.int .u8 (48 + (x0.toNat : Int) % 16)) (by rw [cU8, hd]; congr 2)
          rw [hset _ hat] at hs
          have hb2 := b_set (hB ▸ hb) (p := ⟨B, m, none⟩) (hB ▸ hg) (.int .u8 (48 + (x0.toNat : Int) % 16))
          clear hst hset hat hd hget hlen hb
          go_wp2_with fail
          go_roundw
          case rel => exact ⟨m + 1, by go_num, by omega, hs, hB ▸ hb2⟩
          case measure => simp [intOf]; omega
        · have hd := dig_hi (x0.toNat % 16) (by omega) (by omega)
          have hs1 := hst (UInt8.ofNat (48 + x0.toNat % 16)) (.int .u8 (48 + (x0.toNat : Int) % 16)) (by rw [cU8, UInt8.toNat_ofNat']; congr 2; omega)
          have hb1 := b_set (hB ▸ hb) (p := ⟨B, m, none⟩) (hB ▸ hg) (.int .u8 (48 + (x0.toNat : Int) % 16))
          obtain ⟨g, cap, hv, hg, hgs1, hcell1, hfr1, hst1⟩ := OS.cell1 hs1 (fun _ => rfl) m _ (List.getElem?_set_self (by omega))
          rw [List.length_set, hlen] at hv
          simp only [Value.slice.injEq, Option.some.injEq, Addr.mk.injEq, and_true, true_and] at hv
          obtain ⟨rfl, -⟩ := hv
          have hs := hst1 (hexDig (x0.toNat % 16)) (.int .u8 (97 + (x0.toNat : Int) % 16 - 10)) (by rw [cU8, hd]; congr 2)
          rw [List.set_set, hset _ hat] at hs
          have hb2 := b_set hb1 (p := ⟨B, m, none⟩) (hB ▸ hg) (.int .u8 (97 + (x0.toNat : Int) % 16 - 10))
          clear hst hst1 hset hat hd hget hlen hb hs1 hcell1 hfr1 hgs1 hb1
          go_wp2_with fail
          go_roundw
          case rel => exact ⟨m + 1, by go_num, by omega, hs, hB ▸ hb2⟩
          case measure => simp [intOf]; omega
    · obtain rfl : m = 2 * l.length := by omega
      rw [hexRow_all] at hown
      have hrd := reads_u8 hown (by rw [hexOf_len]; omega)
      have hcv := run_string_of 52 5 Tryz.underlying52 Tryz.underlying5 9 Tryz.underlying9 hrd
      clear hown hrd hR
      go_wp2_with fail
      go_ret
      exact ⟨rfl, hb⟩
end Go.Proofs.YtpcnhldlfmdlhaaGreatDoor

namespace Go.Proofs.YtpcnhldlfmdlhaaGreatDoor
open Go.RowKit

instance (s : ByteArray) : Decidable (AllHex s) := Nat.decidableBallLT s.size (fun k h => 0 ≤ hexv s[k])

/-- What is wrong with a digest. -/
def hexFault (s : ByteArray) : Int := if s.size = 64 then (if AllHex s then 0 else 3) else 1

theorem hexFault_zero {s : ByteArray} (h : hexFault s = 0) : s.size = 64 ∧ AllHex s := by
  unfold hexFault at h
  split at h
  · split at h
    · exact ⟨by assumption, by assumption⟩
    · cases h
  · cases h

theorem hex_Check_any (s : ByteArray) (w : World) (hs : s.size ≤ 140737488351232) :
    Calls Tryz.prog 35 #[.string s] w fun e w' => e = .returned (.int .i64 (hexFault s)) ∧ Below w.heap.size w w' := by
  by_cases h : s.size = 64
  · by_cases ha : AllHex s
    · have e1 : hexFault s = 0 := by unfold hexFault; rw [if_pos h, if_pos ha]
      rw [e1]; exact hex_Check s w h ha
    · have e1 : hexFault s = 3 := by unfold hexFault; rw [if_pos h, if_neg ha]
      rw [e1]; exact hex_Check_no s w h ha
  · have e1 : hexFault s = 1 := by unfold hexFault; rw [if_neg h]
    rw [e1]
    refine (hex_Check_size s w h hs).mono ?_
    rintro e w' ⟨rfl, rfl⟩
    exact ⟨rfl, Below.refl _ _⟩
theorem ref_HexFault_any (s : ByteArray) (w : World) (hs : s.size ≤ 140737488351232) :
    Calls Tryz.prog 44 #[.string s] w fun e w' => e = .returned (.int .i64 (hexFault s)) ∧ Below w.heap.size w w' := by
  by_cases h : s.size = 64
  · by_cases ha : AllHex s
    · have e1 : hexFault s = 0 := by unfold hexFault; rw [if_pos h, if_pos ha]
      rw [e1]; exact ref_HexFault s w h ha
    · have e1 : hexFault s = 3 := by unfold hexFault; rw [if_pos h, if_neg ha]
      rw [e1]; exact ref_HexFault_no s w h ha
  · have e1 : hexFault s = 1 := by unfold hexFault; rw [if_neg h]
    rw [e1]
    refine (ref_HexFault_size s w h hs).mono ?_
    rintro e w' ⟨rfl, rfl⟩
    exact ⟨rfl, Below.refl _ _⟩
end Go.Proofs.YtpcnhldlfmdlhaaGreatDoor

namespace Go.Proofs.YtpcnhldlfmdlhaaGreatDoor
open Go.RowKit

end Go.Proofs.YtpcnhldlfmdlhaaGreatDoor
