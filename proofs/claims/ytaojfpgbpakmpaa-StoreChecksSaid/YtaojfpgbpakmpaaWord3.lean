/-
  word.Words, word.Bytes and the reference's WordsOf, WordBytes: what each computes; the law WordBytes.
-/
import Derived.Test.YtaojfpgbpakmpaaW32
import Derived.Test.YtaojfpgbpakmpaaWire2
import Derived.BigQuiet
import Derived.Deep.QuietTactic
import Derived.Deep.RegionHeld3
import Derived.Deep.AppendLies
import Derived.WalkSpells
import Derived.StillTactics
import Derived.OwnWalk
namespace Go.Proofs.Ytaojfpgbpakmpaa
open Go.RowKit

def wordOf (a b c d : UInt8) : UInt32 := UInt32.ofNat (2 ^ 24 * a.toNat + (2 ^ 16 * b.toNat + (2 ^ 8 * c.toNat + d.toNat)))
theorem wordOf_nat (a b c d : UInt8) : (wordOf a b c d).toNat = 2 ^ 24 * a.toNat + (2 ^ 16 * b.toNat + (2 ^ 8 * c.toNat + d.toNat)) := by
  have := a.toNat_lt; have := b.toNat_lt; have := c.toNat_lt; have := d.toNat_lt
  unfold wordOf
  rw [UInt32.toNat_ofNat']
  omega
theorem word_or (a b c d : UInt8) : bits .or .u32 (bits .or .u32 (bits .or .u32 ((a.toNat : Int) * 16777216) ((b.toNat : Int) * 65536)) ((c.toNat : Int) * 256)) (d.toNat : Int) = ((wordOf a b c d).toNat : Int) := by
  have ha := a.toNat_lt; have hb := b.toNat_lt; have hc := c.toNat_lt; have hd := d.toNat_lt
  have e1 : ((a.toNat : Int) * 16777216) = ((a.toNat * 16777216 : Nat) : Int) := by omega
  have e2 : ((b.toNat : Int) * 65536) = ((b.toNat * 65536 : Nat) : Int) := by omega
  have e3 : ((c.toNat : Int) * 256) = ((c.toNat * 256 : Nat) : Int) := by omega
  have o1 : a.toNat * 16777216 ||| b.toNat * 65536 = a.toNat * 16777216 + b.toNat * 65536 := by
    rw [Nat.mul_comm a.toNat, show 16777216 = 2 ^ 24 from rfl, ← Nat.two_pow_add_eq_or_of_lt (by omega)]
  have o2 : (a.toNat * 16777216 + b.toNat * 65536) ||| c.toNat * 256 = a.toNat * 16777216 + b.toNat * 65536 + c.toNat * 256 := by
    rw [show a.toNat * 16777216 + b.toNat * 65536 = 2 ^ 16 * (a.toNat * 256 + b.toNat) by omega, ← Nat.two_pow_add_eq_or_of_lt (by omega)]
  have o3 : (a.toNat * 16777216 + b.toNat * 65536 + c.toNat * 256) ||| d.toNat = a.toNat * 16777216 + b.toNat * 65536 + c.toNat * 256 + d.toNat := by
    rw [show a.toNat * 16777216 + b.toNat * 65536 + c.toNat * 256 = 2 ^ 8 * (a.toNat * 65536 + b.toNat * 256 + c.toNat) by omega, ← Nat.two_pow_add_eq_or_of_lt (by omega)]
  rw [e1, e2, e3, u32_or_nat _ _ (by omega) (by omega), o1, u32_or_nat _ _ (by omega) (by omega), o2, u32_or_nat _ _ (by omega) (by omega), o3, wordOf_nat]
  omega

theorem word_or' (a b c d : UInt8) : bits .or .u32 (bits .or .u32 (bits .or .u32 (IntKind.u32.wrap (IntKind.u32.wrap (a.toNat : Int) * 16777216)) (IntKind.u32.wrap (IntKind.u32.wrap (b.toNat : Int) * 65536))) (IntKind.u32.wrap (IntKind.u32.wrap (c.toNat : Int) * 256))) (IntKind.u32.wrap (d.toNat : Int)) = ((wordOf a b c d).toNat : Int) := by
  have ha := a.toNat_lt; have hb := b.toNat_lt; have hc := c.toNat_lt; have hd := d.toNat_lt
  have key : ∀ n : Int, 0 ≤ n → n < 4294967296 → IntKind.u32.wrap n = n := fun n h0 h1 => IntWalk.u32_in _ (by omega)
  rw [key (a.toNat : Int) (by omega) (by omega), key (b.toNat : Int) (by omega) (by omega), key (c.toNat : Int) (by omega) (by omega), key (d.toNat : Int) (by omega) (by omega),
    key ((a.toNat : Int) * 16777216) (by omega) (by omega), key ((b.toNat : Int) * 65536) (by omega) (by omega), key ((c.toNat : Int) * 256) (by omega) (by omega)]
  exact word_or a b c d

theorem RB.block {w : World} {v : Value} {l : List UInt8} (h : RB w v l) (hne : 0 < l.length) : ∃ b off c, v = .slice (some ⟨b, off, none⟩) l.length c ∧ b < w.heap.size ∧ l.length ≤ c ∧ c ≤ maxLen ∧ ∀ k (hk : k < l.length), w.cell? ⟨b, off + k, none⟩ = some (.int .u8 (l[k].toNat : Int)) := by
  obtain ⟨a, c, rfl, hlc, hcm, hre, hno, hat⟩ := h
  obtain ⟨b, off, rfl, hlt, _⟩ := hat 0 _ (List.getElem?_eq_getElem hne)
  refine ⟨b, off, c, rfl, hlt, hlc, hcm, fun k hk => ?_⟩
  obtain ⟨b', off', hb, _, he⟩ := hat k _ (List.getElem?_eq_getElem hk)
  simp only [Option.some.injEq, Addr.mk.injEq, and_true] at hb
  obtain ⟨rfl, rfl⟩ := hb
  rw [Nat.mul_one] at he
  exact he

def wordAt (l : List UInt8) (k : Nat) : UInt32 := if h : 4 * k + 3 < l.length then wordOf l[4 * k] l[4 * k + 1] l[4 * k + 2] (l[4 * k + 3]'h) else 0
theorem wordAt_val (l : List UInt8) (k m : Nat) (hm : m = 4 * k) (h : m + 3 < l.length) : wordAt l k = wordOf l[m] l[m + 1] l[m + 2] l[m + 3] := by
  subst hm
  unfold wordAt
  rw [dif_pos h]
def wordsDec (l : List UInt8) (k : Nat) : List UInt32 := (List.range k).map (wordAt l)
theorem wordsDec_len (l : List UInt8) (k : Nat) : (wordsDec l k).length = k := by simp [wordsDec]
theorem wordsDec_snoc (l : List UInt8) (k : Nat) : wordsDec l (k + 1) = wordsDec l k ++ [wordAt l k] := by simp [wordsDec, List.range_succ]
theorem info_u32 : (Try.prog.info? 209).map (fun i => (i.zero, i.size, i.bytes)) = some (some (.int .u32 0), 1, 4) := by kernel_rfl

set_option maxRecDepth 100000 in
set_option maxHeartbeats 1000000 in
theorem word_Words (v : Value) (l : List UInt8) (w : World) (hl : RB w v l) (h : l.length ≤ 2072) (h2 : l.length % 4 = 0) :
    Calls Try.prog 192 #[v] w fun e w' => ∃ v', e = .returned (.tuple #[v', .int .i64 0]) ∧ OS 209 1 cU32 w' w.heap.size v' (wordsDec l (l.length / 4)) ∧ Below w.heap.size w w' := by
  obtain ⟨i0, hi, hz0, hz1, hz2⟩ := info_parts info_u32
  obtain ⟨w1, hmk, how, hgr⟩ := run_make_own w w.heap.size 203 209 i0 (.int .u32 0) 1 Try.underlying203 hi hz0 hz1 .i64 .i64 (l.length / 4) (by rw [hz2]; omega) (by simp [maxLen]; omega) (Nat.le_refl _)
  have ho1 : OS 209 1 cU32 w1 w.heap.size (.slice (some ⟨w.heap.size, 0, none⟩) 0 (l.length / 4)) [] := how
  rw [Int.natCast_ediv] at hmk
  simp only [Int.cast_ofNat_Int] at hmk
  have hb1 : Below w.heap.size w w1 := b_grown (v := .slice none 0 0) (Below.refl _ _) hgr (fun k hk => by simp [Value.ownBlock] at hk)
  clear how hgr
  have q2 : ((l.length : Int) % 4 != 0) = false := by simp; omega
  have q4 : decide (2072 < (l.length : Int)) = false := by simp; omega
  have hR := hl
  obtain ⟨a, c, rfl, hlc, hcm, hre, hno, _⟩ := hl
  unfold maxLen at hcm
  generalize hB : w.heap.size = B at *
  generalize Value.slice (some ⟨B, 0, none⟩) 0 (l.length / 4) = v1 at *
  go_enter Try.func192, Try.ntmps192
  go_wp2_with fail
  go_loopw [4, 5] (fun v i wr => ∃ (m : Nat), i = .int .i64 (m : Int) ∧ m % 4 = 0 ∧ m ≤ l.length ∧ OS 209 1 cU32 wr B v (wordsDec l (m / 4)) ∧ Below B w wr) (fun _ i _ => l.length - (intOf i).toNat)
  case atStart => exact ⟨0, rfl, rfl, by omega, ho1, hb1⟩
  case round =>
    obtain ⟨m, rfl, hm, hk, hown, hb⟩ := hrel
    by_cases hlt : m < l.length
    · have hlt3 : m + 3 < l.length := by omega
      obtain ⟨b, off, c', hv, hbl, _, _, hc⟩ := RB.block hR (by omega)
      simp only [Value.slice.injEq] at hv
      obtain ⟨rfl, -, -⟩ := hv
      have c0 := cell_stays (hB ▸ hb) hbl (hc m hlt)
      have c1 := cell_stays (hB ▸ hb) hbl (hc (m + 1) (by omega))
      have c2 := cell_stays (hB ▸ hb) hbl (hc (m + 2) (by omega))
      have c3 := cell_stays (hB ▸ hb) hbl (hc (m + 3) hlt3)
      have hwa := hid (wordAt_val l (m / 4) m (by omega) hlt3)
      clear hc hR
      generalize l[m] = x0 at *
      generalize l[m + 1] = x1 at *
      generalize l[m + 2] = x2 at *
      generalize l[m + 3] = x3 at *
      have hwo := word_or' x0 x1 x2 x3
      have r0 := x0.toNat_lt; have r1 := x1.toNat_lt; have r2 := x2.toNat_lt; have r3 := x3.toNat_lt
      have hs := hb.size
      replace hm := hid hm
      have w1 : IntKind.i64.wrap ((m : Int) + 1) = (m : Int) + 1 := IntWalk.i64_in _ (by omega)
      have w2 : IntKind.i64.wrap ((m : Int) + 2) = (m : Int) + 2 := IntWalk.i64_in _ (by omega)
      have w3 : IntKind.i64.wrap ((m : Int) + 3) = (m : Int) + 3 := IntWalk.i64_in _ (by omega)
      have g0 : (0 : Int) ≤ (m : Int) ∧ (m : Int) < (l.length : Int) := by omega
      have g1 : (0 : Int) ≤ (m : Int) + 1 ∧ (m : Int) + 1 < (l.length : Int) := by omega
      have g2 : (0 : Int) ≤ (m : Int) + 2 ∧ (m : Int) + 2 < (l.length : Int) := by omega
      have g3 : (0 : Int) ≤ (m : Int) + 3 ∧ (m : Int) + 3 < (l.length : Int) := by omega
      have n2 : ((m : Int) + 2).toNat = m + 2 := by omega
      have n3 : ((m : Int) + 3).toNat = m + 3 := by omega
      have hne : u4.ownBlock ≠ some b := fun h => by have := OS.block hown b h; omega
      have hlen := wordsDec_len l (m / 4)
      have ho : wr.ownsRow B 209 1 u4 (wordsDec l (m / 4)).length ((wordsDec l (m / 4)).flatMap cU32) := hown
      rw [hlen] at ho
      go_wp2_with fail
      go_region_held3 (fun w' => w'.cell? ⟨b, off + m, none⟩ = some (.int .u8 (x0.toNat : Int)) ∧ w'.cell? ⟨b, off + (m + 1), none⟩ = some (.int .u8 (x1.toNat : Int)) ∧ w'.cell? ⟨b, off + (m + 2), none⟩ = some (.int .u8 (x2.toNat : Int)) ∧ w'.cell? ⟨b, off + (m + 3), none⟩ = some (.int .u8 (x3.toNat : Int)))
        (first
          | go_keep
          | (go_split_ands
             refine ⟨?_, ?_, ?_, ?_⟩
             all_goals (rw [hgrow.cell_far _ (by simp; omega) (Ne.symm hne)]; assumption)))
        ((refine step_append_lies _ (by rfl) _ _ _ (by rfl) B 209 i0 _ 1 4 Try.underlying203 hi hz0 hz1 hz2 rfl (by omega) u4 (m / 4) ((wordsDec l (m / 4)).flatMap cU32) (by rfl) ((ho.alloc _).drew)
              ⟨wr.heap.size, 0, none⟩ 1 1 [.int .u32 ((wordOf x0 x1 x2 x3).toNat : Int)] (by rfl) (by rfl) (World.news_of_block (cs := #[.int .u32 ((wordOf x0 x1 x2 x3).toNat : Int)]) (t := 209) (fr := (0, 0)) (heap_alloc_new wr _)) (by simp [Value.oneCell'])
              (by omega) (by simp [maxLen]; omega) (by omega) (by simp; omega) (wr.heap.size + 1) (by simp) ?_; intro gg cap w1 hown1 hgrow hat hlt))
      rename_i hHeld
      have ho2 : OS 209 1 cU32 w1 B (.slice (some ⟨gg, 0, none⟩) (m / 4 + 1) cap) (wordsDec l (m / 4 + 1)) := by
        unfold OS
        rw [wordsDec_len, wordsDec_snoc, hwa.out, List.flatMap_append]
        exact hown1
      have hb2 := b_grown (v := u4) (Below.drew (b_alloc (hB ▸ hb) _)) hgrow (hB ▸ OS.block hown)
      clear hgrow hb hown hown1 ho hwo hne hHeld
      go_wp2_with fail
      go_roundw
      case rel => exact ⟨m + 4, by go_num, by have := hm.out; omega, by have := hm.out; omega, by rw [show (m + 4) / 4 = m / 4 + 1 by omega]; exact ho2, hB ▸ hb2⟩
      case measure => simp [intOf]; omega
    · go_wp2_with fail
      go_ret2
      obtain rfl : m = l.length := by omega
      exact ⟨_, rfl, hown, hb⟩

set_option maxRecDepth 100000 in
theorem word_Words_size (v : Value) (l : List UInt8) (w : World) (hl : RB w v l) (h : 2072 < l.length) :
    Calls Try.prog 192 #[v] w fun e w' => e = .returned (.tuple #[.slice none 0 0, .int .i64 1]) ∧ w = w' := by
  obtain ⟨a, c, rfl, hlc, hcm, hre, hno, _⟩ := hl
  go_enter Try.func192, Try.ntmps192
  go_wp2_with fail
  go_ret2
  exact ⟨rfl, rfl⟩

set_option maxRecDepth 100000 in
theorem word_Words_odd (v : Value) (l : List UInt8) (w : World) (hl : RB w v l) (h : l.length ≤ 2072) (h2 : l.length % 4 ≠ 0) :
    Calls Try.prog 192 #[v] w fun e w' => e = .returned (.tuple #[.slice none 0 0, .int .i64 3]) ∧ w = w' := by
  obtain ⟨a, c, rfl, hlc, hcm, hre, hno, _⟩ := hl
  have q2 : ((l.length : Int) % 4 != 0) = true := by simp; omega
  go_enter Try.func192, Try.ntmps192
  go_wp2_with fail
  go_ret2
  exact ⟨rfl, rfl⟩
end Go.Proofs.Ytaojfpgbpakmpaa
