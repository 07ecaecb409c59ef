/-
  The reference's ShaPad; sha.Start and the reference's ShaStart; the law ShaPads: its walk.
-/
import Derived.Test.YtaojfpgbpakmpaaPad
import Derived.Test.YtaojfpgbpakmpaaRoots
import Derived.Test.YtaojfpgbpakmpaaSame
namespace Go.Proofs.Ytaojfpgbpakmpaa
open Go.RowKit

set_option maxRecDepth 100000 in
theorem sha_Pad_no (v : Value) (l : List UInt8) (w : World) (hl : RB w v l) (h : 2000 < l.length) :
    Calls Try.prog 191 #[v] w fun e w' => e = .returned (.tuple #[.slice none 0 0, .int .i64 1]) ∧ w = w' := by
  obtain ⟨a, c, rfl, hlc, hcm, hre, hno, _⟩ := hl
  go_enter Try.func191, Try.ntmps191
  go_wp2_with fail
  go_ret2
  exact ⟨rfl, rfl⟩
set_option maxRecDepth 100000 in
theorem ref_ShaPad_no (v : Value) (l : List UInt8) (w : World) (hl : RB w v l) (h : 2000 < l.length) :
    Calls Try.prog 196 #[v] w fun e w' => e = .returned (.tuple #[.slice none 0 0, .int .i64 1]) ∧ w = w' := by
  obtain ⟨a, c, rfl, hlc, hcm, hre, hno, _⟩ := hl
  go_enter Try.func196, Try.ntmps196
  go_wp2_with fail
  go_ret2
  exact ⟨rfl, rfl⟩
theorem sha_Pad (v : Value) (l : List UInt8) (w : World) (hl : RB w v l) :
    Calls Try.prog 191 #[v] w fun e w' => ∃ v', e = .returned (.tuple #[v', .int .i64 (padErr l)]) ∧ RB w' v' (padOut l) ∧ Below w.heap.size w w' := by
  by_cases h : 2000 < l.length
  · refine (sha_Pad_no v l w hl h).mono ?_
    rintro e w' ⟨rfl, rfl⟩
    exact ⟨_, by rw [padErr, if_pos h], by rw [padOut, if_pos h]; exact RS.nil, Below.refl _ _⟩
  · refine (sha_Pad_ok v l w hl (by omega)).mono ?_
    rintro e w' ⟨v', rfl, ho, hb⟩
    exact ⟨_, by rw [padErr, if_neg h], by rw [padOut, if_neg h]; exact reads_u8 ho (by rw [padRes_len]; have := padZ_lt l.length; omega), hb⟩

/-- A new block of bytes. -/
theorem lit8 (w : World) (t : TypeId) (cs : Array Value) (l : List UInt8) (k n : Nat) (hk : k = w.heap.size) (h : cs.toList = l.flatMap cU8) (hn : n = l.length) (hm : l.length ≤ 140737488351232) : RB (w.alloc (.cells cs t)) (.slice (some ⟨k, 0, none⟩) n n) l := by
  subst hk hn
  refine ⟨_, _, rfl, Nat.le_refl _, by simp [maxLen]; omega, by omega, fun h => by simp at h, fun j x hj => ⟨w.heap.size, 0, rfl, by simp, ?_⟩⟩
  unfold EU8
  rw [cell_of_row _ _ _ cs t (0, 0) (heap_alloc_new w _), ← Array.getElem?_toList, h, flat_get (cells := cU8) (fun _ => rfl) (by decide)]
  simp [hj, cU8, Nat.mod_one]
theorem lit32 (w : World) (t : TypeId) (cs : Array Value) (l : List UInt32) (k n : Nat) (hk : k = w.heap.size) (h : cs.toList = l.flatMap cU32) (hn : n = l.length) (hm : l.length ≤ 35184372087808) : RW (w.alloc (.cells cs t)) (.slice (some ⟨k, 0, none⟩) n n) l := by
  subst hk hn
  refine ⟨_, _, rfl, Nat.le_refl _, by simp [maxLen]; omega, by omega, fun h => by simp at h, fun j x hj => ⟨w.heap.size, 0, rfl, by simp, ?_⟩⟩
  unfold EU32
  rw [cell_of_row _ _ _ cs t (0, 0) (heap_alloc_new w _), ← Array.getElem?_toList, h, flat_get (cells := cU32) (fun _ => rfl) (by decide)]
  simp [hj, cU32, Nat.mod_one]

set_option maxRecDepth 100000 in
set_option maxHeartbeats 2000000 in
theorem ref_ShaPad_ok (v : Value) (l : List UInt8) (w : World) (hl : RB w v l) (h : l.length ≤ 2000) :
    Calls Try.prog 196 #[v] w fun e w' => ∃ v', e = .returned (.tuple #[v', .int .i64 0]) ∧ OS 5 1 cU8 w' w.heap.size v' (padRes l) ∧ Below w.heap.size w w' := by
  obtain ⟨i0, hi, hz0, hz1, hz2⟩ := info_parts info_u8
  have hR := hl
  obtain ⟨a, c, rfl, hlc, hcm, hre, hno, _⟩ := hl
  unfold maxLen at hcm
  have hpz := padZ_lt l.length
  go_enter Try.func196, Try.ntmps196
  go_wp2_with (at_builtin; go_must (refine wpL_append flat_u8 rfl (.tmp 9) (.tmp 10) 38 rfl 5 i0 (.int .u8 0) Try.underlying38 hi hz0 hz1 hz2 rfl w.heap.size _ [] rfl (os_empty _ _ _ _ (by first | rfl | simp) (by simp)) _ l rfl (hR.mono EU8.stable (b_alloc (Below.refl _ _) _)) ?c1 ?c2 ?c3 ?_))
  case c1 => simp; omega
  case c2 => simp [maxLen]; omega
  case c3 => simp
  intro v1 w1 own1 hgr
  have b1 := b_grown (b_alloc (Below.refl _ w) _) hgr (fun k hk => by simp [Value.ownBlock] at hk; omega)
  have own1 : OS 5 1 cU8 w1 w.heap.size v1 l := by simpa using own1
  clear hgr
  have s1 := b1.size
  go_wp2_with (at_builtin; go_must (refine wpL_append flat_u8 rfl (.tmp 11) (.tmp 12) 38 rfl 5 i0 (.int .u8 0) Try.underlying38 hi hz0 hz1 hz2 rfl w.heap.size _ l rfl (OS.alloc own1 _) _ [128] rfl (one_u8 _ _ _ _ _ (by first | rfl | simp) rfl) ?c1 ?c2 ?c3 ?_))
  case c1 => simp; omega
  case c2 => simp [maxLen]; omega
  case c3 => simp; omega
  intro v2 w2 own2 hgr
  have b2 := b_grown (b_alloc b1 _) hgr (OS.block own1)
  have own2 : OS 5 1 cU8 w2 w.heap.size v2 (padZs l 0) := by simpa [padZs] using own2
  clear hgr own1 b1 s1
  go_wp2_with fail
  go_loopw [4] (fun v wr => ∃ z : Nat, z ≤ padZ l.length ∧ OS 5 1 cU8 wr w.heap.size v (padZs l z) ∧ Below w.heap.size w wr) (fun v _ => 4000 - (match v with | .slice _ n _ => n | _ => 0))
  case atStart => exact ⟨0, by omega, own2, b2⟩
  case round =>
    obtain ⟨z, hz, hown, hb⟩ := hrel
    obtain ⟨ad, cp, rfl, hlcp, hcpm, hno2⟩ := OS.len_le hown
    have hlz := padZs_len l z
    unfold maxLen at hcpm
    have hs := hb.size
    by_cases hlt : z < padZ l.length
    · have hne := padZ_least l.length z hlt
      have hln : (padZs l z).length ≤ 2100 := by rw [hlz]; omega
      have q1 : ((((padZs l z).length : Int) + 8) % 64 != 0) = true := by rw [hlz]; simp; omega
      have hsn := hid (padZs_snoc l z)
      replace hlz := hid hlz
      clear hne
      go_wp2_with (at_builtin; go_must (refine wpL_append flat_u8 rfl (.tmp 19) (.tmp 20) 38 rfl 5 i0 (.int .u8 0) Try.underlying38 hi hz0 hz1 hz2 rfl w.heap.size _ (padZs l z) rfl (OS.alloc hown _) _ [0] rfl (one_u8 _ _ _ _ _ (by first | rfl | simp) rfl) ?c1 ?c2 ?c3 ?_))
      case c1 => simp; omega
      case c2 => simp [maxLen]; omega
      case c3 => simp; omega
      intro v' w3 hown1 hgr
      have hb2 := b_grown (b_alloc hb _) hgr (OS.block hown)
      rw [hsn.out] at hown1
      clear hgr hb hown
      obtain ⟨ad2, cp2, rfl, -⟩ := id (OS.len_le hown1)
      have hl2 := hid (padZs_len l (z + 1))
      go_wp2_with fail
      go_roundw
      case rel => exact ⟨z + 1, by omega, hown1, hb2⟩
      case measure => have := hl2.out; have := hlz.out; simp; omega
    · obtain rfl : z = padZ l.length := by omega
      have hsp := padZ_spec l.length
      have hln : (padZs l (padZ l.length)).length ≤ 2100 := by omega
      have q1 : ((((padZs l (padZ l.length)).length : Int) + 8) % 64 != 0) = false := by rw [hlz]; simp; omega
      clear hsp
      replace hlz := hid hlz
      have ev : ∀ k, be (8 * l.length) k = be (8 * l.length) k := fun _ => rfl
      go_wp2_with (at_builtin; go_must (refine wpL_append flat_u8 rfl (.tmp 25) (.tmp 37) 38 rfl 5 i0 (.int .u8 0) Try.underlying38 hi hz0 hz1 hz2 rfl w.heap.size _ (padZs l (padZ l.length)) rfl (OS.alloc hown _) _ (be8 (8 * l.length)) rfl (lit8 _ _ _ _ _ _ (by first | rfl | simp) ?c0 rfl (by show 8 ≤ 140737488351232; decide)) ?c1 ?c2 ?c3 ?_))
      case c0 =>
        simp only [be8, List.flatMap_cons, List.flatMap_nil, cU8, be_val, List.cons_append, List.nil_append]
        simp
        omega
      case c1 => show _ + 8 ≤ _; omega
      case c2 => show _ + 8 ≤ maxLen; simp [maxLen]; omega
      case c3 => first | omega | (simp; omega)
      intro v5 w5 own5 hgr
      have b5 := b_grown (b_alloc hb _) hgr (OS.block hown)
      clear hgr
      go_wp2_with fail
      go_ret2
      exact ⟨_, rfl, own5, b5⟩
theorem ref_ShaPad (v : Value) (l : List UInt8) (w : World) (hl : RB w v l) :
    Calls Try.prog 196 #[v] w fun e w' => ∃ v', e = .returned (.tuple #[v', .int .i64 (padErr l)]) ∧ RB w' v' (padOut l) ∧ Below w.heap.size w w' := by
  by_cases h : 2000 < l.length
  · refine (ref_ShaPad_no v l w hl h).mono ?_
    rintro e w' ⟨rfl, rfl⟩
    exact ⟨_, by rw [padErr, if_pos h], by rw [padOut, if_pos h]; exact RS.nil, Below.refl _ _⟩
  · refine (ref_ShaPad_ok v l w hl (by omega)).mono ?_
    rintro e w' ⟨v', rfl, ho, hb⟩
    exact ⟨_, by rw [padErr, if_neg h], by rw [padOut, if_neg h]; exact reads_u8 ho (by rw [padRes_len]; have := padZ_lt l.length; omega), hb⟩

def startW : List UInt32 := [0x6a09e667, 0xbb67ae85, 0x3c6ef372, 0xa54ff53a, 0x510e527f, 0x9b05688c, 0x1f83d9ab, 0x5be0cd19]
set_option maxRecDepth 100000 in
theorem roots_start : rootsRest 8 false 20 2 [] = startW := by decide +kernel

set_option maxRecDepth 100000 in
theorem sha_Start (w : World) : Calls Try.prog 193 #[] w fun e w' => ∃ v, e = .returned v ∧ RW w' v startW ∧ Below w.heap.size w w' := by
  go_enter Try.func193, Try.ntmps193
  go_wp2_with fail
  go_ret
  exact ⟨_, rfl, lit32 _ _ _ _ _ _ rfl rfl rfl (by decide), b_alloc (Below.refl _ _) _⟩
end Go.Proofs.Ytaojfpgbpakmpaa
