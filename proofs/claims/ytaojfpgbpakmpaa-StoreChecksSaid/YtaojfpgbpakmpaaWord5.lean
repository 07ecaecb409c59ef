/-
  word.Bytes and the reference's WordBytes: what they compute; the law WordBytes.
-/
import Derived.Test.YtaojfpgbpakmpaaWord4
namespace Go.Proofs.Ytaojfpgbpakmpaa
open Go.RowKit

theorem lit_u8 (w : World) (t : TypeId) (cs : Array Value) (m : List UInt8) (h : cs.toList = m.map fun x => Value.int .u8 (x.toNat : Int)) (k n : Nat) (hk : k = w.heap.size) (hn : n = m.length) (hb : n ≤ 140737488351232) : RB (w.alloc (.cells cs t)) (.slice (some ⟨k, 0, none⟩) n n) m := by
  subst hk hn
  refine ⟨_, _, rfl, Nat.le_refl _, by simp [maxLen]; omega, by omega, fun h => by simp at h, fun j x hj => ⟨w.heap.size, 0, rfl, by simp, ?_⟩⟩
  have e : (w.alloc (.cells cs t)).heap[w.heap.size]? = some (.cells cs t) := heap_alloc_new w _
  unfold EU8
  rw [cell_of_row _ _ _ _ _ _ e, ← Array.getElem?_toList, h, Nat.mul_one, Nat.zero_add, List.getElem?_map, hj]
  rfl

def bw (x : UInt32) : List UInt8 := [UInt8.ofNat (x.toNat / 16777216), UInt8.ofNat (x.toNat / 65536), UInt8.ofNat (x.toNat / 256), UInt8.ofNat x.toNat]
def bytesW (l : List UInt32) : List UInt8 := l.flatMap bw
theorem bytesW_len (l : List UInt32) : (bytesW l).length = 4 * l.length := by
  unfold bytesW
  induction l with
  | nil => rfl
  | cons x l ih => rw [List.flatMap_cons, List.length_append, ih, List.length_cons]; simp [bw]; omega
theorem bytesW_snoc (l : List UInt32) (k : Nat) (h : k < l.length) : bytesW (l.take (k + 1)) = bytesW (l.take k) ++ bw l[k] := by
  unfold bytesW
  rw [List.take_succ_eq_append_getElem h, List.flatMap_append]
  simp
theorem bw_cells (x : UInt32) : [Value.int .u8 ((x.toNat : Int) / 16777216), .int .u8 ((x.toNat : Int) / 65536 % 256), .int .u8 ((x.toNat : Int) / 256 % 256), .int .u8 ((x.toNat : Int) % 256)] = (bw x).map fun x => Value.int .u8 (x.toNat : Int) := by
  have h : ∀ n : Nat, ((n : Int) % 256) = ((UInt8.ofNat n).toNat : Int) := fun n => by rw [UInt8.toNat_ofNat']; omega
  have hx := x.toNat_lt
  have h0 : ((x.toNat : Int) / 16777216) = ((x.toNat / 16777216 : Nat) : Int) % 256 := by omega
  simp only [bw, List.map_cons, List.map_nil]
  rw [← h, ← h, ← h, ← h, h0]
  rfl

theorem RW.block {w : World} {v : Value} {l : List UInt32} (h : RW w v l) (hne : 0 < l.length) : ∃ b off c, v = .slice (some ⟨b, off, none⟩) l.length c ∧ b < w.heap.size ∧ l.length ≤ c ∧ c ≤ maxLen ∧ ∀ k (hk : k < l.length), w.cell? ⟨b, off + k, none⟩ = some (.int .u32 (l[k].toNat : Int)) := by
  obtain ⟨a, c, rfl, hlc, hcm, hre, hno, hat⟩ := h
  obtain ⟨b, off, rfl, hlt, _⟩ := hat 0 _ (List.getElem?_eq_getElem hne)
  refine ⟨b, off, c, rfl, hlt, hlc, hcm, fun k hk => ?_⟩
  obtain ⟨b', off', hb, _, he⟩ := hat k _ (List.getElem?_eq_getElem hk)
  simp only [Option.some.injEq, Addr.mk.injEq, and_true] at hb
  obtain ⟨rfl, rfl⟩ := hb
  rw [Nat.mul_one] at he
  exact he

set_option maxRecDepth 100000 in
set_option maxHeartbeats 1000000 in
theorem word_Bytes (v : Value) (l : List UInt32) (w : World) (hl : RW w v l) (h : l.length ≤ 2000) :
    Calls Try.prog 195 #[v] w fun e w' => ∃ v', e = .returned (.tuple #[v', .int .i64 0]) ∧ OS 5 1 cU8 w' w.heap.size v' (bytesW l) ∧ Below w.heap.size w w' := by
  obtain ⟨i0, hi, hz0, hz1, hz2⟩ := info_parts info_u8
  obtain ⟨w1, hmk, how, hgr⟩ := run_make_own w w.heap.size 38 5 i0 (.int .u8 0) 1 Try.underlying38 hi hz0 hz1 .i64 .i64 (4 * l.length) (by rw [hz2]; omega) (by simp [maxLen]; omega) (Nat.le_refl _)
  have ho1 : OS 5 1 cU8 w1 w.heap.size (.slice (some ⟨w.heap.size, 0, none⟩) 0 (4 * l.length)) [] := how
  rw [Int.natCast_mul] at hmk
  simp only [Int.cast_ofNat_Int] at hmk
  have hb1 : Below w.heap.size w w1 := b_grown (v := .slice none 0 0) (Below.refl _ _) hgr (fun k hk => by simp [Value.ownBlock] at hk)
  clear how hgr
  have q4 : decide (2000 < (l.length : Int)) = false := by simp; omega
  have hR := hl
  obtain ⟨a, c, rfl, hlc, hcm, hre, hno, _⟩ := hl
  unfold maxLen at hcm
  generalize hB : w.heap.size = B at *
  generalize Value.slice (some ⟨B, 0, none⟩) 0 (4 * l.length) = v1 at *
  go_enter Try.func195, Try.ntmps195
  go_wp2_with fail
  go_loopw [4, 16] (fun v i wr => ∃ (k : Nat), i = .int .i64 (k : Int) ∧ k ≤ l.length ∧ OS 5 1 cU8 wr B v (bytesW (l.take k)) ∧ Below B w wr) (fun _ i _ => l.length - (intOf i).toNat)
  case atStart => exact ⟨0, rfl, by omega, ho1, hb1⟩
  case round =>
    obtain ⟨k, rfl, hk, hown, hb⟩ := hrel
    by_cases hlt : k < l.length
    · obtain ⟨b, off, c', hv, hbl, _, _, hc⟩ := RW.block hR (by omega)
      simp only [Value.slice.injEq] at hv
      obtain ⟨rfl, -, -⟩ := hv
      have c0 := cell_stays (hB ▸ hb) hbl (hc k hlt)
      have hs := hb.size
      have r0 := l[k].toNat_lt
      have hsn := hid (bytesW_snoc l k hlt)
      have hlen := bytesW_len (l.take k)
      rw [List.length_take, Nat.min_eq_left hk] at hlen
      clear hc hR
      generalize l[k] = x0 at *
      go_wp2_with (at_builtin; go_must (refine wpL_append flat_u8 rfl (.tmp 20) (.tmp 32) 38 rfl 5 i0 (.int .u8 0) Try.underlying38 hi hz0 hz1 hz2 rfl B _ (bytesW (l.take k)) rfl (OS.alloc hown _) _ (bw x0) rfl (lit_u8 _ _ _ _ (bw_cells x0) _ 4 (by first | rfl | simp) rfl (by decide)) ?c1 ?c2 ?c3 ?_))
      case c1 => rw [hlen]; simp [bw]; omega
      case c2 => rw [hlen]; simp [bw, maxLen]; omega
      case c3 => simp; omega
      intro v' w2 hown1 hgr
      rw [← hsn.out] at hown1
      have hb2 := b_grown (b_alloc (hB ▸ hb) _) hgr (hB ▸ OS.block hown)
      clear hgr hb hown c0
      go_wp2_with fail
      go_roundw
      case rel => exact ⟨k + 1, by go_num, by omega, hown1, hB ▸ hb2⟩
      case measure => simp [intOf]; omega
    · go_wp2_with fail
      go_ret2
      obtain rfl : k = l.length := by omega
      rw [List.take_length] at hown
      exact ⟨_, rfl, hown, hb⟩

set_option maxRecDepth 100000 in
theorem word_Bytes_size (v : Value) (l : List UInt32) (w : World) (hl : RW w v l) (h : 2000 < l.length) :
    Calls Try.prog 195 #[v] w fun e w' => e = .returned (.tuple #[.slice none 0 0, .int .i64 1]) ∧ w = w' := by
  obtain ⟨a, c, rfl, hlc, hcm, hre, hno, _⟩ := hl
  go_enter Try.func195, Try.ntmps195
  go_wp2_with fail
  go_ret2
  exact ⟨rfl, rfl⟩

set_option maxRecDepth 100000 in
theorem ref_WordBytes_size (v : Value) (l : List UInt32) (w : World) (hl : RW w v l) (h : 2000 < l.length) :
    Calls Try.prog 200 #[v] w fun e w' => e = .returned (.tuple #[.slice none 0 0, .int .i64 1]) ∧ w = w' := by
  obtain ⟨a, c, rfl, hlc, hcm, hre, hno, _⟩ := hl
  go_enter Try.func200, Try.ntmps200
  go_wp2_with fail
  go_ret2
  exact ⟨rfl, rfl⟩
end Go.Proofs.Ytaojfpgbpakmpaa
