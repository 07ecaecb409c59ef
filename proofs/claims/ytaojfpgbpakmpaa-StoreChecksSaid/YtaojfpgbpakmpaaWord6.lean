/-
  The reference's WordBytes: what it computes; the law WordBytes.
-/
import Derived.Test.YtaojfpgbpakmpaaWord5
import Derived.Test.YtaojfpgbpakmpaaOwn2
import Derived.LoopN
namespace Go.Proofs.Ytaojfpgbpakmpaa
open Go.RowKit

def Units (ub : Nat) (W : World) (v : Value) : Prop := ub < W.heap.size ∧ v.ownBlock ≠ some ub ∧ W.cell? ⟨ub, 0, none⟩ = some (.int .u32 16777216) ∧ W.cell? ⟨ub, 1, none⟩ = some (.int .u32 65536) ∧ W.cell? ⟨ub, 2, none⟩ = some (.int .u32 256) ∧ W.cell? ⟨ub, 3, none⟩ = some (.int .u32 1)
theorem Units.step {ub : Nat} {W W' : World} {v v' : Value} (h : Units ub W v) (o : Obj) (hgr : (W.alloc o).grownBy W' v.ownBlock) (hpl : v'.ownBlock = v.ownBlock ∨ v'.ownBlock = some (W.heap.size + 1)) : Units ub W' v' := by
  obtain ⟨h1, h2, c0, c1, c2, c3⟩ := h
  have hs : (W.alloc o).heap.size = W.heap.size + 1 := by simp
  have hlt : ub < (W.alloc o).heap.size := by omega
  have hb : Below W.heap.size W (W.alloc o) := b_alloc (Below.refl _ _) o
  have far : ∀ j u, W.cell? ⟨ub, j, none⟩ = some u → W'.cell? ⟨ub, j, none⟩ = some u := fun j u hu => by
    rw [hgr.cell_far ⟨ub, j, none⟩ hlt (Ne.symm h2)]
    exact cell_stays hb h1 hu
  refine ⟨Nat.lt_of_lt_of_le hlt hgr.size, ?_, far _ _ c0, far _ _ c1, far _ _ c2, far _ _ c3⟩
  rcases hpl with e | e
  · rw [e]; exact h2
  · rw [e]; simp only [ne_eq, Option.some.injEq]; omega

set_option maxRecDepth 100000 in
set_option maxHeartbeats 2000000 in
theorem ref_WordBytes (v : Value) (l : List UInt32) (w : World) (hl : RW w v l) (h : l.length ≤ 2000) :
    Calls Try.prog 200 #[v] w fun e w' => ∃ v', e = .returned (.tuple #[v', .int .i64 0]) ∧ OS 5 1 cU8 w' w.heap.size v' (bytesW l) ∧ Below w.heap.size w w' := by
  obtain ⟨i0, hi, hz0, hz1, hz2⟩ := info_parts info_u8
  have q4 : decide (2000 < (l.length : Int)) = false := by simp; omega
  have hR := hl
  obtain ⟨a, c, rfl, hlc, hcm, hre, hno, _⟩ := hl
  unfold maxLen at hcm
  go_enter Try.func200, Try.ntmps200
  go_wp2_with fail
  go_loopw [4, 14] (fun v i wr => ∃ (k : Nat), i = .int .i64 (k : Int) ∧ k ≤ l.length ∧ OS 5 1 cU8 wr w.heap.size v (bytesW (l.take k)) ∧ Below w.heap.size w wr) (fun _ i _ => l.length - (intOf i).toNat)
  case atStart => exact ⟨0, rfl, by omega, OS.nil, Below.refl _ _⟩
  case round =>
    obtain ⟨k, rfl, hk, hown, hb⟩ := hrel
    by_cases hlt : k < l.length
    · obtain ⟨b, off, c', hv, hbl, _, _, hc⟩ := RW.block hR (by omega)
      simp only [Value.slice.injEq] at hv
      obtain ⟨rfl, -, -⟩ := hv
      have c0 := cell_stays hb hbl (hc k hlt)
      have hs := hb.size
      have r0 := l[k].toNat_lt
      have hsn := hid (bytesW_snoc l k hlt)
      have hlen := bytesW_len (l.take k)
      rw [List.length_take, Nat.min_eq_left hk] at hlen
      clear hc hR
      generalize l[k] = x0 at *
      have hol := OS.lt hown
      have hun : Units wr.heap.size (wr.alloc (.cells #[.int .u32 16777216, .int .u32 65536, .int .u32 256, .int .u32 1] 209)) u4 :=
        ⟨by simp, fun e => by have := hol _ e; omega, by simp, by simp, by simp, by simp⟩
      have hown0 := OS.alloc hown (.cells #[.int .u32 16777216, .int .u32 65536, .int .u32 256, .int .u32 1] 209)
      have hb0 := b_alloc hb (.cells #[.int .u32 16777216, .int .u32 65536, .int .u32 256, .int .u32 1] 209)
      have hd : ∀ n : Nat, ((n : Int) % 256) = ((UInt8.ofNat n).toNat : Int) := fun n => by rw [UInt8.toNat_ofNat']; omega
      have e0 := hid (hd (x0.toNat / 16777216))
      have e1 := hid (hd (x0.toNat / 65536))
      have e2 := hid (hd (x0.toNat / 256))
      have e3 := hid (hd x0.toNat)
      clear hd hown hb
      go_wp2_with fail
      generalize wr.alloc (.cells #[.int .u32 16777216, .int .u32 65536, .int .u32 256, .int .u32 1] 209) = W0 at *
      refine wp_loop_rounds 5 ?_
      rw [rounds_succ]
      have hun0 := hun
      obtain ⟨hu, hq, d0, d1, d2, d3⟩ := hun
      go_wp2_with (at_builtin; go_must (refine wpL_append_at flat_u8 rfl (.tmp 24) (.tmp 30) 38 rfl 5 i0 (.int .u8 0) Try.underlying38 hi hz0 hz1 hz2 rfl w.heap.size _ (bytesW (l.take k)) rfl (OS.alloc hown0 _) _ [UInt8.ofNat (x0.toNat / 16777216)] rfl (one_u8 _ _ _ _ _ (by first | rfl | simp) e0.out) ?c1 ?c2 ?c3 ?_))
      case c1 => simp; omega
      case c2 => simp [maxLen]; omega
      case c3 => have := hb0.size; simp; omega
      intro v0' W1 hown1 hgr hpl
      have hun := Units.step hun0 _ hgr hpl
      have hb1 := b_grown (b_alloc hb0 _) hgr (OS.block hown0)
      clear hgr hpl hu hq d0 d1 d2 d3 hun0
      go_wp2_with fail
      rw [rounds_succ]
      have hun1 := hun
      obtain ⟨hu, hq, d0, d1, d2, d3⟩ := hun
      go_wp2_with (at_builtin; go_must (refine wpL_append_at flat_u8 rfl (.tmp 24) (.tmp 30) 38 rfl 5 i0 (.int .u8 0) Try.underlying38 hi hz0 hz1 hz2 rfl w.heap.size _ ((bytesW (l.take k)) ++ [UInt8.ofNat (x0.toNat / 16777216)]) rfl (OS.alloc hown1 _) _ [UInt8.ofNat (x0.toNat / 65536)] rfl (one_u8 _ _ _ _ _ (by first | rfl | simp) e1.out) ?c1 ?c2 ?c3 ?_))
      case c1 => simp; omega
      case c2 => simp [maxLen]; omega
      case c3 => have := hb1.size; simp; omega
      intro v1' W2 hown2 hgr hpl
      have hun := Units.step hun1 _ hgr hpl
      have hb2 := b_grown (b_alloc hb1 _) hgr (OS.block hown1)
      clear hgr hpl hu hq d0 d1 d2 d3 hun1
      go_wp2_with fail
      rw [rounds_succ]
      have hun2 := hun
      obtain ⟨hu, hq, d0, d1, d2, d3⟩ := hun
      go_wp2_with (at_builtin; go_must (refine wpL_append_at flat_u8 rfl (.tmp 24) (.tmp 30) 38 rfl 5 i0 (.int .u8 0) Try.underlying38 hi hz0 hz1 hz2 rfl w.heap.size _ (bytesW (l.take k) ++ [UInt8.ofNat (x0.toNat / 16777216), UInt8.ofNat (x0.toNat / 65536)]) rfl (OS.alloc hown2 _) _ [UInt8.ofNat (x0.toNat / 256)] rfl (one_u8 _ _ _ _ _ (by first | rfl | simp) e2.out) ?c1 ?c2 ?c3 ?_))
      case c1 => simp; omega
      case c2 => simp [maxLen]; omega
      case c3 => have := hb2.size; simp; omega
      intro v2' W3 hown3 hgr hpl
      have hun := Units.step hun2 _ hgr hpl
      have hb3 := b_grown (b_alloc hb2 _) hgr (OS.block hown2)
      clear hgr hpl hu hq d0 d1 d2 d3 hun2
      go_wp2_with fail
      rw [rounds_succ]
      have hun3 := hun
      obtain ⟨hu, hq, d0, d1, d2, d3⟩ := hun
      go_wp2_with (at_builtin; go_must (refine wpL_append_at flat_u8 rfl (.tmp 24) (.tmp 30) 38 rfl 5 i0 (.int .u8 0) Try.underlying38 hi hz0 hz1 hz2 rfl w.heap.size _ (bytesW (l.take k) ++ [UInt8.ofNat (x0.toNat / 16777216), UInt8.ofNat (x0.toNat / 65536), UInt8.ofNat (x0.toNat / 256)]) rfl (OS.alloc hown3 _) _ [UInt8.ofNat x0.toNat] rfl (one_u8 _ _ _ _ _ (by first | rfl | simp) e3.out) ?c1 ?c2 ?c3 ?_))
      case c1 => simp; omega
      case c2 => simp [maxLen]; omega
      case c3 => have := hb3.size; simp; omega
      intro v3' W4 hown4 hgr hpl
      have hun := Units.step hun3 _ hgr hpl
      have hb4 := b_grown (b_alloc hb3 _) hgr (OS.block hown3)
      clear hgr hpl hu hq d0 d1 d2 d3 hun3
      go_wp2_with fail
      rw [rounds_succ]
      have hfin : OS 5 1 cU8 W4 w.heap.size v3' (bytesW (l.take (k + 1))) := by rw [hsn.out]; simpa [bw] using hown4
      clear hown0 hown1 hown2 hown3 hown4 hun
      go_wp2_with fail
      go_roundw
      case rel => exact ⟨k + 1, by go_num, by omega, hfin, hb4⟩
      case measure => simp [intOf]; omega
    · go_wp2_with fail
      go_ret2
      obtain rfl : k = l.length := by omega
      rw [List.take_length] at hown
      exact ⟨_, rfl, hown, hb⟩
end Go.Proofs.Ytaojfpgbpakmpaa
