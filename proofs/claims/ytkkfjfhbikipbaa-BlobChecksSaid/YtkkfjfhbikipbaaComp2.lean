/-
  The reference's ShaStep; the law ShaSteps: its walk.
-/
import Derived.Test.YtkkfjfhbikipbaaComp
namespace Go.Proofs.Ytkkfjfhbikipbaa
open Go.RowKit

theorem ref_compressed (vh vb vk : Value) (h b : List UInt32) (w : World) (hh : RW w vh h) (hb : RW w vb b) (hk : RW w vk roundW) (h8 : h.length = 8) (h16 : b.length = 16) :
    Calls Try.prog 111 #[vh, vb, vk] w fun e w' => ∃ v', e = .returned v' ∧ RW w' v' (compress h b) ∧ Below w.heap.size w w' := by
  refine ref_compressed' roundW (sched b) (stepsN roundW (sched b) 64 (s8Of h)) _ vh vb vk h b w hh hb hk h8 h16 roundW_len ?_ rfl (by unfold SchedInv; rw [h16]; rfl) rfl
  unfold sched
  rw [schedN_len, h16]

set_option maxRecDepth 100000 in
set_option maxHeartbeats 400000 in
theorem ref_ShaStep_no (vh vb : Value) (h b : List UInt32) (w : World) (hh : RW w vh h) (hb : RW w vb b) (hn : ¬ (h.length = 8 ∧ b.length = 16)) :
    Calls Try.prog 45 #[vh, vb] w fun e w' => e = .returned (.tuple #[.slice none 0 0, .int .i64 1]) ∧ w = w' := by
  obtain ⟨a0, c0, rfl, -⟩ := hh
  obtain ⟨a1, c1, rfl, -⟩ := hb
  by_cases h8 : h.length = 8
  · have q1 : ((h.length : Int) != 8) = false := by simp; omega
    have q2 : ((b.length : Int) != 16) = true := by simp; omega
    clear h8 hn
    go_enter Try.func45, Try.ntmps45
    go_wp2_with fail
    go_ret2
    exact ⟨rfl, rfl⟩
  · have q1 : ((h.length : Int) != 8) = true := by simp; omega
    clear h8 hn
    go_enter Try.func45, Try.ntmps45
    go_wp2_with fail
    go_ret2
    exact ⟨rfl, rfl⟩

set_option maxRecDepth 100000 in
set_option maxHeartbeats 400000 in
theorem ref_ShaStep_ok (RL TB : List UInt32) (vh vb : Value) (h b : List UInt32) (w : World) (hh : RW w vh h) (hb : RW w vb b) (h8 : h.length = 8) (h16 : b.length = 16)
    (hr : ∀ w, Calls Try.prog 102 #[.int .i64 64, .bool true] w fun e w' => ∃ v, e = .returned v ∧ RW w' v TB ∧ Below w.heap.size w w')
    (hc : ∀ (v1 v2 v3 : Value) w, RW w v1 h → RW w v2 b → RW w v3 TB → Calls Try.prog 111 #[v1, v2, v3] w fun e w' => ∃ v', e = .returned v' ∧ RW w' v' RL ∧ Below w.heap.size w w') :
    Calls Try.prog 45 #[vh, vb] w fun e w' => ∃ v', e = .returned (.tuple #[v', .int .i64 0]) ∧ RW w' v' RL ∧ Below w.heap.size w w' := by
  have hH := hid hh
  have hB := hid hb
  obtain ⟨a0, c0, rfl, -⟩ := hh
  obtain ⟨a1, c1, rfl, -⟩ := hb
  rw [h8] at hH
  rw [h16] at hB
  rw [h8, h16]
  replace h8 := hid h8
  replace h16 := hid h16
  replace hr := hid hr
  replace hc := hid hc
  go_enter Try.func45, Try.ntmps45
  go_wp2_with fail
  ((with_reducible refine (hr.out _).mono ?_); rintro e w1 ⟨v1, rfl, r1, b1⟩)
  go_wp2_with fail
  ((with_reducible refine (hc.out _ _ _ _ (hH.out.mono EU32.stable b1) (hB.out.mono EU32.stable b1) r1).mono ?_); rintro e w2 ⟨v2, rfl, r2, b2⟩)
  go_wp2_with fail
  go_ret2
  exact ⟨_, rfl, r2, b_call b1 b2⟩

theorem ref_ShaStep (vh vb : Value) (h b : List UInt32) (w : World) (hh : RW w vh h) (hb : RW w vb b) :
    Calls Try.prog 45 #[vh, vb] w fun e w' => ∃ v', e = .returned (.tuple #[v', .int .i64 (stepErr h b)]) ∧ RW w' v' (stepOut h b) ∧ Below w.heap.size w w' := by
  by_cases hn : h.length = 8 ∧ b.length = 16
  · rw [stepErr, stepOut, if_pos hn, if_pos hn]
    refine ref_ShaStep_ok _ roundW vh vb h b w hh hb hn.1 hn.2 (fun w => ?_) (fun v1 v2 v3 w g1 g2 g3 => ref_compressed v1 v2 v3 h b w g1 g2 g3 hn.1 hn.2)
    have hc := ref_firstRoots 64 320 true w (by rw [roots_round]; rfl) (by decide) (by decide)
    rw [roots_round] at hc
    refine hc.mono ?_
    rintro e w1 ⟨v1, rfl, ho, hb⟩
    exact ⟨_, rfl, reads_u32 ho (by decide), hb⟩
  · rw [stepErr, stepOut, if_neg hn, if_neg hn]
    refine (ref_ShaStep_no vh vb h b w hh hb hn).mono ?_
    rintro e w' ⟨rfl, rfl⟩
    exact ⟨_, rfl, RS.nil, Below.refl _ _⟩

set_option maxRecDepth 100000 in
set_option maxHeartbeats 400000 in
theorem ShaSteps_walk' (n : Int) (RL : List UInt32) (w : World) (vh : Value) (h : List UInt32) (vb : Value) (b : List UInt32) (hh : RW w vh h) (hb : RW w vb b)
    (c1 : ∀ w, RW w vh h → RW w vb b → Calls Try.prog 44 #[vh, vb] w fun e w' => ∃ v', e = .returned (.tuple #[v', .int .i64 n]) ∧ RW w' v' RL ∧ Below w.heap.size w w')
    (c2 : ∀ w, RW w vh h → RW w vb b → Calls Try.prog 45 #[vh, vb] w fun e w' => ∃ v', e = .returned (.tuple #[v', .int .i64 n]) ∧ RW w' v' RL ∧ Below w.heap.size w w') :
    Calls Try.prog 8 #[vh, vb] w fun e w' => e = .returned (.bool true) ∧ Below w.heap.size w w' := by
  replace c1 := hid c1
  replace c2 := hid c2
  go_enter Try.func8, Try.ntmps8
  go_wp2_with fail
  ((with_reducible refine (c1.out _ hh hb).mono ?_); rintro e w1 ⟨v1, rfl, r1, b1⟩)
  go_wp2_with fail
  ((with_reducible refine (c2.out _ (hh.mono EU32.stable b1) (hb.mono EU32.stable b1)).mono ?_); rintro e w2 ⟨v2, rfl, r2, b2⟩)
  go_wp2_with fail
  refine (law_sameWords_yes _ _ _ _ (r1.mono EU32.stable b2) r2).mono ?_
  rintro e w3 ⟨rfl, b3⟩
  go_wp2_with fail
  go_ret
  exact ⟨rfl, b_call b1 (b_call b2 b3)⟩
theorem ShaSteps_walk (w : World) (vh : Value) (h : List UInt32) (vb : Value) (b : List UInt32) (hh : RW w vh h) (hb : RW w vb b) :
    Calls Try.prog 8 #[vh, vb] w fun e w' => e = .returned (.bool true) ∧ Below w.heap.size w w' :=
  ShaSteps_walk' (stepErr h b) (stepOut h b) w vh h vb b hh hb (fun w g1 g2 => sha_Step vh vb h b w g1 g2) (fun w g1 g2 => ref_ShaStep vh vb h b w g1 g2)
end Go.Proofs.Ytkkfjfhbikipbaa
