/-
  LoftPut: what it answers. Printed by gen_exp.py.
-/
import Derived.Test.YtkbijjglodnfbaaGreatQcExM
import Derived.Test.YtkbijjglodnfbaaGreatQcShb
namespace Go.Proofs.YtkbijjglodnfbaaGreat
open Go.RowKit

set_option maxRecDepth 100000 in
set_option maxHeartbeats 8000000 in
theorem ref_LoftPut' (v u gv fv : Value) (bs : List Blob) (es : List Entry) (r t ph : Int) (pl : ByteArray) (gy : List ByteArray) (fl : List Flight) (s : ByteArray) (b : Value) (ps : List Part) (w : World) (h : RBl w v bs) (g : RE w u es) (hg : RT w gv gy) (hfl : RF w fv fl) (gd : RP w b ps) (z : Int) (i : Nat) (f : Bool) (O : CoOut) (hf : decide (i < fl.length) = f)
    (hch : ∀ w, RBl w v bs → RE w u es → RT w gv gy → RF w fv fl → Calls Tryz.prog 77 #[.agg #[v, u, .int .i64 r, .int .i64 t, .int .i64 ph, gv, .string pl, fv]] w fun e w' => e = .returned (.int .i64 z) ∧ Below w.heap.size w w')
    (hfind : ∀ w, RF w fv fl → Calls Tryz.prog 94 #[fv, .string s] w fun e w' => e = .returned (.int .i64 (i : Int)) ∧ w = w')
    (hcp : ∀ w, RBl w v bs → RE w u es → RT w gv gy → RF w fv fl → Calls Tryz.prog 78 #[.agg #[v, u, .int .i64 r, .int .i64 t, .int .i64 ph, gv, .string pl, fv]] w (OwnedLoft bs es r t ph gy pl fl w))
    (hput : ∀ w, RBl w v bs → RE w u es → RT w gv gy → RP w b ps → Calls Tryz.prog 36 #[.agg #[v, u, .int .i64 r, .int .i64 t], .agg #[.int .i64 ph, gv, .string pl], .string s, b] w (CoResO O w)) :
    Calls Tryz.prog 38 #[.agg #[v, u, .int .i64 r, .int .i64 t, .int .i64 ph, gv, .string pl, fv], .string s, b] w (PfRes (lputOut z f O fl) w) := by
  replace hch := hid hch
  replace hfind := hid hfind
  have hR := hid h
  have hE := hid g
  have hG := hid hg
  have hF := hid hfl
  have hff := hid (And.intro (rf_bound hfl) (fit_F hfl))
  have hD := hid gd
  obtain ⟨a, c, rfl, -⟩ := h
  obtain ⟨a2, c2, rfl, -⟩ := g
  obtain ⟨ga, gc, rfl, -⟩ := hg
  obtain ⟨fa, fc, rfl, -⟩ := hfl
  replace hcp := hid hcp
  unfold CoResO VS at hput
  unfold OwnedLoft at hcp
  by_cases hz : z = 0
  · subst hz
    cases f with
    | true =>
      have hd := hid (lput_held (O := O) (L := fl))
      clear hput hcp
      go_enter Tryz.func38, Tryz.ntmps38
      go_wp2_with fail
      ((with_reducible refine (hch.out _ (hR.out.mono EBlob.stable (b_alloc (b_alloc (Below.refl w.heap.size w) _) _)) (hE.out.mono EEntry.stable (b_alloc (b_alloc (Below.refl w.heap.size w) _) _)) (hG.out.mono EStr.stable (b_alloc (b_alloc (Below.refl w.heap.size w) _) _)) (hF.out.mono EFlight.stable (b_alloc (b_alloc (Below.refl w.heap.size w) _) _))).mono ?_); rintro e1 w1 ⟨rfl, b1⟩)
      have hq_q_1 := hid (stays b1 (hold (heap_put w _ (w.heap.size) (by simp))))
      have hq_p_1 := hid (stays b1 (heap_put _ _ (w.heap.size + 1) (by simp)))
      have hb1 := hid (b_call (b_alloc (b_alloc (Below.refl w.heap.size w) _) _) b1)
      have r_R_1 := hid (hR.out.mono EBlob.stable (b_call (b_alloc (b_alloc (Below.refl w.heap.size w) _) _) b1))
      have r_E_1 := hid (hE.out.mono EEntry.stable (b_call (b_alloc (b_alloc (Below.refl w.heap.size w) _) _) b1))
      have r_G_1 := hid (hG.out.mono EStr.stable (b_call (b_alloc (b_alloc (Below.refl w.heap.size w) _) _) b1))
      have r_F_1 := hid (hF.out.mono EFlight.stable (b_call (b_alloc (b_alloc (Below.refl w.heap.size w) _) _) b1))
      have r_D_1 := hid (hD.out.mono EPart.stable (b_call (b_alloc (b_alloc (Below.refl w.heap.size w) _) _) b1))
      clear b1
      obtain ⟨x_q_0, x_q_1, x_q_2, x_q_3, x_q_4, x_q_5, x_q_6, x_q_7⟩ := box8f hq_q_1.out
      go_wp2_with fail
      go_quiet (exact quiet_left1 (hfind.out _ (r_F_1.out.mono EFlight.stable (below_drewN (Below.refl w1.heap.size w1) _))))
      obtain ⟨x_p_0, x_p_1, x_p_2, x_p_3, x_p_4, x_p_5, x_p_6, x_p_7⟩ := box8f hq_p_1.out
      have l_p := heap_lt hq_p_1.out
      have g_p_0 := frozen_heap hq_p_1.out 0
      have g_p_1 := frozen_heap hq_p_1.out 1
      have g_p_2 := frozen_heap hq_p_1.out 2
      have g_p_3 := frozen_heap hq_p_1.out 3
      have g_p_4 := frozen_heap hq_p_1.out 4
      have g_p_5 := frozen_heap hq_p_1.out 5
      have g_p_6 := frozen_heap hq_p_1.out 6
      have g_p_7 := frozen_heap hq_p_1.out 7
      go_wp2_with fail
      have hp9 := box8_set (u0 := .slice none 0 0) (u1 := .slice none 0 0) (u2 := .int .i64 0) (u3 := .int .i64 0) (u4 := .int .i64 0) (u5 := .slice none 0 0) (u6 := .string ⟨#[]⟩) (u7 := .slice none 0 0) (heap_drewN (n := nq) hq_p_1.out)
      have hb9 := b_box8 (q := w.heap.size + 1) (below_drewN hb1.out nq) (by omega) (.slice none 0 0) (.slice none 0 0) (.int .i64 0) (.int .i64 0) (.int .i64 0) (.slice none 0 0) (.string ⟨#[]⟩) (.slice none 0 0)
      obtain ⟨m0, m1, m2, m3, m4, m5, m6, m7⟩ := box8f hp9
      unfold box8 at *
      (try simp only [Exit.inBlock, Exit.then])
      refine bodyPost_ret (by simp [results, Tryz.results38, go_sem, m0, m1, m2, m3, m4, m5, m6, m7]; try rfl) rfl ?_
      exact pf_no hd.out hb9
    | false =>
      by_cases hO : O.err = 0
      · obtain ⟨oe, ⟨B, E, r1, t1⟩, ⟨p1, G1, s1⟩⟩ := O
        simp only at hO
        subst hO
        have hd := hid (lput_ok (S := ⟨B, E, r1, t1⟩) (C := ⟨p1, G1, s1⟩) (L := fl))
        simp only at hput
        replace hput := hid hput
        go_enter Tryz.func38, Tryz.ntmps38
        go_wp2_with fail
        ((with_reducible refine (hch.out _ (hR.out.mono EBlob.stable (b_alloc (b_alloc (Below.refl w.heap.size w) _) _)) (hE.out.mono EEntry.stable (b_alloc (b_alloc (Below.refl w.heap.size w) _) _)) (hG.out.mono EStr.stable (b_alloc (b_alloc (Below.refl w.heap.size w) _) _)) (hF.out.mono EFlight.stable (b_alloc (b_alloc (Below.refl w.heap.size w) _) _))).mono ?_); rintro e1 w1 ⟨rfl, b1⟩)
        have hq_q_1 := hid (stays b1 (hold (heap_put w _ (w.heap.size) (by simp))))
        have hq_p_1 := hid (stays b1 (heap_put _ _ (w.heap.size + 1) (by simp)))
        have hb1 := hid (b_call (b_alloc (b_alloc (Below.refl w.heap.size w) _) _) b1)
        have r_R_1 := hid (hR.out.mono EBlob.stable (b_call (b_alloc (b_alloc (Below.refl w.heap.size w) _) _) b1))
        have r_E_1 := hid (hE.out.mono EEntry.stable (b_call (b_alloc (b_alloc (Below.refl w.heap.size w) _) _) b1))
        have r_G_1 := hid (hG.out.mono EStr.stable (b_call (b_alloc (b_alloc (Below.refl w.heap.size w) _) _) b1))
        have r_F_1 := hid (hF.out.mono EFlight.stable (b_call (b_alloc (b_alloc (Below.refl w.heap.size w) _) _) b1))
        have r_D_1 := hid (hD.out.mono EPart.stable (b_call (b_alloc (b_alloc (Below.refl w.heap.size w) _) _) b1))
        clear b1
        obtain ⟨x_q_0, x_q_1, x_q_2, x_q_3, x_q_4, x_q_5, x_q_6, x_q_7⟩ := box8f hq_q_1.out
        go_wp2_with fail
        go_quiet (exact quiet_left1 (hfind.out _ (r_F_1.out.mono EFlight.stable (below_drewN (Below.refl w1.heap.size w1) _))))
        go_wp2_with fail
        ((with_reducible refine (hput.out _ (r_R_1.out.mono EBlob.stable (below_drewN (Below.refl w1.heap.size w1) _)) (r_E_1.out.mono EEntry.stable (below_drewN (Below.refl w1.heap.size w1) _)) (r_G_1.out.mono EStr.stable (below_drewN (Below.refl w1.heap.size w1) _)) (r_D_1.out.mono EPart.stable (below_drewN (Below.refl w1.heap.size w1) _))).mono ?_); rintro e2 w2 ⟨_, g1, rfl, ⟨A1, D1, rfl, rA, rD⟩, rg, og, b2⟩)
        clear x_q_0 x_q_1 x_q_2 x_q_3 x_q_4 x_q_5 x_q_6 x_q_7
        have hq_q_2 := hid (stays b2 hq_q_1.out)
        have hq_p_2 := hid (stays b2 hq_p_1.out)
        have hb2 := hid (b_call (below_drewN hb1.out _) b2)
        have r_R_2 := hid (r_R_1.out.mono EBlob.stable (b_call (below_drewN (Below.refl w1.heap.size w1) _) b2))
        have r_E_2 := hid (r_E_1.out.mono EEntry.stable (b_call (below_drewN (Below.refl w1.heap.size w1) _) b2))
        have r_G_2 := hid (r_G_1.out.mono EStr.stable (b_call (below_drewN (Below.refl w1.heap.size w1) _) b2))
        have r_F_2 := hid (r_F_1.out.mono EFlight.stable (b_call (below_drewN (Below.refl w1.heap.size w1) _) b2))
        have r_D_2 := hid (r_D_1.out.mono EPart.stable (b_call (below_drewN (Below.refl w1.heap.size w1) _) b2))
        have r_A_2 := hid rA
        have r_X_2 := hid rD
        have r_N_2 := hid rg
        have hsb : w.heap.size + 1 < w1.heap.size := heap_lt hq_p_1.out
        replace og : Hid (OS 9 1 cStr w2 w1.heap.size _ _) := hid og
        clear hq_q_1 hq_p_1 hb1 r_R_1 r_E_1 r_G_1 r_F_1 r_D_1 rA rD rg b2
        obtain ⟨a5, c5, rfl, -⟩ := id r_A_2.out
        obtain ⟨a6, c6, rfl, -⟩ := id r_X_2.out
        obtain ⟨a7, c7, rfl, -⟩ := id r_N_2.out
        have hs3 : w.heap.size + 2 ≤ w2.heap.size := heap_lt hq_p_2.out
        obtain ⟨x_q_0, x_q_1, x_q_2, x_q_3, x_q_4, x_q_5, x_q_6, x_q_7⟩ := box8f hq_q_2.out
        go_upto_region 7 with fail
        have hx4 := hid (alloc_keep (o := Obj.cells #[.int .i64 p1, .slice a7 G1.length c7, .string s1] 28) (heap_alloc_new w2 (Obj.cells #[.slice a5 B.length c5, .slice a6 E.length c6, .int .i64 r1, .int .i64 t1] 25)))
        have hn4 := hid (heap_put (w2.alloc (Obj.cells #[.slice a5 B.length c5, .slice a6 E.length c6, .int .i64 r1, .int .i64 t1] 25)) (Obj.cells #[.int .i64 p1, .slice a7 G1.length c7, .string s1] 28) (w2.heap.size + 1) (by simp))
        have hp4 := hid (alloc_keep (o := Obj.cells #[.int .i64 p1, .slice a7 G1.length c7, .string s1] 28) (alloc_keep (o := Obj.cells #[.slice a5 B.length c5, .slice a6 E.length c6, .int .i64 r1, .int .i64 t1] 25) hq_p_2.out))
        have hq4 := hid (alloc_keep (o := Obj.cells #[.int .i64 p1, .slice a7 G1.length c7, .string s1] 28) (alloc_keep (o := Obj.cells #[.slice a5 B.length c5, .slice a6 E.length c6, .int .i64 r1, .int .i64 t1] 25) hq_q_2.out))
        have hb4 := hid (b_alloc (b_alloc hb2.out (Obj.cells #[.slice a5 B.length c5, .slice a6 E.length c6, .int .i64 r1, .int .i64 t1] 25)) (Obj.cells #[.int .i64 p1, .slice a7 G1.length c7, .string s1] 28))
        have rb4 := hid (RS.al EBlob.stable (RS.al EBlob.stable r_A_2.out (Obj.cells #[.slice a5 B.length c5, .slice a6 E.length c6, .int .i64 r1, .int .i64 t1] 25)) (Obj.cells #[.int .i64 p1, .slice a7 G1.length c7, .string s1] 28))
        have re4 := hid (RS.al EEntry.stable (RS.al EEntry.stable r_X_2.out (Obj.cells #[.slice a5 B.length c5, .slice a6 E.length c6, .int .i64 r1, .int .i64 t1] 25)) (Obj.cells #[.int .i64 p1, .slice a7 G1.length c7, .string s1] 28))
        have rf4 := hid (RS.al EFlight.stable (RS.al EFlight.stable r_F_2.out (Obj.cells #[.slice a5 B.length c5, .slice a6 E.length c6, .int .i64 r1, .int .i64 t1] 25)) (Obj.cells #[.int .i64 p1, .slice a7 G1.length c7, .string s1] 28))
        have rR4 := hid (RS.al EBlob.stable (RS.al EBlob.stable r_R_2.out (Obj.cells #[.slice a5 B.length c5, .slice a6 E.length c6, .int .i64 r1, .int .i64 t1] 25)) (Obj.cells #[.int .i64 p1, .slice a7 G1.length c7, .string s1] 28))
        have rE4 := hid (RS.al EEntry.stable (RS.al EEntry.stable r_E_2.out (Obj.cells #[.slice a5 B.length c5, .slice a6 E.length c6, .int .i64 r1, .int .i64 t1] 25)) (Obj.cells #[.int .i64 p1, .slice a7 G1.length c7, .string s1] 28))
        have rG4 := hid (RS.al EStr.stable (RS.al EStr.stable r_G_2.out (Obj.cells #[.slice a5 B.length c5, .slice a6 E.length c6, .int .i64 r1, .int .i64 t1] 25)) (Obj.cells #[.int .i64 p1, .slice a7 G1.length c7, .string s1] 28))
        have og4 := hid (OS.alloc (OS.alloc og.out (Obj.cells #[.slice a5 B.length c5, .slice a6 E.length c6, .int .i64 r1, .int .i64 t1] 25)) (Obj.cells #[.int .i64 p1, .slice a7 G1.length c7, .string s1] 28))
        have bt := hid (And.intro (rt_bound r_N_2.out) (rt_sizes r_N_2.out))
        generalize (w2.alloc (Obj.cells #[.slice a5 B.length c5, .slice a6 E.length c6, .int .i64 r1, .int .i64 t1] 25)).alloc (Obj.cells #[.int .i64 p1, .slice a7 G1.length c7, .string s1] 28) = w4 at *
        clear x_q_0 x_q_1 x_q_2 x_q_3 x_q_4 x_q_5 x_q_6 x_q_7 hq_q_2 hq_p_2 hb2 og r_R_2 r_E_2 r_G_2 r_F_2 r_D_2 r_A_2 r_X_2 r_N_2
        obtain ⟨x0, x1, x2, x3⟩ := box4f hx4.out
        obtain ⟨y0, y1, y2, -⟩ := box3f hn4.out
        obtain ⟨q0, q1, q2, q3, q4, q5, q6, q7⟩ := box8f hq4.out
        obtain ⟨z0, z1, z2, z3, z4, z5, z6, z7⟩ := box8f hp4.out
        have hl4 : w.heap.size + 1 < w4.heap.size := heap_lt hp4.out
        have g0 := frozen_heap hp4.out 0
        have g1 := frozen_heap hp4.out 1
        have g2 := frozen_heap hp4.out 2
        have g3 := frozen_heap hp4.out 3
        have g4 := frozen_heap hp4.out 4
        have g5 := frozen_heap hp4.out 5
        have g6 := frozen_heap hp4.out 6
        have g7 := frozen_heap hp4.out 7
        go_wp2_with fail
        ((with_reducible refine (hcp.out _ rR4.out rE4.out rG4.out rf4.out).mono ?_); rintro e5 w5 ⟨v1, v2, v3, v4, rfl, k1, k2, k3, k4, b5⟩)
        have hw5 := b5.size
        obtain ⟨b5', d5, rfl⟩ := OX.lenOf k1
        obtain ⟨b6, d6, rfl⟩ := OX.lenOf k2
        obtain ⟨b7, d7, rfl, -⟩ := id (OS.len_le k3)
        obtain ⟨a8, c8, rfl⟩ := OX.lenOf k4
        have hx5 := hid (stays b5 hx4.out)
        have hn5 := hid (stays b5 hn4.out)
        have hp5 := hid (stays b5 hp4.out)
        have b5h := hid b5
        clear q0 q1 q2 q3 q4 q5 q6 q7 x0 x1 x2 x3 y0 y1 y2 z0 z1 z2 z3 z4 z5 z6 z7 g0 g1 g2 g3 g4 g5 g6 g7 k1 k2 k3 b5
        replace k4 := hid k4
        obtain ⟨x0, x1, x2, x3⟩ := box4f hx5.out
        obtain ⟨y0, y1, y2, -⟩ := box3f hn5.out
        go_upto_region 10 with fail
        have ho6 := hid (heap_alloc_new w5 (Obj.cells #[.slice b5' bs.length d5, .slice b6 es.length d6, .int .i64 r, .int .i64 t, .int .i64 ph, .slice b7 gy.length d7, .string pl, .slice a8 fl.length c8] 47))
        have b56 := hid (b_alloc (Below.refl w5.heap.size w5) (Obj.cells #[.slice b5' bs.length d5, .slice b6 es.length d6, .int .i64 r, .int .i64 t, .int .i64 ph, .slice b7 gy.length d7, .string pl, .slice a8 fl.length c8] 47))
        have hl6 : w5.heap.size < (w5.alloc (Obj.cells #[.slice b5' bs.length d5, .slice b6 es.length d6, .int .i64 r, .int .i64 t, .int .i64 ph, .slice b7 gy.length d7, .string pl, .slice a8 fl.length c8] 47)).heap.size := by simp
        generalize w5.alloc (Obj.cells #[.slice b5' bs.length d5, .slice b6 es.length d6, .int .i64 r, .int .i64 t, .int .i64 ph, .slice b7 gy.length d7, .string pl, .slice a8 fl.length c8] 47) = w6 at *
        have hx6 := hid (stays b56.out hx5.out)
        have hn6 := hid (stays b56.out hn5.out)
        clear x0 x1 x2 x3 y0 y1 y2
        obtain ⟨x0, x1, x2, x3⟩ := box4f hx6.out
        obtain ⟨o0, o1, o2, o3, o4, o5, o6, o7⟩ := box8f ho6.out
        have f0 := frozen_heap ho6.out 0
        have f1 := frozen_heap ho6.out 1
        have f2 := frozen_heap ho6.out 2
        have f3 := frozen_heap ho6.out 3
        go_upto_region 11 with fail
        have b57 := hid (b_set (p := ⟨w5.heap.size, 3, none⟩) (b_set (p := ⟨w5.heap.size, 2, none⟩) (b_set (p := ⟨w5.heap.size, 1, none⟩) (b_set (p := ⟨w5.heap.size, 0, none⟩) (b56.out) (Nat.le_refl _) (.slice a5 B.length c5)) (Nat.le_refl _) (.slice a6 E.length c6)) (Nat.le_refl _) (.int .i64 r1)) (Nat.le_refl _) (.int .i64 t1))
        have ho7 := hid (l8_3 (u := .int .i64 t1) (l8_2 (u := .int .i64 r1) (l8_1 (u := .slice a6 E.length c6) (l8_0 (u := .slice a5 B.length c5) (ho6.out)))))
        have hs7 : w6.heap.size = (((((w6.setCell ⟨w5.heap.size, 0, none⟩ (.slice a5 B.length c5)).setCell ⟨w5.heap.size, 1, none⟩ (.slice a6 E.length c6)).setCell ⟨w5.heap.size, 2, none⟩ (.int .i64 r1)).setCell ⟨w5.heap.size, 3, none⟩ (.int .i64 t1))).heap.size := by simp
        replace hs7 := Nat.le_of_eq hs7
        clear o0 o1 o2 o3 o4 o5 o6 o7 f0 f1 f2 f3 x0 x1 x2 x3 ho6
        generalize ((((w6.setCell ⟨w5.heap.size, 0, none⟩ (.slice a5 B.length c5)).setCell ⟨w5.heap.size, 1, none⟩ (.slice a6 E.length c6)).setCell ⟨w5.heap.size, 2, none⟩ (.int .i64 r1)).setCell ⟨w5.heap.size, 3, none⟩ (.int .i64 t1)) = w7 at *
        have hn7 := hid (stays b57.out hn5.out)
        obtain ⟨y0, y1, y2, -⟩ := box3f hn7.out
        obtain ⟨o0, o1, o2, o3, o4, o5, o6, o7⟩ := box8f ho7.out
        have f4 := frozen_heap ho7.out 4
        have f5 := frozen_heap ho7.out 5
        have f6 := frozen_heap ho7.out 6
        go_upto_region 12 with fail
        have b58 := hid (b_set (p := ⟨w5.heap.size, 6, none⟩) (b_set (p := ⟨w5.heap.size, 5, none⟩) (b_set (p := ⟨w5.heap.size, 4, none⟩) (b57.out) (Nat.le_refl _) (.int .i64 p1)) (Nat.le_refl _) (.slice a7 G1.length c7)) (Nat.le_refl _) (.string s1))
        have ho8 := hid (l8_6 (u := .string s1) (l8_5 (u := .slice a7 G1.length c7) (l8_4 (u := .int .i64 p1) (ho7.out))))
        clear o0 o1 o2 o3 o4 o5 o6 o7 f4 f5 f6 y0 y1 y2 ho7
        generalize (((w7.setCell ⟨w5.heap.size, 4, none⟩ (.int .i64 p1)).setCell ⟨w5.heap.size, 5, none⟩ (.slice a7 G1.length c7)).setCell ⟨w5.heap.size, 6, none⟩ (.string s1)) = w8 at *
        have hp8 := hid (stays b58.out hp5.out)
        have b48 := hid (b_call b5h.out b58.out)
        have hb8 := hid (b_call hb4.out b48.out)
        have rb8 := hid (rb4.out.mono EBlob.stable b48.out)
        have re8 := hid (re4.out.mono EEntry.stable b48.out)
        have og8 := hid (OS.below og4.out b48.out)
        have of8 := hid (OFlight.after k4.out b58.out)
        clear hx5 hn5 hx6 hn6 hn7 b57 b56
        obtain ⟨o0, o1, o2, o3, o4, o5, o6, o7⟩ := box8f ho8.out
        obtain ⟨z0, z1, z2, z3, z4, z5, z6, z7⟩ := box8f hp8.out
        have g0 := frozen_heap hp8.out 0
        have g1 := frozen_heap hp8.out 1
        have g2 := frozen_heap hp8.out 2
        have g3 := frozen_heap hp8.out 3
        have g4 := frozen_heap hp8.out 4
        have g5 := frozen_heap hp8.out 5
        have g6 := frozen_heap hp8.out 6
        have g7 := frozen_heap hp8.out 7
        go_wp2_with fail
        have hp9 := box8_set (u0 := .slice a5 B.length c5) (u1 := .slice a6 E.length c6) (u2 := .int .i64 r1) (u3 := .int .i64 t1) (u4 := .int .i64 p1) (u5 := .slice a7 G1.length c7) (u6 := .string s1) (u7 := .slice a8 fl.length c8) hp8.out
        have hb9 := b_box8 (q := w.heap.size + 1) hb8.out (by omega) (.slice a5 B.length c5) (.slice a6 E.length c6) (.int .i64 r1) (.int .i64 t1) (.int .i64 p1) (.slice a7 G1.length c7) (.string s1) (.slice a8 fl.length c8)
        have lb9 : LBox _ _ := ⟨_, _, _, _, _, _, _, _, _, _, _, _, _, _, _, _, _, hp8.out⟩
        have rl9 := rs_b8 EBlob.writesL rb8.out lb9 a5 B.length c5 a6 E.length c6 r1 t1 p1 a7 G1.length c7 s1 (.slice a8 fl.length c8)
        have re9 := rs_b8 EEntry.writesL re8.out lb9 a5 B.length c5 a6 E.length c6 r1 t1 p1 a7 G1.length c7 s1 (.slice a8 fl.length c8)
        have ot9 := reads_str (OS.box8 (q := w.heap.size + 1) (u0 := .slice a5 B.length c5) (u1 := .slice a6 E.length c6) (u2 := .int .i64 r1) (u3 := .int .i64 t1) (u4 := .int .i64 p1) (u5 := .slice a7 G1.length c7) (u6 := .string s1) (u7 := .slice a8 fl.length c8) og8.out (by omega)) bt.out.1 bt.out.2
        have of9 := (OFlight.box8 (q := w.heap.size + 1) (u0 := .slice a5 B.length c5) (u1 := .slice a6 E.length c6) (u2 := .int .i64 r1) (u3 := .int .i64 t1) (u4 := .int .i64 p1) (u5 := .slice a7 G1.length c7) (u6 := .string s1) (u7 := .slice a8 fl.length c8) of8.out (by omega)).toR hff.out.1 hff.out.2
        obtain ⟨m0, m1, m2, m3, m4, m5, m6, m7⟩ := box8f hp9
        unfold box8 at *
        (try simp only [Exit.inBlock, Exit.then])
        refine bodyPost_ret (by simp [results, Tryz.results38, go_sem, m0, m1, m2, m3, m4, m5, m6, m7]; try rfl) rfl ?_
        with_reducible exact pf_ok hd.out rl9 re9 ot9 of9 hb9
      · have hd := hid (lput_put (L := fl) hO)
        obtain ⟨oe, ⟨B, E, r1, t1⟩, ⟨p1, G1, s1⟩⟩ := O
        simp only at hO hd hput
        have q1 : (oe != 0) = true := by simp [hO]
        replace hO := hid hO
        replace hput := hid hput
        clear hcp
        go_enter Tryz.func38, Tryz.ntmps38
        go_wp2_with fail
        ((with_reducible refine (hch.out _ (hR.out.mono EBlob.stable (b_alloc (b_alloc (Below.refl w.heap.size w) _) _)) (hE.out.mono EEntry.stable (b_alloc (b_alloc (Below.refl w.heap.size w) _) _)) (hG.out.mono EStr.stable (b_alloc (b_alloc (Below.refl w.heap.size w) _) _)) (hF.out.mono EFlight.stable (b_alloc (b_alloc (Below.refl w.heap.size w) _) _))).mono ?_); rintro e1 w1 ⟨rfl, b1⟩)
        have hq_q_1 := hid (stays b1 (hold (heap_put w _ (w.heap.size) (by simp))))
        have hq_p_1 := hid (stays b1 (heap_put _ _ (w.heap.size + 1) (by simp)))
        have hb1 := hid (b_call (b_alloc (b_alloc (Below.refl w.heap.size w) _) _) b1)
        have r_R_1 := hid (hR.out.mono EBlob.stable (b_call (b_alloc (b_alloc (Below.refl w.heap.size w) _) _) b1))
        have r_E_1 := hid (hE.out.mono EEntry.stable (b_call (b_alloc (b_alloc (Below.refl w.heap.size w) _) _) b1))
        have r_G_1 := hid (hG.out.mono EStr.stable (b_call (b_alloc (b_alloc (Below.refl w.heap.size w) _) _) b1))
        have r_F_1 := hid (hF.out.mono EFlight.stable (b_call (b_alloc (b_alloc (Below.refl w.heap.size w) _) _) b1))
        have r_D_1 := hid (hD.out.mono EPart.stable (b_call (b_alloc (b_alloc (Below.refl w.heap.size w) _) _) b1))
        clear b1
        obtain ⟨x_q_0, x_q_1, x_q_2, x_q_3, x_q_4, x_q_5, x_q_6, x_q_7⟩ := box8f hq_q_1.out
        go_wp2_with fail
        go_quiet (exact quiet_left1 (hfind.out _ (r_F_1.out.mono EFlight.stable (below_drewN (Below.refl w1.heap.size w1) _))))
        go_wp2_with fail
        ((with_reducible refine (hput.out _ (r_R_1.out.mono EBlob.stable (below_drewN (Below.refl w1.heap.size w1) _)) (r_E_1.out.mono EEntry.stable (below_drewN (Below.refl w1.heap.size w1) _)) (r_G_1.out.mono EStr.stable (below_drewN (Below.refl w1.heap.size w1) _)) (r_D_1.out.mono EPart.stable (below_drewN (Below.refl w1.heap.size w1) _))).mono ?_); rintro e2 w2 ⟨_, g1, rfl, ⟨A1, D1, rfl, rA, rD⟩, rg, og, b2⟩)
        clear x_q_0 x_q_1 x_q_2 x_q_3 x_q_4 x_q_5 x_q_6 x_q_7
        have hq_q_2 := hid (stays b2 hq_q_1.out)
        have hq_p_2 := hid (stays b2 hq_p_1.out)
        have hb2 := hid (b_call (below_drewN hb1.out _) b2)
        have r_R_2 := hid (r_R_1.out.mono EBlob.stable (b_call (below_drewN (Below.refl w1.heap.size w1) _) b2))
        have r_E_2 := hid (r_E_1.out.mono EEntry.stable (b_call (below_drewN (Below.refl w1.heap.size w1) _) b2))
        have r_G_2 := hid (r_G_1.out.mono EStr.stable (b_call (below_drewN (Below.refl w1.heap.size w1) _) b2))
        have r_F_2 := hid (r_F_1.out.mono EFlight.stable (b_call (below_drewN (Below.refl w1.heap.size w1) _) b2))
        have r_D_2 := hid (r_D_1.out.mono EPart.stable (b_call (below_drewN (Below.refl w1.heap.size w1) _) b2))
        have r_A_2 := hid rA
        have r_X_2 := hid rD
        have r_N_2 := hid rg
        have hsb : w.heap.size + 1 < w1.heap.size := heap_lt hq_p_1.out
        replace og : Hid (OS 9 1 cStr w2 w1.heap.size _ _) := hid og
        clear hq_q_1 hq_p_1 hb1 r_R_1 r_E_1 r_G_1 r_F_1 r_D_1 rA rD rg b2
        obtain ⟨a5, c5, rfl, -⟩ := id r_A_2.out
        obtain ⟨a6, c6, rfl, -⟩ := id r_X_2.out
        obtain ⟨a7, c7, rfl, -⟩ := id r_N_2.out
        have hs3 : w.heap.size + 2 ≤ w2.heap.size := heap_lt hq_p_2.out
        obtain ⟨x_q_0, x_q_1, x_q_2, x_q_3, x_q_4, x_q_5, x_q_6, x_q_7⟩ := box8f hq_q_2.out
        go_upto_region 7 with fail
        have hx4 := hid (alloc_keep (o := Obj.cells #[.int .i64 p1, .slice a7 G1.length c7, .string s1] 28) (heap_alloc_new w2 (Obj.cells #[.slice a5 B.length c5, .slice a6 E.length c6, .int .i64 r1, .int .i64 t1] 25)))
        have hn4 := hid (heap_put (w2.alloc (Obj.cells #[.slice a5 B.length c5, .slice a6 E.length c6, .int .i64 r1, .int .i64 t1] 25)) (Obj.cells #[.int .i64 p1, .slice a7 G1.length c7, .string s1] 28) (w2.heap.size + 1) (by simp))
        have hp4 := hid (alloc_keep (o := Obj.cells #[.int .i64 p1, .slice a7 G1.length c7, .string s1] 28) (alloc_keep (o := Obj.cells #[.slice a5 B.length c5, .slice a6 E.length c6, .int .i64 r1, .int .i64 t1] 25) hq_p_2.out))
        have hq4 := hid (alloc_keep (o := Obj.cells #[.int .i64 p1, .slice a7 G1.length c7, .string s1] 28) (alloc_keep (o := Obj.cells #[.slice a5 B.length c5, .slice a6 E.length c6, .int .i64 r1, .int .i64 t1] 25) hq_q_2.out))
        have hb4 := hid (b_alloc (b_alloc hb2.out (Obj.cells #[.slice a5 B.length c5, .slice a6 E.length c6, .int .i64 r1, .int .i64 t1] 25)) (Obj.cells #[.int .i64 p1, .slice a7 G1.length c7, .string s1] 28))
        have rb4 := hid (RS.al EBlob.stable (RS.al EBlob.stable r_A_2.out (Obj.cells #[.slice a5 B.length c5, .slice a6 E.length c6, .int .i64 r1, .int .i64 t1] 25)) (Obj.cells #[.int .i64 p1, .slice a7 G1.length c7, .string s1] 28))
        have re4 := hid (RS.al EEntry.stable (RS.al EEntry.stable r_X_2.out (Obj.cells #[.slice a5 B.length c5, .slice a6 E.length c6, .int .i64 r1, .int .i64 t1] 25)) (Obj.cells #[.int .i64 p1, .slice a7 G1.length c7, .string s1] 28))
        have rf4 := hid (RS.al EFlight.stable (RS.al EFlight.stable r_F_2.out (Obj.cells #[.slice a5 B.length c5, .slice a6 E.length c6, .int .i64 r1, .int .i64 t1] 25)) (Obj.cells #[.int .i64 p1, .slice a7 G1.length c7, .string s1] 28))
        have rR4 := hid (RS.al EBlob.stable (RS.al EBlob.stable r_R_2.out (Obj.cells #[.slice a5 B.length c5, .slice a6 E.length c6, .int .i64 r1, .int .i64 t1] 25)) (Obj.cells #[.int .i64 p1, .slice a7 G1.length c7, .string s1] 28))
        have rE4 := hid (RS.al EEntry.stable (RS.al EEntry.stable r_E_2.out (Obj.cells #[.slice a5 B.length c5, .slice a6 E.length c6, .int .i64 r1, .int .i64 t1] 25)) (Obj.cells #[.int .i64 p1, .slice a7 G1.length c7, .string s1] 28))
        have rG4 := hid (RS.al EStr.stable (RS.al EStr.stable r_G_2.out (Obj.cells #[.slice a5 B.length c5, .slice a6 E.length c6, .int .i64 r1, .int .i64 t1] 25)) (Obj.cells #[.int .i64 p1, .slice a7 G1.length c7, .string s1] 28))
        have og4 := hid (OS.alloc (OS.alloc og.out (Obj.cells #[.slice a5 B.length c5, .slice a6 E.length c6, .int .i64 r1, .int .i64 t1] 25)) (Obj.cells #[.int .i64 p1, .slice a7 G1.length c7, .string s1] 28))
        have bt := hid (And.intro (rt_bound r_N_2.out) (rt_sizes r_N_2.out))
        generalize (w2.alloc (Obj.cells #[.slice a5 B.length c5, .slice a6 E.length c6, .int .i64 r1, .int .i64 t1] 25)).alloc (Obj.cells #[.int .i64 p1, .slice a7 G1.length c7, .string s1] 28) = w4 at *
        clear x_q_0 x_q_1 x_q_2 x_q_3 x_q_4 x_q_5 x_q_6 x_q_7 hq_q_2 hq_p_2 hb2 og r_R_2 r_E_2 r_G_2 r_F_2 r_D_2 r_A_2 r_X_2 r_N_2
        obtain ⟨x0, x1, x2, x3⟩ := box4f hx4.out
        obtain ⟨y0, y1, y2, -⟩ := box3f hn4.out
        obtain ⟨q0, q1, q2, q3, q4, q5, q6, q7⟩ := box8f hq4.out
        obtain ⟨z0, z1, z2, z3, z4, z5, z6, z7⟩ := box8f hp4.out
        have hl4 : w.heap.size + 1 < w4.heap.size := heap_lt hp4.out
        have g0 := frozen_heap hp4.out 0
        have g1 := frozen_heap hp4.out 1
        have g2 := frozen_heap hp4.out 2
        have g3 := frozen_heap hp4.out 3
        have g4 := frozen_heap hp4.out 4
        have g5 := frozen_heap hp4.out 5
        have g6 := frozen_heap hp4.out 6
        have g7 := frozen_heap hp4.out 7
        go_wp2_with fail
        have hp9 := box8_set (u0 := .slice none 0 0) (u1 := .slice none 0 0) (u2 := .int .i64 0) (u3 := .int .i64 0) (u4 := .int .i64 0) (u5 := .slice none 0 0) (u6 := .string ⟨#[]⟩) (u7 := .slice none 0 0) hp4.out
        have hb9 := b_box8 (q := w.heap.size + 1) hb4.out (by omega) (.slice none 0 0) (.slice none 0 0) (.int .i64 0) (.int .i64 0) (.int .i64 0) (.slice none 0 0) (.string ⟨#[]⟩) (.slice none 0 0)
        obtain ⟨m0, m1, m2, m3, m4, m5, m6, m7⟩ := box8f hp9
        unfold box8 at *
        (try simp only [Exit.inBlock, Exit.then])
        refine bodyPost_ret (by simp [results, Tryz.results38, go_sem, m0, m1, m2, m3, m4, m5, m6, m7]; try rfl) rfl ?_
        exact pf_no hd.out hb9
  · have ht : (z != 0) = true := by simp [hz]
    have hd := hid (lput_bad (f := f) (O := O) (L := fl) hz)
    replace hz := hid hz
    clear hput hfind hcp
    go_enter Tryz.func38, Tryz.ntmps38
    go_wp2_with fail
    ((with_reducible refine (hch.out _ (hR.out.mono EBlob.stable (b_alloc (b_alloc (Below.refl w.heap.size w) _) _)) (hE.out.mono EEntry.stable (b_alloc (b_alloc (Below.refl w.heap.size w) _) _)) (hG.out.mono EStr.stable (b_alloc (b_alloc (Below.refl w.heap.size w) _) _)) (hF.out.mono EFlight.stable (b_alloc (b_alloc (Below.refl w.heap.size w) _) _))).mono ?_); rintro e1 w1 ⟨rfl, b1⟩)
    have hq_q_1 := hid (stays b1 (hold (heap_put w _ (w.heap.size) (by simp))))
    have hq_p_1 := hid (stays b1 (heap_put _ _ (w.heap.size + 1) (by simp)))
    have hb1 := hid (b_call (b_alloc (b_alloc (Below.refl w.heap.size w) _) _) b1)
    have r_R_1 := hid (hR.out.mono EBlob.stable (b_call (b_alloc (b_alloc (Below.refl w.heap.size w) _) _) b1))
    have r_E_1 := hid (hE.out.mono EEntry.stable (b_call (b_alloc (b_alloc (Below.refl w.heap.size w) _) _) b1))
    have r_G_1 := hid (hG.out.mono EStr.stable (b_call (b_alloc (b_alloc (Below.refl w.heap.size w) _) _) b1))
    have r_F_1 := hid (hF.out.mono EFlight.stable (b_call (b_alloc (b_alloc (Below.refl w.heap.size w) _) _) b1))
    have r_D_1 := hid (hD.out.mono EPart.stable (b_call (b_alloc (b_alloc (Below.refl w.heap.size w) _) _) b1))
    clear b1
    obtain ⟨x_q_0, x_q_1, x_q_2, x_q_3, x_q_4, x_q_5, x_q_6, x_q_7⟩ := box8f hq_q_1.out
    obtain ⟨x_p_0, x_p_1, x_p_2, x_p_3, x_p_4, x_p_5, x_p_6, x_p_7⟩ := box8f hq_p_1.out
    have l_p := heap_lt hq_p_1.out
    have g_p_0 := frozen_heap hq_p_1.out 0
    have g_p_1 := frozen_heap hq_p_1.out 1
    have g_p_2 := frozen_heap hq_p_1.out 2
    have g_p_3 := frozen_heap hq_p_1.out 3
    have g_p_4 := frozen_heap hq_p_1.out 4
    have g_p_5 := frozen_heap hq_p_1.out 5
    have g_p_6 := frozen_heap hq_p_1.out 6
    have g_p_7 := frozen_heap hq_p_1.out 7
    go_wp2_with fail
    have hp9 := box8_set (u0 := .slice none 0 0) (u1 := .slice none 0 0) (u2 := .int .i64 0) (u3 := .int .i64 0) (u4 := .int .i64 0) (u5 := .slice none 0 0) (u6 := .string ⟨#[]⟩) (u7 := .slice none 0 0) hq_p_1.out
    have hb9 := b_box8 (q := w.heap.size + 1) hb1.out (by omega) (.slice none 0 0) (.slice none 0 0) (.int .i64 0) (.int .i64 0) (.int .i64 0) (.slice none 0 0) (.string ⟨#[]⟩) (.slice none 0 0)
    obtain ⟨m0, m1, m2, m3, m4, m5, m6, m7⟩ := box8f hp9
    unfold box8 at *
    (try simp only [Exit.inBlock, Exit.then])
    refine bodyPost_ret (by simp [results, Tryz.results38, go_sem, m0, m1, m2, m3, m4, m5, m6, m7]; try rfl) rfl ?_
    exact pf_no hd.out hb9
end Go.Proofs.YtkbijjglodnfbaaGreat
