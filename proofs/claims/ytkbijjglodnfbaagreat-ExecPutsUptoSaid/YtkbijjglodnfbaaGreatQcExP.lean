/-
  exec.Put: what it answers. Printed by gen_exp.py.
-/
import Derived.Test.YtkbijjglodnfbaaGreatQcExM
namespace Go.Proofs.YtkbijjglodnfbaaGreat
open Go.RowKit

set_option maxRecDepth 100000 in
set_option maxHeartbeats 8000000 in
theorem exec_Put' (v u gv fv : Value) (bs : List Blob) (es : List Entry) (r t ph : Int) (pl : ByteArray) (gy : List ByteArray) (fl : List Flight) (s : ByteArray) (b : Value) (ps : List Part) (w : World) (h : RBl w v bs) (g : RE w u es) (hg : RT w gv gy) (hfl : RF w fv fl) (gd : RP w b ps) (z ee ei : Int) (f : Bool) (O : CoOut) (hf : (ee == 0) = f)
    (hch : ∀ w, RBl w v bs → RE w u es → RT w gv gy → RF w fv fl → Calls Tryz.prog 72 #[.agg #[v, u, .int .i64 r, .int .i64 t, .int .i64 ph, gv, .string pl, fv]] w fun e w' => e = .returned (.int .i64 z) ∧ Below w.heap.size w w')
    (hfind : ∀ w, RF w fv fl → Calls Tryz.prog 92 #[fv, .string s] w fun e w' => e = .returned (.tuple #[.int .i64 ei, .int .i64 ee]) ∧ Below w.heap.size w w')
    (hcp : ∀ w, RF w fv fl → Calls Tryz.prog 93 #[fv] w fun e w' => ∃ v', e = .returned v' ∧ OFlight w' w.heap.size v' fl ∧ Below w.heap.size w w')
    (hput : ∀ w, RBl w v bs → RE w u es → RT w gv gy → RP w b ps → Calls Tryz.prog 35 #[.agg #[v, u, .int .i64 r, .int .i64 t], .agg #[.int .i64 ph, gv, .string pl], .string s, b] w (CoResO O w)) :
    Calls Tryz.prog 37 #[.agg #[v, u, .int .i64 r, .int .i64 t, .int .i64 ph, gv, .string pl, fv], .string s, b] w (PfRes (lputOut z f O fl) w) := by
  replace hch := hid hch
  replace hfind := hid hfind
  have hR := hid h
  have hE := hid g
  have hG := hid hg
  have hF := hid hfl
  have hff := hid (And.intro (rf_bound hfl) (fit_F hfl))
  have hD := hid gd
  obtain ⟨a, c, rfl, -⟩ := h
  obtain ⟨a2, c2, rfl, -⟩ := g
  obtain ⟨ga, gc, rfl, -⟩ := hg
  obtain ⟨fa, fc, rfl, -⟩ := hfl
  replace hcp := hid hcp
  unfold CoResO VS at hput
  by_cases hz : z = 0
  · subst hz
    cases f with
    | true =>
      have hd := hid (lput_held (O := O) (L := fl))
      clear hput hcp
      go_enter Tryz.func37, Tryz.ntmps37
      go_wp2_with fail
      ((with_reducible refine (hch.out _ (hR.out.mono EBlob.stable (b_alloc (b_alloc (Below.refl w.heap.size w) _) _)) (hE.out.mono EEntry.stable (b_alloc (b_alloc (Below.refl w.heap.size w) _) _)) (hG.out.mono EStr.stable (b_alloc (b_alloc (Below.refl w.heap.size w) _) _)) (hF.out.mono EFlight.stable (b_alloc (b_alloc (Below.refl w.heap.size w) _) _))).mono ?_); rintro e1 w1 ⟨rfl, b1⟩)
      have hq_q_1 := hid (stays b1 (hold (heap_put w _ (w.heap.size) (by simp))))
      have hq_p_1 := hid (stays b1 (heap_put _ _ (w.heap.size + 1) (by simp)))
      have hb1 := hid (b_call (b_alloc (b_alloc (Below.refl w.heap.size w) _) _) b1)
      have r_R_1 := hid (hR.out.mono EBlob.stable (b_call (b_alloc (b_alloc (Below.refl w.heap.size w) _) _) b1))
      have r_E_1 := hid (hE.out.mono EEntry.stable (b_call (b_alloc (b_alloc (Below.refl w.heap.size w) _) _) b1))
      have r_G_1 := hid (hG.out.mono EStr.stable (b_call (b_alloc (b_alloc (Below.refl w.heap.size w) _) _) b1))
      have r_F_1 := hid (hF.out.mono EFlight.stable (b_call (b_alloc (b_alloc (Below.refl w.heap.size w) _) _) b1))
      have r_D_1 := hid (hD.out.mono EPart.stable (b_call (b_alloc (b_alloc (Below.refl w.heap.size w) _) _) b1))
      clear b1
      obtain ⟨x_q_0, x_q_1, x_q_2, x_q_3, x_q_4, x_q_5, x_q_6, x_q_7⟩ := box8f hq_q_1.out
      go_wp2_with fail
      ((with_reducible refine (hfind.out _ r_F_1.out).mono ?_); rintro e2 w2 ⟨rfl, b2⟩)
      clear x_q_0 x_q_1 x_q_2 x_q_3 x_q_4 x_q_5 x_q_6 x_q_7
      have hq_q_2 := hid (stays b2 hq_q_1.out)
      have hq_p_2 := hid (stays b2 hq_p_1.out)
      have hb2 := hid (b_call hb1.out b2)
      have r_R_2 := hid (r_R_1.out.mono EBlob.stable (b_call (Below.refl w1.heap.size w1) b2))
      have r_E_2 := hid (r_E_1.out.mono EEntry.stable (b_call (Below.refl w1.heap.size w1) b2))
      have r_G_2 := hid (r_G_1.out.mono EStr.stable (b_call (Below.refl w1.heap.size w1) b2))
      have r_F_2 := hid (r_F_1.out.mono EFlight.stable (b_call (Below.refl w1.heap.size w1) b2))
      have r_D_2 := hid (r_D_1.out.mono EPart.stable (b_call (Below.refl w1.heap.size w1) b2))
      clear hq_q_1 hq_p_1 hb1 r_R_1 r_E_1 r_G_1 r_F_1 r_D_1 b2
      obtain ⟨x_q_0, x_q_1, x_q_2, x_q_3, x_q_4, x_q_5, x_q_6, x_q_7⟩ := box8f hq_q_2.out
      obtain ⟨x_p_0, x_p_1, x_p_2, x_p_3, x_p_4, x_p_5, x_p_6, x_p_7⟩ := box8f hq_p_2.out
      have l_p := heap_lt hq_p_2.out
      have g_p_0 := frozen_heap hq_p_2.out 0
      have g_p_1 := frozen_heap hq_p_2.out 1
      have g_p_2 := frozen_heap hq_p_2.out 2
      have g_p_3 := frozen_heap hq_p_2.out 3
      have g_p_4 := frozen_heap hq_p_2.out 4
      have g_p_5 := frozen_heap hq_p_2.out 5
      have g_p_6 := frozen_heap hq_p_2.out 6
      have g_p_7 := frozen_heap hq_p_2.out 7
      go_wp2_with fail
      have hp9 := box8_set (u0 := .slice none 0 0) (u1 := .slice none 0 0) (u2 := .int .i64 0) (u3 := .int .i64 0) (u4 := .int .i64 0) (u5 := .slice none 0 0) (u6 := .string ⟨#[]⟩) (u7 := .slice none 0 0) hq_p_2.out
      have hb9 := b_box8 (q := w.heap.size + 1) hb2.out (by omega) (.slice none 0 0) (.slice none 0 0) (.int .i64 0) (.int .i64 0) (.int .i64 0) (.slice none 0 0) (.string ⟨#[]⟩) (.slice none 0 0)
      obtain ⟨m0, m1, m2, m3, m4, m5, m6, m7⟩ := box8f hp9
      unfold box8 at *
      (try simp only [Exit.inBlock, Exit.then])
      refine bodyPost_ret (by simp [results, Tryz.results37, go_sem, m0, m1, m2, m3, m4, m5, m6, m7]; try rfl) rfl ?_
      exact pf_no hd.out hb9
    | false =>
      by_cases hO : O.err = 0
      · obtain ⟨oe, ⟨B, E, r1, t1⟩, ⟨p1, G1, s1⟩⟩ := O
        simp only at hO
        subst hO
        have hd := hid (lput_ok (S := ⟨B, E, r1, t1⟩) (C := ⟨p1, G1, s1⟩) (L := fl))
        simp only at hput
        replace hput := hid hput
        go_enter Tryz.func37, Tryz.ntmps37
        go_wp2_with fail
        ((with_reducible refine (hch.out _ (hR.out.mono EBlob.stable (b_alloc (b_alloc (Below.refl w.heap.size w) _) _)) (hE.out.mono EEntry.stable (b_alloc (b_alloc (Below.refl w.heap.size w) _) _)) (hG.out.mono EStr.stable (b_alloc (b_alloc (Below.refl w.heap.size w) _) _)) (hF.out.mono EFlight.stable (b_alloc (b_alloc (Below.refl w.heap.size w) _) _))).mono ?_); rintro e1 w1 ⟨rfl, b1⟩)
        have hq_q_1 := hid (stays b1 (hold (heap_put w _ (w.heap.size) (by simp))))
        have hq_p_1 := hid (stays b1 (heap_put _ _ (w.heap.size + 1) (by simp)))
        have hb1 := hid (b_call (b_alloc (b_alloc (Below.refl w.heap.size w) _) _) b1)
        have r_R_1 := hid (hR.out.mono EBlob.stable (b_call (b_alloc (b_alloc (Below.refl w.heap.size w) _) _) b1))
        have r_E_1 := hid (hE.out.mono EEntry.stable (b_call (b_alloc (b_alloc (Below.refl w.heap.size w) _) _) b1))
        have r_G_1 := hid (hG.out.mono EStr.stable (b_call (b_alloc (b_alloc (Below.refl w.heap.size w) _) _) b1))
        have r_F_1 := hid (hF.out.mono EFlight.stable (b_call (b_alloc (b_alloc (Below.refl w.heap.size w) _) _) b1))
        have r_D_1 := hid (hD.out.mono EPart.stable (b_call (b_alloc (b_alloc (Below.refl w.heap.size w) _) _) b1))
        clear b1
        obtain ⟨x_q_0, x_q_1, x_q_2, x_q_3, x_q_4, x_q_5, x_q_6, x_q_7⟩ := box8f hq_q_1.out
        go_wp2_with fail
        ((with_reducible refine (hfind.out _ r_F_1.out).mono ?_); rintro e2 w2 ⟨rfl, b2⟩)
        clear x_q_0 x_q_1 x_q_2 x_q_3 x_q_4 x_q_5 x_q_6 x_q_7
        have hq_q_2 := hid (stays b2 hq_q_1.out)
        have hq_p_2 := hid (stays b2 hq_p_1.out)
        have hb2 := hid (b_call hb1.out b2)
        have r_R_2 := hid (r_R_1.out.mono EBlob.stable (b_call (Below.refl w1.heap.size w1) b2))
        have r_E_2 := hid (r_E_1.out.mono EEntry.stable (b_call (Below.refl w1.heap.size w1) b2))
        have r_G_2 := hid (r_G_1.out.mono EStr.stable (b_call (Below.refl w1.heap.size w1) b2))
        have r_F_2 := hid (r_F_1.out.mono EFlight.stable (b_call (Below.refl w1.heap.size w1) b2))
        have r_D_2 := hid (r_D_1.out.mono EPart.stable (b_call (Below.refl w1.heap.size w1) b2))
        clear hq_q_1 hq_p_1 hb1 r_R_1 r_E_1 r_G_1 r_F_1 r_D_1 b2
        obtain ⟨x_q_0, x_q_1, x_q_2, x_q_3, x_q_4, x_q_5, x_q_6, x_q_7⟩ := box8f hq_q_2.out
        go_wp2_with fail
        ((with_reducible refine (hput.out _ r_R_2.out r_E_2.out r_G_2.out r_D_2.out).mono ?_); rintro e3 w3 ⟨_, g1, rfl, ⟨A1, D1, rfl, rA, rD⟩, rg, og, b3⟩)
        clear x_q_0 x_q_1 x_q_2 x_q_3 x_q_4 x_q_5 x_q_6 x_q_7
        have hq_q_3 := hid (stays b3 hq_q_2.out)
        have hq_p_3 := hid (stays b3 hq_p_2.out)
        have hb3 := hid (b_call hb2.out b3)
        have r_R_3 := hid (r_R_2.out.mono EBlob.stable (b_call (Below.refl w2.heap.size w2) b3))
        have r_E_3 := hid (r_E_2.out.mono EEntry.stable (b_call (Below.refl w2.heap.size w2) b3))
        have r_G_3 := hid (r_G_2.out.mono EStr.stable (b_call (Below.refl w2.heap.size w2) b3))
        have r_F_3 := hid (r_F_2.out.mono EFlight.stable (b_call (Below.refl w2.heap.size w2) b3))
        have r_D_3 := hid (r_D_2.out.mono EPart.stable (b_call (Below.refl w2.heap.size w2) b3))
        have r_A_3 := hid rA
        have r_X_3 := hid rD
        have r_N_3 := hid rg
        have hsb : w.heap.size + 1 < w2.heap.size := heap_lt hq_p_2.out
        replace og : Hid (OS 9 1 cStr w3 w2.heap.size _ _) := hid og
        clear hq_q_2 hq_p_2 hb2 r_R_2 r_E_2 r_G_2 r_F_2 r_D_2 rA rD rg b3
        obtain ⟨a5, c5, rfl, -⟩ := id r_A_3.out
        obtain ⟨a6, c6, rfl, -⟩ := id r_X_3.out
        obtain ⟨a7, c7, rfl, -⟩ := id r_N_3.out
        have hs3 : w.heap.size + 2 ≤ w3.heap.size := heap_lt hq_p_3.out
        obtain ⟨x_q_0, x_q_1, x_q_2, x_q_3, x_q_4, x_q_5, x_q_6, x_q_7⟩ := box8f hq_q_3.out
        go_upto_region 8 with fail
        have hx4 := hid (alloc_keep (o := Obj.cells #[.int .i64 p1, .slice a7 G1.length c7, .string s1] 28) (heap_alloc_new w3 (Obj.cells #[.slice a5 B.length c5, .slice a6 E.length c6, .int .i64 r1, .int .i64 t1] 25)))
        have hn4 := hid (heap_put (w3.alloc (Obj.cells #[.slice a5 B.length c5, .slice a6 E.length c6, .int .i64 r1, .int .i64 t1] 25)) (Obj.cells #[.int .i64 p1, .slice a7 G1.length c7, .string s1] 28) (w3.heap.size + 1) (by simp))
        have hp4 := hid (alloc_keep (o := Obj.cells #[.int .i64 p1, .slice a7 G1.length c7, .string s1] 28) (alloc_keep (o := Obj.cells #[.slice a5 B.length c5, .slice a6 E.length c6, .int .i64 r1, .int .i64 t1] 25) hq_p_3.out))
        have hq4 := hid (alloc_keep (o := Obj.cells #[.int .i64 p1, .slice a7 G1.length c7, .string s1] 28) (alloc_keep (o := Obj.cells #[.slice a5 B.length c5, .slice a6 E.length c6, .int .i64 r1, .int .i64 t1] 25) hq_q_3.out))
        have hb4 := hid (b_alloc (b_alloc hb3.out (Obj.cells #[.slice a5 B.length c5, .slice a6 E.length c6, .int .i64 r1, .int .i64 t1] 25)) (Obj.cells #[.int .i64 p1, .slice a7 G1.length c7, .string s1] 28))
        have rb4 := hid (RS.al EBlob.stable (RS.al EBlob.stable r_A_3.out (Obj.cells #[.slice a5 B.length c5, .slice a6 E.length c6, .int .i64 r1, .int .i64 t1] 25)) (Obj.cells #[.int .i64 p1, .slice a7 G1.length c7, .string s1] 28))
        have re4 := hid (RS.al EEntry.stable (RS.al EEntry.stable r_X_3.out (Obj.cells #[.slice a5 B.length c5, .slice a6 E.length c6, .int .i64 r1, .int .i64 t1] 25)) (Obj.cells #[.int .i64 p1, .slice a7 G1.length c7, .string s1] 28))
        have rf4 := hid (RS.al EFlight.stable (RS.al EFlight.stable r_F_3.out (Obj.cells #[.slice a5 B.length c5, .slice a6 E.length c6, .int .i64 r1, .int .i64 t1] 25)) (Obj.cells #[.int .i64 p1, .slice a7 G1.length c7, .string s1] 28))
        have og4 := hid (OS.alloc (OS.alloc og.out (Obj.cells #[.slice a5 B.length c5, .slice a6 E.length c6, .int .i64 r1, .int .i64 t1] 25)) (Obj.cells #[.int .i64 p1, .slice a7 G1.length c7, .string s1] 28))
        have bt := hid (And.intro (rt_bound r_N_3.out) (rt_sizes r_N_3.out))
        generalize (w3.alloc (Obj.cells #[.slice a5 B.length c5, .slice a6 E.length c6, .int .i64 r1, .int .i64 t1] 25)).alloc (Obj.cells #[.int .i64 p1, .slice a7 G1.length c7, .string s1] 28) = w4 at *
        clear x_q_0 x_q_1 x_q_2 x_q_3 x_q_4 x_q_5 x_q_6 x_q_7 hq_q_3 hq_p_3 hb3 og r_R_3 r_E_3 r_G_3 r_F_3 r_D_3 r_A_3 r_X_3 r_N_3
        obtain ⟨x0, x1, x2, x3⟩ := box4f hx4.out
        obtain ⟨y0, y1, y2, -⟩ := box3f hn4.out
        obtain ⟨q0, q1, q2, q3, q4, q5, q6, q7⟩ := box8f hq4.out
        obtain ⟨z0, z1, z2, z3, z4, z5, z6, z7⟩ := box8f hp4.out
        have hl4 : w.heap.size + 1 < w4.heap.size := heap_lt hp4.out
        have g0 := frozen_heap hp4.out 0
        have g1 := frozen_heap hp4.out 1
        have g2 := frozen_heap hp4.out 2
        have g3 := frozen_heap hp4.out 3
        have g4 := frozen_heap hp4.out 4
        have g5 := frozen_heap hp4.out 5
        have g6 := frozen_heap hp4.out 6
        have g7 := frozen_heap hp4.out 7
        go_wp2_with fail
        go_region_law ((first
          | (go_simp
             (with_reducible refine (hcp.out _ (by first | exact rf4.out | exact rf4.out.mono EFlight.stable (Below.refl _ _).drew)).mono ?_)
             rintro e w5 ⟨v5, rfl, of5, b5⟩
             replace of5 : OFlight w5 w4.heap.size _ fl := of5
             have hb45 : Below w4.heap.size w4 w5 := b_call (by first | exact (Below.refl _ _).drew | exact Below.refl _ _) b5
             have hx5 := stays hb45 hx4.out
             have hn5 := stays hb45 hn4.out
             have hp5 := stays hb45 hp4.out
             have hb5 := b_call hb4.out hb45
             have rb5 := rb4.out.mono EBlob.stable hb45
             have re5 := re4.out.mono EEntry.stable hb45
             have og5 := OS.below og4.out hb45
             obtain ⟨a8, c8, rfl⟩ := OX.lenOf of5
             obtain ⟨x0', x1', x2', x3'⟩ := box4f hx5
             obtain ⟨y0', y1', y2', -⟩ := box3f hn5
             obtain ⟨z0', z1', z2', z3', z4', z5', z6', z7'⟩ := box8f hp5
             have g0' := frozen_heap hp5 0
             have g1' := frozen_heap hp5 1
             have g2' := frozen_heap hp5 2
             have g3' := frozen_heap hp5 3
             have g4' := frozen_heap hp5 4
             have g5' := frozen_heap hp5 5
             have g6' := frozen_heap hp5 6
             have g7' := frozen_heap hp5 7)
          | fail))
        all_goals
          (clear x0 x1 x2 x3 y0 y1 y2 q0 q1 q2 q3 q4 q5 q6 q7 z0 z1 z2 z3 z4 z5 z6 z7 g0 g1 g2 g3 g4 g5 g6 g7 x0' x1' x2' x3' y0' y1' y2'
           go_wp2_with fail
           have hp9 := box8_set (u0 := .slice a5 B.length c5) (u1 := .slice a6 E.length c6) (u2 := .int .i64 r1) (u3 := .int .i64 t1) (u4 := .int .i64 p1) (u5 := .slice a7 G1.length c7) (u6 := .string s1) (u7 := .slice a8 fl.length c8) hp5
           have hb9 := b_box8 (q := w.heap.size + 1) hb5 (by omega) (.slice a5 B.length c5) (.slice a6 E.length c6) (.int .i64 r1) (.int .i64 t1) (.int .i64 p1) (.slice a7 G1.length c7) (.string s1) (.slice a8 fl.length c8)
           have lb9 : LBox _ _ := ⟨_, _, _, _, _, _, _, _, _, _, _, _, _, _, _, _, _, hp5⟩
           have rl9 := rs_b8 EBlob.writesL rb5 lb9 a5 B.length c5 a6 E.length c6 r1 t1 p1 a7 G1.length c7 s1 (.slice a8 fl.length c8)
           have re9 := rs_b8 EEntry.writesL re5 lb9 a5 B.length c5 a6 E.length c6 r1 t1 p1 a7 G1.length c7 s1 (.slice a8 fl.length c8)
           have ot9 := reads_str (OS.box8 (q := w.heap.size + 1) (u0 := .slice a5 B.length c5) (u1 := .slice a6 E.length c6) (u2 := .int .i64 r1) (u3 := .int .i64 t1) (u4 := .int .i64 p1) (u5 := .slice a7 G1.length c7) (u6 := .string s1) (u7 := .slice a8 fl.length c8) og5 (by omega)) bt.out.1 bt.out.2
           have of9 := (OFlight.box8 (q := w.heap.size + 1) (u0 := .slice a5 B.length c5) (u1 := .slice a6 E.length c6) (u2 := .int .i64 r1) (u3 := .int .i64 t1) (u4 := .int .i64 p1) (u5 := .slice a7 G1.length c7) (u6 := .string s1) (u7 := .slice a8 fl.length c8) of5 (by omega)).toR hff.out.1 hff.out.2
           obtain ⟨m0, m1, m2, m3, m4, m5, m6, m7⟩ := box8f hp9
           unfold box8 at *
           (try simp only [Exit.inBlock, Exit.then])
           refine bodyPost_ret (by simp [results, Tryz.results37, go_sem, m0, m1, m2, m3, m4, m5, m6, m7]; try rfl) rfl ?_
           with_reducible exact pf_ok hd.out rl9 re9 ot9 of9 hb9)
      · have hd := hid (lput_put (L := fl) hO)
        obtain ⟨oe, ⟨B, E, r1, t1⟩, ⟨p1, G1, s1⟩⟩ := O
        simp only at hO hd hput
        have q1 : (oe != 0) = true := by simp [hO]
        replace hO := hid hO
        replace hput := hid hput
        clear hcp
        go_enter Tryz.func37, Tryz.ntmps37
        go_wp2_with fail
        ((with_reducible refine (hch.out _ (hR.out.mono EBlob.stable (b_alloc (b_alloc (Below.refl w.heap.size w) _) _)) (hE.out.mono EEntry.stable (b_alloc (b_alloc (Below.refl w.heap.size w) _) _)) (hG.out.mono EStr.stable (b_alloc (b_alloc (Below.refl w.heap.size w) _) _)) (hF.out.mono EFlight.stable (b_alloc (b_alloc (Below.refl w.heap.size w) _) _))).mono ?_); rintro e1 w1 ⟨rfl, b1⟩)
        have hq_q_1 := hid (stays b1 (hold (heap_put w _ (w.heap.size) (by simp))))
        have hq_p_1 := hid (stays b1 (heap_put _ _ (w.heap.size + 1) (by simp)))
        have hb1 := hid (b_call (b_alloc (b_alloc (Below.refl w.heap.size w) _) _) b1)
        have r_R_1 := hid (hR.out.mono EBlob.stable (b_call (b_alloc (b_alloc (Below.refl w.heap.size w) _) _) b1))
        have r_E_1 := hid (hE.out.mono EEntry.stable (b_call (b_alloc (b_alloc (Below.refl w.heap.size w) _) _) b1))
        have r_G_1 := hid (hG.out.mono EStr.stable (b_call (b_alloc (b_alloc (Below.refl w.heap.size w) _) _) b1))
        have r_F_1 := hid (hF.out.mono EFlight.stable (b_call (b_alloc (b_alloc (Below.refl w.heap.size w) _) _) b1))
        have r_D_1 := hid (hD.out.mono EPart.stable (b_call (b_alloc (b_alloc (Below.refl w.heap.size w) _) _) b1))
        clear b1
        obtain ⟨x_q_0, x_q_1, x_q_2, x_q_3, x_q_4, x_q_5, x_q_6, x_q_7⟩ := box8f hq_q_1.out
        go_wp2_with fail
        ((with_reducible refine (hfind.out _ r_F_1.out).mono ?_); rintro e2 w2 ⟨rfl, b2⟩)
        clear x_q_0 x_q_1 x_q_2 x_q_3 x_q_4 x_q_5 x_q_6 x_q_7
        have hq_q_2 := hid (stays b2 hq_q_1.out)
        have hq_p_2 := hid (stays b2 hq_p_1.out)
        have hb2 := hid (b_call hb1.out b2)
        have r_R_2 := hid (r_R_1.out.mono EBlob.stable (b_call (Below.refl w1.heap.size w1) b2))
        have r_E_2 := hid (r_E_1.out.mono EEntry.stable (b_call (Below.refl w1.heap.size w1) b2))
        have r_G_2 := hid (r_G_1.out.mono EStr.stable (b_call (Below.refl w1.heap.size w1) b2))
        have r_F_2 := hid (r_F_1.out.mono EFlight.stable (b_call (Below.refl w1.heap.size w1) b2))
        have r_D_2 := hid (r_D_1.out.mono EPart.stable (b_call (Below.refl w1.heap.size w1) b2))
        clear hq_q_1 hq_p_1 hb1 r_R_1 r_E_1 r_G_1 r_F_1 r_D_1 b2
        obtain ⟨x_q_0, x_q_1, x_q_2, x_q_3, x_q_4, x_q_5, x_q_6, x_q_7⟩ := box8f hq_q_2.out
        go_wp2_with fail
        ((with_reducible refine (hput.out _ r_R_2.out r_E_2.out r_G_2.out r_D_2.out).mono ?_); rintro e3 w3 ⟨_, g1, rfl, ⟨A1, D1, rfl, rA, rD⟩, rg, og, b3⟩)
        clear x_q_0 x_q_1 x_q_2 x_q_3 x_q_4 x_q_5 x_q_6 x_q_7
        have hq_q_3 := hid (stays b3 hq_q_2.out)
        have hq_p_3 := hid (stays b3 hq_p_2.out)
        have hb3 := hid (b_call hb2.out b3)
        have r_R_3 := hid (r_R_2.out.mono EBlob.stable (b_call (Below.refl w2.heap.size w2) b3))
        have r_E_3 := hid (r_E_2.out.mono EEntry.stable (b_call (Below.refl w2.heap.size w2) b3))
        have r_G_3 := hid (r_G_2.out.mono EStr.stable (b_call (Below.refl w2.heap.size w2) b3))
        have r_F_3 := hid (r_F_2.out.mono EFlight.stable (b_call (Below.refl w2.heap.size w2) b3))
        have r_D_3 := hid (r_D_2.out.mono EPart.stable (b_call (Below.refl w2.heap.size w2) b3))
        have r_A_3 := hid rA
        have r_X_3 := hid rD
        have r_N_3 := hid rg
        have hsb : w.heap.size + 1 < w2.heap.size := heap_lt hq_p_2.out
        replace og : Hid (OS 9 1 cStr w3 w2.heap.size _ _) := hid og
        clear hq_q_2 hq_p_2 hb2 r_R_2 r_E_2 r_G_2 r_F_2 r_D_2 rA rD rg b3
        obtain ⟨a5, c5, rfl, -⟩ := id r_A_3.out
        obtain ⟨a6, c6, rfl, -⟩ := id r_X_3.out
        obtain ⟨a7, c7, rfl, -⟩ := id r_N_3.out
        have hs3 : w.heap.size + 2 ≤ w3.heap.size := heap_lt hq_p_3.out
        obtain ⟨x_q_0, x_q_1, x_q_2, x_q_3, x_q_4, x_q_5, x_q_6, x_q_7⟩ := box8f hq_q_3.out
        go_upto_region 8 with fail
        have hx4 := hid (alloc_keep (o := Obj.cells #[.int .i64 p1, .slice a7 G1.length c7, .string s1] 28) (heap_alloc_new w3 (Obj.cells #[.slice a5 B.length c5, .slice a6 E.length c6, .int .i64 r1, .int .i64 t1] 25)))
        have hn4 := hid (heap_put (w3.alloc (Obj.cells #[.slice a5 B.length c5, .slice a6 E.length c6, .int .i64 r1, .int .i64 t1] 25)) (Obj.cells #[.int .i64 p1, .slice a7 G1.length c7, .string s1] 28) (w3.heap.size + 1) (by simp))
        have hp4 := hid (alloc_keep (o := Obj.cells #[.int .i64 p1, .slice a7 G1.length c7, .string s1] 28) (alloc_keep (o := Obj.cells #[.slice a5 B.length c5, .slice a6 E.length c6, .int .i64 r1, .int .i64 t1] 25) hq_p_3.out))
        have hq4 := hid (alloc_keep (o := Obj.cells #[.int .i64 p1, .slice a7 G1.length c7, .string s1] 28) (alloc_keep (o := Obj.cells #[.slice a5 B.length c5, .slice a6 E.length c6, .int .i64 r1, .int .i64 t1] 25) hq_q_3.out))
        have hb4 := hid (b_alloc (b_alloc hb3.out (Obj.cells #[.slice a5 B.length c5, .slice a6 E.length c6, .int .i64 r1, .int .i64 t1] 25)) (Obj.cells #[.int .i64 p1, .slice a7 G1.length c7, .string s1] 28))
        have rb4 := hid (RS.al EBlob.stable (RS.al EBlob.stable r_A_3.out (Obj.cells #[.slice a5 B.length c5, .slice a6 E.length c6, .int .i64 r1, .int .i64 t1] 25)) (Obj.cells #[.int .i64 p1, .slice a7 G1.length c7, .string s1] 28))
        have re4 := hid (RS.al EEntry.stable (RS.al EEntry.stable r_X_3.out (Obj.cells #[.slice a5 B.length c5, .slice a6 E.length c6, .int .i64 r1, .int .i64 t1] 25)) (Obj.cells #[.int .i64 p1, .slice a7 G1.length c7, .string s1] 28))
        have rf4 := hid (RS.al EFlight.stable (RS.al EFlight.stable r_F_3.out (Obj.cells #[.slice a5 B.length c5, .slice a6 E.length c6, .int .i64 r1, .int .i64 t1] 25)) (Obj.cells #[.int .i64 p1, .slice a7 G1.length c7, .string s1] 28))
        have og4 := hid (OS.alloc (OS.alloc og.out (Obj.cells #[.slice a5 B.length c5, .slice a6 E.length c6, .int .i64 r1, .int .i64 t1] 25)) (Obj.cells #[.int .i64 p1, .slice a7 G1.length c7, .string s1] 28))
        have bt := hid (And.intro (rt_bound r_N_3.out) (rt_sizes r_N_3.out))
        generalize (w3.alloc (Obj.cells #[.slice a5 B.length c5, .slice a6 E.length c6, .int .i64 r1, .int .i64 t1] 25)).alloc (Obj.cells #[.int .i64 p1, .slice a7 G1.length c7, .string s1] 28) = w4 at *
        clear x_q_0 x_q_1 x_q_2 x_q_3 x_q_4 x_q_5 x_q_6 x_q_7 hq_q_3 hq_p_3 hb3 og r_R_3 r_E_3 r_G_3 r_F_3 r_D_3 r_A_3 r_X_3 r_N_3
        obtain ⟨x0, x1, x2, x3⟩ := box4f hx4.out
        obtain ⟨y0, y1, y2, -⟩ := box3f hn4.out
        obtain ⟨q0, q1, q2, q3, q4, q5, q6, q7⟩ := box8f hq4.out
        obtain ⟨z0, z1, z2, z3, z4, z5, z6, z7⟩ := box8f hp4.out
        have hl4 : w.heap.size + 1 < w4.heap.size := heap_lt hp4.out
        have g0 := frozen_heap hp4.out 0
        have g1 := frozen_heap hp4.out 1
        have g2 := frozen_heap hp4.out 2
        have g3 := frozen_heap hp4.out 3
        have g4 := frozen_heap hp4.out 4
        have g5 := frozen_heap hp4.out 5
        have g6 := frozen_heap hp4.out 6
        have g7 := frozen_heap hp4.out 7
        go_wp2_with fail
        have hp9 := box8_set (u0 := .slice none 0 0) (u1 := .slice none 0 0) (u2 := .int .i64 0) (u3 := .int .i64 0) (u4 := .int .i64 0) (u5 := .slice none 0 0) (u6 := .string ⟨#[]⟩) (u7 := .slice none 0 0) hp4.out
        have hb9 := b_box8 (q := w.heap.size + 1) hb4.out (by omega) (.slice none 0 0) (.slice none 0 0) (.int .i64 0) (.int .i64 0) (.int .i64 0) (.slice none 0 0) (.string ⟨#[]⟩) (.slice none 0 0)
        obtain ⟨m0, m1, m2, m3, m4, m5, m6, m7⟩ := box8f hp9
        unfold box8 at *
        (try simp only [Exit.inBlock, Exit.then])
        refine bodyPost_ret (by simp [results, Tryz.results37, go_sem, m0, m1, m2, m3, m4, m5, m6, m7]; try rfl) rfl ?_
        exact pf_no hd.out hb9
  · have ht : (z != 0) = true := by simp [hz]
    have hd := hid (lput_bad (f := f) (O := O) (L := fl) hz)
    replace hz := hid hz
    clear hput hfind hcp
    go_enter Tryz.func37, Tryz.ntmps37
    go_wp2_with fail
    ((with_reducible refine (hch.out _ (hR.out.mono EBlob.stable (b_alloc (b_alloc (Below.refl w.heap.size w) _) _)) (hE.out.mono EEntry.stable (b_alloc (b_alloc (Below.refl w.heap.size w) _) _)) (hG.out.mono EStr.stable (b_alloc (b_alloc (Below.refl w.heap.size w) _) _)) (hF.out.mono EFlight.stable (b_alloc (b_alloc (Below.refl w.heap.size w) _) _))).mono ?_); rintro e1 w1 ⟨rfl, b1⟩)
    have hq_q_1 := hid (stays b1 (hold (heap_put w _ (w.heap.size) (by simp))))
    have hq_p_1 := hid (stays b1 (heap_put _ _ (w.heap.size + 1) (by simp)))
    have hb1 := hid (b_call (b_alloc (b_alloc (Below.refl w.heap.size w) _) _) b1)
    have r_R_1 := hid (hR.out.mono EBlob.stable (b_call (b_alloc (b_alloc (Below.refl w.heap.size w) _) _) b1))
    have r_E_1 := hid (hE.out.mono EEntry.stable (b_call (b_alloc (b_alloc (Below.refl w.heap.size w) _) _) b1))
    have r_G_1 := hid (hG.out.mono EStr.stable (b_call (b_alloc (b_alloc (Below.refl w.heap.size w) _) _) b1))
    have r_F_1 := hid (hF.out.mono EFlight.stable (b_call (b_alloc (b_alloc (Below.refl w.heap.size w) _) _) b1))
    have r_D_1 := hid (hD.out.mono EPart.stable (b_call (b_alloc (b_alloc (Below.refl w.heap.size w) _) _) b1))
    clear b1
    obtain ⟨x_q_0, x_q_1, x_q_2, x_q_3, x_q_4, x_q_5, x_q_6, x_q_7⟩ := box8f hq_q_1.out
    obtain ⟨x_p_0, x_p_1, x_p_2, x_p_3, x_p_4, x_p_5, x_p_6, x_p_7⟩ := box8f hq_p_1.out
    have l_p := heap_lt hq_p_1.out
    have g_p_0 := frozen_heap hq_p_1.out 0
    have g_p_1 := frozen_heap hq_p_1.out 1
    have g_p_2 := frozen_heap hq_p_1.out 2
    have g_p_3 := frozen_heap hq_p_1.out 3
    have g_p_4 := frozen_heap hq_p_1.out 4
    have g_p_5 := frozen_heap hq_p_1.out 5
    have g_p_6 := frozen_heap hq_p_1.out 6
    have g_p_7 := frozen_heap hq_p_1.out 7
    go_wp2_with fail
    have hp9 := box8_set (u0 := .slice none 0 0) (u1 := .slice none 0 0) (u2 := .int .i64 0) (u3 := .int .i64 0) (u4 := .int .i64 0) (u5 := .slice none 0 0) (u6 := .string ⟨#[]⟩) (u7 := .slice none 0 0) hq_p_1.out
    have hb9 := b_box8 (q := w.heap.size + 1) hb1.out (by omega) (.slice none 0 0) (.slice none 0 0) (.int .i64 0) (.int .i64 0) (.int .i64 0) (.slice none 0 0) (.string ⟨#[]⟩) (.slice none 0 0)
    obtain ⟨m0, m1, m2, m3, m4, m5, m6, m7⟩ := box8f hp9
    unfold box8 at *
    (try simp only [Exit.inBlock, Exit.then])
    refine bodyPost_ret (by simp [results, Tryz.results37, go_sem, m0, m1, m2, m3, m4, m5, m6, m7]; try rfl) rfl ?_
    exact pf_no hd.out hb9
end Go.Proofs.YtkbijjglodnfbaaGreat
