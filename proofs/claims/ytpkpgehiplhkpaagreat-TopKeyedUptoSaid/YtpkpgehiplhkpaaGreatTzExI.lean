import Derived.Test.YtpkpgehiplhkpaaGreatTzExB
namespace Go.Proofs.YtpkpgehiplhkpaaGreat
open Go.RowKit
theorem qzexi_1 {P : Prop} (h : P := by
 obtain ⟨m0, m1, m2, m3, m4, m5, m6, m7⟩ := box8f hp9
 unfold box8 at *
 (try simp only [Exit.inBlock, Exit.then])
 refine bodyPost_ret (by simp [results, Tryz.results155, go_sem, m0, m1, m2, m3, m4, m5, m6, m7]; try rfl) rfl ?_
 exact lf_no hd.out hb9) : P := h
set_option maxRecDepth 100000 in
set_option maxHeartbeats 8000000 in
theorem exec_Done' (v u gv fv : Value) (bs : List Blob) (es : List Entry) (r t ph : Int) (pl : ByteArray) (gy : List ByteArray) (fl : List Flight) (s : ByteArray) (b : Value) (ps : List Part) (w : World) (h : RBl w v bs) (g : RE w u es) (hg : RT w gv gy) (hfl : RF w fv fl) (gd : RP w b ps) (z e1 : Int) (L : List Flight) (wh : List Int) (O : CoOut)
 (hch : ∀ w, RBl w v bs → RE w u es → RT w gv gy → RF w fv fl → Calls Tryz.prog 27 #[.agg #[v, u, .int .i64 r, .int .i64 t, .int .i64 ph, gv, .string pl, fv]] w fun e w' => e = .returned (.int .i64 z) ∧ Below w.heap.size w w')
 (hend : ∀ w, RF w fv fl → Calls Tryz.prog 219 #[fv, .string s] w (EndedO e1 L wh w))
 (hput : ∀ w, RBl w v bs → RE w u es → RT w gv gy → RP w b ps → Calls Tryz.prog 211 #[.agg #[v, u, .int .i64 r, .int .i64 t], .agg #[.int .i64 ph, gv, .string pl], .string s, b] w (CoResO O w)) :
 Calls Tryz.prog 155 #[.agg #[v, u, .int .i64 r, .int .i64 t, .int .i64 ph, gv, .string pl, fv], .string s, b] w (LfRes (doneOut z e1 O L wh) w) := by
 replace hch := hid hch
 have hR := hid h
 have hE := hid g
 have hG := hid hg
 have hF := hid hfl
 have hf1 := hid (fit_B h)
 have hf2 := hid (fit_E g)
 have hgb := hid (rt_bound hg)
 have hgs := hid (rt_sizes hg)
 have hD := hid gd
 obtain ⟨a, c, rfl, -, -, hre, -⟩ := h
 obtain ⟨a2, c2, rfl, -, -, hre2, -⟩ := g
 obtain ⟨ga, gc, rfl, -⟩ := hg
 obtain ⟨fa, fc, rfl, -⟩ := hfl
 unfold EndedO at hend
 replace hend := hid hend
 unfold CoResO VS at hput
 by_cases hz : z = 0
 · subst hz
   by_cases he : e1 = 0
   · subst he
     by_cases hO : O.err = 0
     · obtain ⟨oe, ⟨B, E, r1, t1⟩, ⟨p1, G1, s1⟩⟩ := O
       simp only at hO
       subst hO
       have hd := hid (done_ok (S := ⟨B, E, r1, t1⟩) (C := ⟨p1, G1, s1⟩) (L := L) (wh := wh))
       simp only at hput
       replace hput := hid hput
       go_enter Tryz.func155, Tryz.ntmps155
       go_wp2_with fail
       ((with_reducible refine (hch.out _ (hR.out.mono EBlob.stable (b_alloc (b_alloc (Below.refl _ w) _) _)) (hE.out.mono EEntry.stable (b_alloc (b_alloc (Below.refl _ w) _) _)) (hG.out.mono EStr.stable (b_alloc (b_alloc (Below.refl _ w) _) _)) (hF.out.mono EFlight.stable (b_alloc (b_alloc (Below.refl _ w) _) _))).mono ?_); rintro e1 w1 ⟨rfl, b1⟩)
       have hq_q_1 := hid (stays b1 (hold (heap_put w _ (w.heap.size) (by simp))))
       have hq_p_1 := hid (stays b1 (heap_put _ _ (w.heap.size + 1) (by simp)))
       have hb1 := hid (b_call (b_alloc (b_alloc (Below.refl _ w) _) _) b1)
       have r_R_1 := hid (hR.out.mono EBlob.stable (b_call (b_alloc (b_alloc (Below.refl _ w) _) _) b1))
       have r_E_1 := hid (hE.out.mono EEntry.stable (b_call (b_alloc (b_alloc (Below.refl _ w) _) _) b1))
       have r_G_1 := hid (hG.out.mono EStr.stable (b_call (b_alloc (b_alloc (Below.refl _ w) _) _) b1))
       have r_F_1 := hid (hF.out.mono EFlight.stable (b_call (b_alloc (b_alloc (Below.refl _ w) _) _) b1))
       have r_D_1 := hid (hD.out.mono EPart.stable (b_call (b_alloc (b_alloc (Below.refl _ w) _) _) b1))
       clear b1
       obtain ⟨x_q_0, x_q_1, x_q_2, x_q_3, x_q_4, x_q_5, x_q_6, x_q_7⟩ := box8f hq_q_1.out
       go_wp2_with fail
       ((with_reducible refine (hend.out _ r_F_1.out).mono ?_); rintro e2 w2 ⟨v8, v9, rfl, rf8, ri9, b2, of8, oi9'⟩)
       clear x_q_0 x_q_1 x_q_2 x_q_3 x_q_4 x_q_5 x_q_6 x_q_7
       have hq_q_2 := hid (stays b2 hq_q_1.out)
       have hq_p_2 := hid (stays b2 hq_p_1.out)
       have hb2 := hid (b_call hb1.out b2)
       have r_R_2 := hid (r_R_1.out.mono EBlob.stable (b_call (Below.refl w1.heap.size w1) b2))
       have r_E_2 := hid (r_E_1.out.mono EEntry.stable (b_call (Below.refl w1.heap.size w1) b2))
       have r_G_2 := hid (r_G_1.out.mono EStr.stable (b_call (Below.refl w1.heap.size w1) b2))
       have r_F_2 := hid (r_F_1.out.mono EFlight.stable (b_call (Below.refl w1.heap.size w1) b2))
       have r_D_2 := hid (r_D_1.out.mono EPart.stable (b_call (Below.refl w1.heap.size w1) b2))
       have r_L_2 := hid rf8
       have r_H_2 := hid ri9
       have hs1 : w.heap.size + 1 < w1.heap.size := heap_lt hq_p_1.out
       have hs12 := b2.size
       replace of8 := hid of8
       replace oi9' := hid oi9'
       clear hq_q_1 hq_p_1 hb1 r_R_1 r_E_1 r_G_1 r_F_1 r_D_1 rf8 ri9 b2
       obtain ⟨x_q_0, x_q_1, x_q_2, x_q_3, x_q_4, x_q_5, x_q_6, x_q_7⟩ := box8f hq_q_2.out
       go_wp2_with fail
       ((with_reducible refine (hput.out _ r_R_2.out r_E_2.out r_G_2.out r_D_2.out).mono ?_); rintro e3 w3 ⟨_, g1, rfl, ⟨A1, D1, rfl, rA, rD⟩, rg, og, b3⟩)
       clear x_q_0 x_q_1 x_q_2 x_q_3 x_q_4 x_q_5 x_q_6 x_q_7
       have hq_q_3 := hid (stays b3 hq_q_2.out)
       have hq_p_3 := hid (stays b3 hq_p_2.out)
       have hb3 := hid (b_call hb2.out b3)
       have r_R_3 := hid (r_R_2.out.mono EBlob.stable (b_call (Below.refl w2.heap.size w2) b3))
       have r_E_3 := hid (r_E_2.out.mono EEntry.stable (b_call (Below.refl w2.heap.size w2) b3))
       have r_G_3 := hid (r_G_2.out.mono EStr.stable (b_call (Below.refl w2.heap.size w2) b3))
       have r_F_3 := hid (r_F_2.out.mono EFlight.stable (b_call (Below.refl w2.heap.size w2) b3))
       have r_D_3 := hid (r_D_2.out.mono EPart.stable (b_call (Below.refl w2.heap.size w2) b3))
       have r_L_3 := hid (r_L_2.out.mono EFlight.stable (b_call (Below.refl w2.heap.size w2) b3))
       have r_H_3 := hid (r_H_2.out.mono EI.stable (b_call (Below.refl w2.heap.size w2) b3))
       have r_A_3 := hid rA
       have r_X_3 := hid rD
       have r_N_3 := hid rg
       have of3 := hid (OFlight.after of8.out b3)
       have oi3 := hid (OS.below oi9'.out b3)
       replace og := hid og
       clear of8 oi9'
       clear hq_q_2 hq_p_2 hb2 r_R_2 r_E_2 r_G_2 r_F_2 r_D_2 r_L_2 r_H_2 rA rD rg b3
       obtain ⟨a5, c5, rfl, -⟩ := id r_A_3.out
       obtain ⟨a6, c6, rfl, -⟩ := id r_X_3.out
       obtain ⟨a7, c7, rfl, -⟩ := id r_N_3.out
       obtain ⟨a8, c8, rfl, -⟩ := id r_L_3.out
       obtain ⟨a9, c9, rfl, -⟩ := id r_H_3.out
       have hs3 : w.heap.size + 2 ≤ w3.heap.size := heap_lt hq_p_3.out
       obtain ⟨x_q_0, x_q_1, x_q_2, x_q_3, x_q_4, x_q_5, x_q_6, x_q_7⟩ := box8f hq_q_3.out
       go_upto_region 8 with fail
       have hx4 := hid (alloc_keep (o := Obj.cells #[.int .i64 p1, .slice a7 G1.length c7, .string s1] 32) (heap_alloc_new w3 (Obj.cells #[.slice a5 B.length c5, .slice a6 E.length c6, .int .i64 r1, .int .i64 t1] 29)))
       have hn4 := hid (heap_put (w3.alloc (Obj.cells #[.slice a5 B.length c5, .slice a6 E.length c6, .int .i64 r1, .int .i64 t1] 29)) (Obj.cells #[.int .i64 p1, .slice a7 G1.length c7, .string s1] 32) (w3.heap.size + 1) (by simp))
       have hp4 := hid (alloc_keep (o := Obj.cells #[.int .i64 p1, .slice a7 G1.length c7, .string s1] 32) (alloc_keep (o := Obj.cells #[.slice a5 B.length c5, .slice a6 E.length c6, .int .i64 r1, .int .i64 t1] 29) hq_p_3.out))
       have hb4 := hid (b_alloc (b_alloc hb3.out (Obj.cells #[.slice a5 B.length c5, .slice a6 E.length c6, .int .i64 r1, .int .i64 t1] 29)) (Obj.cells #[.int .i64 p1, .slice a7 G1.length c7, .string s1] 32))
       have rb4 := hid (RS.al EBlob.stable (RS.al EBlob.stable r_A_3.out (Obj.cells #[.slice a5 B.length c5, .slice a6 E.length c6, .int .i64 r1, .int .i64 t1] 29)) (Obj.cells #[.int .i64 p1, .slice a7 G1.length c7, .string s1] 32))
       have re4 := hid (RS.al EEntry.stable (RS.al EEntry.stable r_X_3.out (Obj.cells #[.slice a5 B.length c5, .slice a6 E.length c6, .int .i64 r1, .int .i64 t1] 29)) (Obj.cells #[.int .i64 p1, .slice a7 G1.length c7, .string s1] 32))
       have og4 := hid (OS.alloc (OS.alloc og.out (Obj.cells #[.slice a5 B.length c5, .slice a6 E.length c6, .int .i64 r1, .int .i64 t1] 29)) (Obj.cells #[.int .i64 p1, .slice a7 G1.length c7, .string s1] 32))
       have of4 := hid ((of3.out.after (b_alloc (Below.refl _ _) (Obj.cells #[.slice a5 B.length c5, .slice a6 E.length c6, .int .i64 r1, .int .i64 t1] 29))).after (b_alloc (Below.refl _ _) (Obj.cells #[.int .i64 p1, .slice a7 G1.length c7, .string s1] 32)))
       have oi4 := hid (OS.alloc (OS.alloc oi3.out (Obj.cells #[.slice a5 B.length c5, .slice a6 E.length c6, .int .i64 r1, .int .i64 t1] 29)) (Obj.cells #[.int .i64 p1, .slice a7 G1.length c7, .string s1] 32))
       have bt := hid (And.intro (rt_bound r_N_3.out) (rt_sizes r_N_3.out))
       have bf := hid (And.intro (rf_bound r_L_3.out) (fit_F r_L_3.out))
       have bi := hid (And.intro (ri_bound r_H_3.out) (ri_wf r_H_3.out))
       generalize (w3.alloc (Obj.cells #[.slice a5 B.length c5, .slice a6 E.length c6, .int .i64 r1, .int .i64 t1] 29)).alloc (Obj.cells #[.int .i64 p1, .slice a7 G1.length c7, .string s1] 32) = w4 at *
       clear x_q_0 x_q_1 x_q_2 x_q_3 x_q_4 x_q_5 x_q_6 x_q_7 hq_q_3 hq_p_3 hb3 og of3 oi3 r_R_3 r_E_3 r_G_3 r_F_3 r_A_3 r_X_3 r_N_3 r_L_3 r_H_3
       obtain ⟨x0, x1, x2, x3⟩ := box4f hx4.out
       obtain ⟨y0, y1, y2, -⟩ := box3f hn4.out
       obtain ⟨z0, z1, z2, z3, z4, z5, z6, z7⟩ := box8f hp4.out
       have g0 := frozen_heap hp4.out 0
       have g1 := frozen_heap hp4.out 1
       have g2 := frozen_heap hp4.out 2
       have g3 := frozen_heap hp4.out 3
       have g4 := frozen_heap hp4.out 4
       have g5 := frozen_heap hp4.out 5
       have g6 := frozen_heap hp4.out 6
       have g7 := frozen_heap hp4.out 7
       go_wp2_with fail
       have hp9 := box8_set (u0 := .slice a5 B.length c5) (u1 := .slice a6 E.length c6) (u2 := .int .i64 r1) (u3 := .int .i64 t1) (u4 := .int .i64 p1) (u5 := .slice a7 G1.length c7) (u6 := .string s1) (u7 := .slice a8 L.length c8) hp4.out
       have hb9 := b_box8 (q := w.heap.size + 1) hb4.out (by omega) (.slice a5 B.length c5) (.slice a6 E.length c6) (.int .i64 r1) (.int .i64 t1) (.int .i64 p1) (.slice a7 G1.length c7) (.string s1) (.slice a8 L.length c8)
       have lb9 : LBox _ _ := ⟨_, _, _, _, _, _, _, _, _, _, _, _, _, _, _, _, _, hp4.out⟩
       have rl9 := rs_b8 EBlob.writesL rb4.out lb9 a5 B.length c5 a6 E.length c6 r1 t1 p1 a7 G1.length c7 s1 (.slice a8 L.length c8)
       have re9 := rs_b8 EEntry.writesL re4.out lb9 a5 B.length c5 a6 E.length c6 r1 t1 p1 a7 G1.length c7 s1 (.slice a8 L.length c8)
       have oto9 := OS.box8 (q := w.heap.size + 1) (u0 := .slice a5 B.length c5) (u1 := .slice a6 E.length c6) (u2 := .int .i64 r1) (u3 := .int .i64 t1) (u4 := .int .i64 p1) (u5 := .slice a7 G1.length c7) (u6 := .string s1) (u7 := .slice a8 L.length c8) og4.out (by omega)
       have ofo9 := OFlight.box8 (q := w.heap.size + 1) (u0 := .slice a5 B.length c5) (u1 := .slice a6 E.length c6) (u2 := .int .i64 r1) (u3 := .int .i64 t1) (u4 := .int .i64 p1) (u5 := .slice a7 G1.length c7) (u6 := .string s1) (u7 := .slice a8 L.length c8) of4.out (by omega)
       have oio9 := OS.box8 (q := w.heap.size + 1) (u0 := .slice a5 B.length c5) (u1 := .slice a6 E.length c6) (u2 := .int .i64 r1) (u3 := .int .i64 t1) (u4 := .int .i64 p1) (u5 := .slice a7 G1.length c7) (u6 := .string s1) (u7 := .slice a8 L.length c8) oi4.out (by omega)
       have ot9 := reads_str oto9 bt.out.1 bt.out.2
       have of9 := ofo9.toR bf.out.1 bf.out.2
       have oi9 := reads_i oio9 bi.out.1 bi.out.2
       obtain ⟨m0, m1, m2, m3, m4, m5, m6, m7⟩ := box8f hp9
       unfold box8 at *
       (try simp only [Exit.inBlock, Exit.then])
       refine bodyPost_ret (by simp [results, Tryz.results155, go_sem, m0, m1, m2, m3, m4, m5, m6, m7]; try rfl) rfl ?_
       exact lf_ok hd.out rl9 re9 ot9 of9 oi9 (by omega) (by omega) (by omega) oto9 ofo9 oio9 hb9
     have hd := hid (done_put (L := L) (wh := wh) hO)
     obtain ⟨oe, ⟨B, E, r1, t1⟩, ⟨p1, G1, s1⟩⟩ := O
     simp only at hO hd hput
     have q1 : (oe != 0) = true := by simp [hO]
     replace hO := hid hO
     replace hput := hid hput
     go_enter Tryz.func155, Tryz.ntmps155
     go_wp2_with fail
     ((with_reducible refine (hch.out _ (hR.out.mono EBlob.stable (b_alloc (b_alloc (Below.refl _ w) _) _)) (hE.out.mono EEntry.stable (b_alloc (b_alloc (Below.refl _ w) _) _)) (hG.out.mono EStr.stable (b_alloc (b_alloc (Below.refl _ w) _) _)) (hF.out.mono EFlight.stable (b_alloc (b_alloc (Below.refl _ w) _) _))).mono ?_); rintro e1 w1 ⟨rfl, b1⟩)
     have hq_q_1 := hid (stays b1 (hold (heap_put w _ (w.heap.size) (by simp))))
     have hq_p_1 := hid (stays b1 (heap_put _ _ (w.heap.size + 1) (by simp)))
     have hb1 := hid (b_call (b_alloc (b_alloc (Below.refl _ w) _) _) b1)
     have r_R_1 := hid (hR.out.mono EBlob.stable (b_call (b_alloc (b_alloc (Below.refl _ w) _) _) b1))
     have r_E_1 := hid (hE.out.mono EEntry.stable (b_call (b_alloc (b_alloc (Below.refl _ w) _) _) b1))
     have r_G_1 := hid (hG.out.mono EStr.stable (b_call (b_alloc (b_alloc (Below.refl _ w) _) _) b1))
     have r_F_1 := hid (hF.out.mono EFlight.stable (b_call (b_alloc (b_alloc (Below.refl _ w) _) _) b1))
     have r_D_1 := hid (hD.out.mono EPart.stable (b_call (b_alloc (b_alloc (Below.refl _ w) _) _) b1))
     clear b1
     obtain ⟨x_q_0, x_q_1, x_q_2, x_q_3, x_q_4, x_q_5, x_q_6, x_q_7⟩ := box8f hq_q_1.out
     go_wp2_with fail
     ((with_reducible refine (hend.out _ r_F_1.out).mono ?_); rintro e2 w2 ⟨v8, v9, rfl, rf8, ri9, b2, of8, oi9'⟩)
     clear x_q_0 x_q_1 x_q_2 x_q_3 x_q_4 x_q_5 x_q_6 x_q_7
     have hq_q_2 := hid (stays b2 hq_q_1.out)
     have hq_p_2 := hid (stays b2 hq_p_1.out)
     have hb2 := hid (b_call hb1.out b2)
     have r_R_2 := hid (r_R_1.out.mono EBlob.stable (b_call (Below.refl w1.heap.size w1) b2))
     have r_E_2 := hid (r_E_1.out.mono EEntry.stable (b_call (Below.refl w1.heap.size w1) b2))
     have r_G_2 := hid (r_G_1.out.mono EStr.stable (b_call (Below.refl w1.heap.size w1) b2))
     have r_F_2 := hid (r_F_1.out.mono EFlight.stable (b_call (Below.refl w1.heap.size w1) b2))
     have r_D_2 := hid (r_D_1.out.mono EPart.stable (b_call (Below.refl w1.heap.size w1) b2))
     have r_L_2 := hid rf8
     have r_H_2 := hid ri9
     have hs1 : w.heap.size + 1 < w1.heap.size := heap_lt hq_p_1.out
     have hs12 := b2.size
     replace of8 := hid of8
     replace oi9' := hid oi9'
     clear hq_q_1 hq_p_1 hb1 r_R_1 r_E_1 r_G_1 r_F_1 r_D_1 rf8 ri9 b2
     obtain ⟨x_q_0, x_q_1, x_q_2, x_q_3, x_q_4, x_q_5, x_q_6, x_q_7⟩ := box8f hq_q_2.out
     go_wp2_with fail
     ((with_reducible refine (hput.out _ r_R_2.out r_E_2.out r_G_2.out r_D_2.out).mono ?_); rintro e3 w3 ⟨_, g1, rfl, ⟨A1, D1, rfl, rA, rD⟩, rg, og, b3⟩)
     clear x_q_0 x_q_1 x_q_2 x_q_3 x_q_4 x_q_5 x_q_6 x_q_7
     have hq_q_3 := hid (stays b3 hq_q_2.out)
     have hq_p_3 := hid (stays b3 hq_p_2.out)
     have hb3 := hid (b_call hb2.out b3)
     have r_R_3 := hid (r_R_2.out.mono EBlob.stable (b_call (Below.refl w2.heap.size w2) b3))
     have r_E_3 := hid (r_E_2.out.mono EEntry.stable (b_call (Below.refl w2.heap.size w2) b3))
     have r_G_3 := hid (r_G_2.out.mono EStr.stable (b_call (Below.refl w2.heap.size w2) b3))
     have r_F_3 := hid (r_F_2.out.mono EFlight.stable (b_call (Below.refl w2.heap.size w2) b3))
     have r_D_3 := hid (r_D_2.out.mono EPart.stable (b_call (Below.refl w2.heap.size w2) b3))
     have r_L_3 := hid (r_L_2.out.mono EFlight.stable (b_call (Below.refl w2.heap.size w2) b3))
     have r_H_3 := hid (r_H_2.out.mono EI.stable (b_call (Below.refl w2.heap.size w2) b3))
     have r_A_3 := hid rA
     have r_X_3 := hid rD
     have r_N_3 := hid rg
     have of3 := hid (OFlight.after of8.out b3)
     have oi3 := hid (OS.below oi9'.out b3)
     replace og := hid og
     clear of8 oi9'
     clear hq_q_2 hq_p_2 hb2 r_R_2 r_E_2 r_G_2 r_F_2 r_D_2 r_L_2 r_H_2 rA rD rg b3
     obtain ⟨a5, c5, rfl, -⟩ := id r_A_3.out
     obtain ⟨a6, c6, rfl, -⟩ := id r_X_3.out
     obtain ⟨a7, c7, rfl, -⟩ := id r_N_3.out
     obtain ⟨a8, c8, rfl, -⟩ := id r_L_3.out
     obtain ⟨a9, c9, rfl, -⟩ := id r_H_3.out
     have hs3 : w.heap.size + 2 ≤ w3.heap.size := heap_lt hq_p_3.out
     obtain ⟨x_q_0, x_q_1, x_q_2, x_q_3, x_q_4, x_q_5, x_q_6, x_q_7⟩ := box8f hq_q_3.out
     go_upto_region 8 with fail
     have hx4 := hid (alloc_keep (o := Obj.cells #[.int .i64 p1, .slice a7 G1.length c7, .string s1] 32) (heap_alloc_new w3 (Obj.cells #[.slice a5 B.length c5, .slice a6 E.length c6, .int .i64 r1, .int .i64 t1] 29)))
     have hn4 := hid (heap_put (w3.alloc (Obj.cells #[.slice a5 B.length c5, .slice a6 E.length c6, .int .i64 r1, .int .i64 t1] 29)) (Obj.cells #[.int .i64 p1, .slice a7 G1.length c7, .string s1] 32) (w3.heap.size + 1) (by simp))
     have hp4 := hid (alloc_keep (o := Obj.cells #[.int .i64 p1, .slice a7 G1.length c7, .string s1] 32) (alloc_keep (o := Obj.cells #[.slice a5 B.length c5, .slice a6 E.length c6, .int .i64 r1, .int .i64 t1] 29) hq_p_3.out))
     have hb4 := hid (b_alloc (b_alloc hb3.out (Obj.cells #[.slice a5 B.length c5, .slice a6 E.length c6, .int .i64 r1, .int .i64 t1] 29)) (Obj.cells #[.int .i64 p1, .slice a7 G1.length c7, .string s1] 32))
     have rb4 := hid (RS.al EBlob.stable (RS.al EBlob.stable r_A_3.out (Obj.cells #[.slice a5 B.length c5, .slice a6 E.length c6, .int .i64 r1, .int .i64 t1] 29)) (Obj.cells #[.int .i64 p1, .slice a7 G1.length c7, .string s1] 32))
     have re4 := hid (RS.al EEntry.stable (RS.al EEntry.stable r_X_3.out (Obj.cells #[.slice a5 B.length c5, .slice a6 E.length c6, .int .i64 r1, .int .i64 t1] 29)) (Obj.cells #[.int .i64 p1, .slice a7 G1.length c7, .string s1] 32))
     have og4 := hid (OS.alloc (OS.alloc og.out (Obj.cells #[.slice a5 B.length c5, .slice a6 E.length c6, .int .i64 r1, .int .i64 t1] 29)) (Obj.cells #[.int .i64 p1, .slice a7 G1.length c7, .string s1] 32))
     have of4 := hid ((of3.out.after (b_alloc (Below.refl _ _) (Obj.cells #[.slice a5 B.length c5, .slice a6 E.length c6, .int .i64 r1, .int .i64 t1] 29))).after (b_alloc (Below.refl _ _) (Obj.cells #[.int .i64 p1, .slice a7 G1.length c7, .string s1] 32)))
     have oi4 := hid (OS.alloc (OS.alloc oi3.out (Obj.cells #[.slice a5 B.length c5, .slice a6 E.length c6, .int .i64 r1, .int .i64 t1] 29)) (Obj.cells #[.int .i64 p1, .slice a7 G1.length c7, .string s1] 32))
     have bt := hid (And.intro (rt_bound r_N_3.out) (rt_sizes r_N_3.out))
     have bf := hid (And.intro (rf_bound r_L_3.out) (fit_F r_L_3.out))
     have bi := hid (And.intro (ri_bound r_H_3.out) (ri_wf r_H_3.out))
     generalize (w3.alloc (Obj.cells #[.slice a5 B.length c5, .slice a6 E.length c6, .int .i64 r1, .int .i64 t1] 29)).alloc (Obj.cells #[.int .i64 p1, .slice a7 G1.length c7, .string s1] 32) = w4 at *
     clear x_q_0 x_q_1 x_q_2 x_q_3 x_q_4 x_q_5 x_q_6 x_q_7 hq_q_3 hq_p_3 hb3 og of3 oi3 r_R_3 r_E_3 r_G_3 r_F_3 r_A_3 r_X_3 r_N_3 r_L_3 r_H_3
     obtain ⟨x0, x1, x2, x3⟩ := box4f hx4.out
     obtain ⟨y0, y1, y2, -⟩ := box3f hn4.out
     obtain ⟨z0, z1, z2, z3, z4, z5, z6, z7⟩ := box8f hp4.out
     have g0 := frozen_heap hp4.out 0
     have g1 := frozen_heap hp4.out 1
     have g2 := frozen_heap hp4.out 2
     have g3 := frozen_heap hp4.out 3
     have g4 := frozen_heap hp4.out 4
     have g5 := frozen_heap hp4.out 5
     have g6 := frozen_heap hp4.out 6
     have g7 := frozen_heap hp4.out 7
     go_wp2_with fail
     have hp9 := box8_set (u0 := .slice none 0 0) (u1 := .slice none 0 0) (u2 := .int .i64 0) (u3 := .int .i64 0) (u4 := .int .i64 0) (u5 := .slice none 0 0) (u6 := .string ⟨#[]⟩) (u7 := .slice none 0 0) hp4.out
     have hb9 := b_box8 (q := w.heap.size + 1) hb4.out (by omega) (.slice none 0 0) (.slice none 0 0) (.int .i64 0) (.int .i64 0) (.int .i64 0) (.slice none 0 0) (.string ⟨#[]⟩) (.slice none 0 0)
     exact qzexi_1
   have hd := hid (done_end (O := O) (L := L) (wh := wh) he)
   have q1 : (e1 != 0) = true := by simp [he]
   replace he := hid he
   clear hput
   go_enter Tryz.func155, Tryz.ntmps155
   go_wp2_with fail
   ((with_reducible refine (hch.out _ (hR.out.mono EBlob.stable (b_alloc (b_alloc (Below.refl _ w) _) _)) (hE.out.mono EEntry.stable (b_alloc (b_alloc (Below.refl _ w) _) _)) (hG.out.mono EStr.stable (b_alloc (b_alloc (Below.refl _ w) _) _)) (hF.out.mono EFlight.stable (b_alloc (b_alloc (Below.refl _ w) _) _))).mono ?_); rintro e1 w1 ⟨rfl, b1⟩)
   have hq_q_1 := hid (stays b1 (hold (heap_put w _ (w.heap.size) (by simp))))
   have hq_p_1 := hid (stays b1 (heap_put _ _ (w.heap.size + 1) (by simp)))
   have hb1 := hid (b_call (b_alloc (b_alloc (Below.refl _ w) _) _) b1)
   have r_R_1 := hid (hR.out.mono EBlob.stable (b_call (b_alloc (b_alloc (Below.refl _ w) _) _) b1))
   have r_E_1 := hid (hE.out.mono EEntry.stable (b_call (b_alloc (b_alloc (Below.refl _ w) _) _) b1))
   have r_G_1 := hid (hG.out.mono EStr.stable (b_call (b_alloc (b_alloc (Below.refl _ w) _) _) b1))
   have r_F_1 := hid (hF.out.mono EFlight.stable (b_call (b_alloc (b_alloc (Below.refl _ w) _) _) b1))
   have r_D_1 := hid (hD.out.mono EPart.stable (b_call (b_alloc (b_alloc (Below.refl _ w) _) _) b1))
   clear b1
   obtain ⟨x_q_0, x_q_1, x_q_2, x_q_3, x_q_4, x_q_5, x_q_6, x_q_7⟩ := box8f hq_q_1.out
   go_wp2_with fail
   ((with_reducible refine (hend.out _ r_F_1.out).mono ?_); rintro e2 w2 ⟨v8, v9, rfl, rf8, ri9, b2, of8, oi9'⟩)
   clear x_q_0 x_q_1 x_q_2 x_q_3 x_q_4 x_q_5 x_q_6 x_q_7
   have hq_q_2 := hid (stays b2 hq_q_1.out)
   have hq_p_2 := hid (stays b2 hq_p_1.out)
   have hb2 := hid (b_call hb1.out b2)
   have r_R_2 := hid (r_R_1.out.mono EBlob.stable (b_call (Below.refl w1.heap.size w1) b2))
   have r_E_2 := hid (r_E_1.out.mono EEntry.stable (b_call (Below.refl w1.heap.size w1) b2))
   have r_G_2 := hid (r_G_1.out.mono EStr.stable (b_call (Below.refl w1.heap.size w1) b2))
   have r_F_2 := hid (r_F_1.out.mono EFlight.stable (b_call (Below.refl w1.heap.size w1) b2))
   have r_D_2 := hid (r_D_1.out.mono EPart.stable (b_call (Below.refl w1.heap.size w1) b2))
   have r_L_2 := hid rf8
   have r_H_2 := hid ri9
   have hs1 : w.heap.size + 1 < w1.heap.size := heap_lt hq_p_1.out
   have hs12 := b2.size
   replace of8 := hid of8
   replace oi9' := hid oi9'
   clear hq_q_1 hq_p_1 hb1 r_R_1 r_E_1 r_G_1 r_F_1 r_D_1 rf8 ri9 b2
   obtain ⟨x_q_0, x_q_1, x_q_2, x_q_3, x_q_4, x_q_5, x_q_6, x_q_7⟩ := box8f hq_q_2.out
   obtain ⟨x_p_0, x_p_1, x_p_2, x_p_3, x_p_4, x_p_5, x_p_6, x_p_7⟩ := box8f hq_p_2.out
   have l_p := heap_lt hq_p_2.out
   have g_p_0 := frozen_heap hq_p_2.out 0
   have g_p_1 := frozen_heap hq_p_2.out 1
   have g_p_2 := frozen_heap hq_p_2.out 2
   have g_p_3 := frozen_heap hq_p_2.out 3
   have g_p_4 := frozen_heap hq_p_2.out 4
   have g_p_5 := frozen_heap hq_p_2.out 5
   have g_p_6 := frozen_heap hq_p_2.out 6
   have g_p_7 := frozen_heap hq_p_2.out 7
   go_wp2_with fail
   have hp9 := box8_set (u0 := .slice none 0 0) (u1 := .slice none 0 0) (u2 := .int .i64 0) (u3 := .int .i64 0) (u4 := .int .i64 0) (u5 := .slice none 0 0) (u6 := .string ⟨#[]⟩) (u7 := .slice none 0 0) hq_p_2.out
   have hb9 := b_box8 (q := w.heap.size + 1) hb2.out (by omega) (.slice none 0 0) (.slice none 0 0) (.int .i64 0) (.int .i64 0) (.int .i64 0) (.slice none 0 0) (.string ⟨#[]⟩) (.slice none 0 0)
   exact qzexi_1
 have ht : (z != 0) = true := by simp [hz]
 have hd := hid (done_bad (e := e1) (O := O) (L := L) (wh := wh) hz)
 replace hz := hid hz
 clear hput hend
 go_enter Tryz.func155, Tryz.ntmps155
 go_wp2_with fail
 ((with_reducible refine (hch.out _ (hR.out.mono EBlob.stable (b_alloc (b_alloc (Below.refl _ w) _) _)) (hE.out.mono EEntry.stable (b_alloc (b_alloc (Below.refl _ w) _) _)) (hG.out.mono EStr.stable (b_alloc (b_alloc (Below.refl _ w) _) _)) (hF.out.mono EFlight.stable (b_alloc (b_alloc (Below.refl _ w) _) _))).mono ?_); rintro e1 w1 ⟨rfl, b1⟩)
 have hq_q_1 := hid (stays b1 (hold (heap_put w _ (w.heap.size) (by simp))))
 have hq_p_1 := hid (stays b1 (heap_put _ _ (w.heap.size + 1) (by simp)))
 have hb1 := hid (b_call (b_alloc (b_alloc (Below.refl _ w) _) _) b1)
 have r_R_1 := hid (hR.out.mono EBlob.stable (b_call (b_alloc (b_alloc (Below.refl _ w) _) _) b1))
 have r_E_1 := hid (hE.out.mono EEntry.stable (b_call (b_alloc (b_alloc (Below.refl _ w) _) _) b1))
 have r_G_1 := hid (hG.out.mono EStr.stable (b_call (b_alloc (b_alloc (Below.refl _ w) _) _) b1))
 have r_F_1 := hid (hF.out.mono EFlight.stable (b_call (b_alloc (b_alloc (Below.refl _ w) _) _) b1))
 have r_D_1 := hid (hD.out.mono EPart.stable (b_call (b_alloc (b_alloc (Below.refl _ w) _) _) b1))
 clear b1
 obtain ⟨x_q_0, x_q_1, x_q_2, x_q_3, x_q_4, x_q_5, x_q_6, x_q_7⟩ := box8f hq_q_1.out
 obtain ⟨x_p_0, x_p_1, x_p_2, x_p_3, x_p_4, x_p_5, x_p_6, x_p_7⟩ := box8f hq_p_1.out
 have l_p := heap_lt hq_p_1.out
 have g_p_0 := frozen_heap hq_p_1.out 0
 have g_p_1 := frozen_heap hq_p_1.out 1
 have g_p_2 := frozen_heap hq_p_1.out 2
 have g_p_3 := frozen_heap hq_p_1.out 3
 have g_p_4 := frozen_heap hq_p_1.out 4
 have g_p_5 := frozen_heap hq_p_1.out 5
 have g_p_6 := frozen_heap hq_p_1.out 6
 have g_p_7 := frozen_heap hq_p_1.out 7
 go_wp2_with fail
 have hp9 := box8_set (u0 := .slice none 0 0) (u1 := .slice none 0 0) (u2 := .int .i64 0) (u3 := .int .i64 0) (u4 := .int .i64 0) (u5 := .slice none 0 0) (u6 := .string ⟨#[]⟩) (u7 := .slice none 0 0) hq_p_1.out
 have hb9 := b_box8 (q := w.heap.size + 1) hb1.out (by omega) (.slice none 0 0) (.slice none 0 0) (.int .i64 0) (.int .i64 0) (.int .i64 0) (.slice none 0 0) (.string ⟨#[]⟩) (.slice none 0 0)
 exact qzexi_1
end Go.Proofs.YtpkpgehiplhkpaaGreat
