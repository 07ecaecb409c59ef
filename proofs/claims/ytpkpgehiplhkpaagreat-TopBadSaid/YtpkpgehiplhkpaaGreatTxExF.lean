import Derived.Test.YtpkpgehiplhkpaaGreatTxExB
namespace Go.Proofs.YtpkpgehiplhkpaaGreat
open Go.RowKit
theorem qxexf_1 {P : Prop} (h : P := by
 obtain ⟨m0, m1, m2, m3, m4, m5, m6, m7⟩ := box8f hp9
 unfold box8 at *
 (try simp only [Exit.inBlock, Exit.then])
 refine bodyPost_ret (by simp [results, Tryz.results156, go_sem, m0, m1, m2, m3, m4, m5, m6, m7]; try rfl) rfl ?_
 exact lf_no hd.out hb9) : P := h
set_option maxRecDepth 100000 in
set_option maxHeartbeats 8000000 in
theorem exec_Failed' (v u gv fv : Value) (bs : List Blob) (es : List Entry) (r t ph : Int) (pl : ByteArray) (gy : List ByteArray) (fl : List Flight) (s : ByteArray) (w : World) (h : RBl w v bs) (g : RE w u es) (hg : RT w gv gy) (hfl : RF w fv fl) (z e1 : Int) (L : List Flight) (wh : List Int)
 (hch : ∀ w, RBl w v bs → RE w u es → RT w gv gy → RF w fv fl → Calls Tryz.prog 27 #[.agg #[v, u, .int .i64 r, .int .i64 t, .int .i64 ph, gv, .string pl, fv]] w fun e w' => e = .returned (.int .i64 z) ∧ Below w.heap.size w w')
 (hend : ∀ w, RF w fv fl → Calls Tryz.prog 219 #[fv, .string s] w (EndedO e1 L wh w))
 (hput : ∀ w, RBl w v bs → RE w u es → RT w gv gy → RF w fv fl → Calls Tryz.prog 217 #[.agg #[v, u, .int .i64 r, .int .i64 t, .int .i64 ph, gv, .string pl, fv]] w (OwnedLoft bs es r t ph gy pl fl w)) :
 Calls Tryz.prog 156 #[.agg #[v, u, .int .i64 r, .int .i64 t, .int .i64 ph, gv, .string pl, fv], .string s] w (LfRes (failOut z e1 ⟨bs, es, r, t⟩ ⟨ph, gy, pl⟩ L wh) w) := by
 replace hch := hid hch
 have hR := hid h
 have hE := hid g
 have hG := hid hg
 have hF := hid hfl
 have hf1 := hid (fit_B h)
 have hf2 := hid (fit_E g)
 have hgb := hid (rt_bound hg)
 have hgs := hid (rt_sizes hg)
 obtain ⟨a, c, rfl, -, -, hre, -⟩ := h
 obtain ⟨a2, c2, rfl, -, -, hre2, -⟩ := g
 obtain ⟨ga, gc, rfl, -⟩ := hg
 obtain ⟨fa, fc, rfl, -⟩ := hfl
 unfold EndedO at hend
 replace hend := hid hend
 unfold OwnedLoft at hput
 by_cases hz : z = 0
 · subst hz
   by_cases he : e1 = 0
   · subst he
     have hd := hid (fail_ok (S := ⟨bs, es, r, t⟩) (C := ⟨ph, gy, pl⟩) (L := L) (wh := wh))
     replace hput := hid hput
     go_enter Tryz.func156, Tryz.ntmps156
     go_wp2_with fail
     ((with_reducible refine (hch.out _ (hR.out.mono EBlob.stable (b_alloc (b_alloc (Below.refl _ w) _) _)) (hE.out.mono EEntry.stable (b_alloc (b_alloc (Below.refl _ w) _) _)) (hG.out.mono EStr.stable (b_alloc (b_alloc (Below.refl _ w) _) _)) (hF.out.mono EFlight.stable (b_alloc (b_alloc (Below.refl _ w) _) _))).mono ?_); rintro e1 w1 ⟨rfl, b1⟩)
     have hq_q_1 := hid (stays b1 (hold (heap_put w _ (w.heap.size) (by simp))))
     have hq_p_1 := hid (stays b1 (heap_put _ _ (w.heap.size + 1) (by simp)))
     have hb1 := hid (b_call (b_alloc (b_alloc (Below.refl _ w) _) _) b1)
     have r_R_1 := hid (hR.out.mono EBlob.stable (b_call (b_alloc (b_alloc (Below.refl _ w) _) _) b1))
     have r_E_1 := hid (hE.out.mono EEntry.stable (b_call (b_alloc (b_alloc (Below.refl _ w) _) _) b1))
     have r_G_1 := hid (hG.out.mono EStr.stable (b_call (b_alloc (b_alloc (Below.refl _ w) _) _) b1))
     have r_F_1 := hid (hF.out.mono EFlight.stable (b_call (b_alloc (b_alloc (Below.refl _ w) _) _) b1))
     clear b1
     obtain ⟨x_q_0, x_q_1, x_q_2, x_q_3, x_q_4, x_q_5, x_q_6, x_q_7⟩ := box8f hq_q_1.out
     go_wp2_with fail
     ((with_reducible refine (hend.out _ r_F_1.out).mono ?_); rintro e2 w2 ⟨v8, v9, rfl, rf8, ri9, b2, of8, oi9'⟩)
     clear x_q_0 x_q_1 x_q_2 x_q_3 x_q_4 x_q_5 x_q_6 x_q_7
     have hq_q_2 := hid (stays b2 hq_q_1.out)
     have hq_p_2 := hid (stays b2 hq_p_1.out)
     have hb2 := hid (b_call hb1.out b2)
     have r_R_2 := hid (r_R_1.out.mono EBlob.stable (b_call (Below.refl w1.heap.size w1) b2))
     have r_E_2 := hid (r_E_1.out.mono EEntry.stable (b_call (Below.refl w1.heap.size w1) b2))
     have r_G_2 := hid (r_G_1.out.mono EStr.stable (b_call (Below.refl w1.heap.size w1) b2))
     have r_F_2 := hid (r_F_1.out.mono EFlight.stable (b_call (Below.refl w1.heap.size w1) b2))
     have r_L_2 := hid rf8
     have r_H_2 := hid ri9
     have hs1 : w.heap.size + 1 < w1.heap.size := heap_lt hq_p_1.out
     have hs12 := b2.size
     replace of8 := hid of8
     replace oi9' := hid oi9'
     clear hq_q_1 hq_p_1 hb1 r_R_1 r_E_1 r_G_1 r_F_1 rf8 ri9 b2
     obtain ⟨x_q_0, x_q_1, x_q_2, x_q_3, x_q_4, x_q_5, x_q_6, x_q_7⟩ := box8f hq_q_2.out
     go_wp2_with fail
     ((with_reducible refine (hput.out _ r_R_2.out r_E_2.out r_G_2.out r_F_2.out).mono ?_); rintro e3 w3 ⟨v1, v2, v3, v4, rfl, p1, p2, p3, p4, b3⟩)
     clear x_q_0 x_q_1 x_q_2 x_q_3 x_q_4 x_q_5 x_q_6 x_q_7
     have hq_q_3 := hid (stays b3 hq_q_2.out)
     have hq_p_3 := hid (stays b3 hq_p_2.out)
     have hb3 := hid (b_call hb2.out b3)
     have r_R_3 := hid (r_R_2.out.mono EBlob.stable (b_call (Below.refl w2.heap.size w2) b3))
     have r_E_3 := hid (r_E_2.out.mono EEntry.stable (b_call (Below.refl w2.heap.size w2) b3))
     have r_G_3 := hid (r_G_2.out.mono EStr.stable (b_call (Below.refl w2.heap.size w2) b3))
     have r_F_3 := hid (r_F_2.out.mono EFlight.stable (b_call (Below.refl w2.heap.size w2) b3))
     have r_L_3 := hid (r_L_2.out.mono EFlight.stable (b_call (Below.refl w2.heap.size w2) b3))
     have r_H_3 := hid (r_H_2.out.mono EI.stable (b_call (Below.refl w2.heap.size w2) b3))
     have hw3 : w.heap.size ≤ w2.heap.size := hb2.out.size
     have of3 := hid (OFlight.after of8.out b3)
     have oi3 := hid (OS.below oi9'.out b3)
     clear of8 oi9'
     clear hq_q_2 hq_p_2 hb2 r_R_2 r_E_2 r_G_2 r_F_2 r_L_2 r_H_2 b3
     obtain ⟨a5, c5, rfl⟩ := OX.lenOf p1
     obtain ⟨a6, c6, rfl⟩ := OX.lenOf p2
     obtain ⟨a7, c7, rfl, -⟩ := id (OS.len_le p3)
     obtain ⟨a10, c10, rfl⟩ := OX.lenOf p4
     obtain ⟨a8, c8, rfl, -⟩ := id r_L_3.out
     obtain ⟨a9, c9, rfl, -⟩ := id r_H_3.out
     have hs3 : w.heap.size + 2 ≤ w3.heap.size := heap_lt hq_p_3.out
     obtain ⟨x_q_0, x_q_1, x_q_2, x_q_3, x_q_4, x_q_5, x_q_6, x_q_7⟩ := box8f hq_q_3.out
     go_upto_region 8 with fail
     have ho4 := heap_alloc_new w3 (Obj.cells #[.slice a5 bs.length c5, .slice a6 es.length c6, .int .i64 r, .int .i64 t, .int .i64 ph, .slice a7 gy.length c7, .string pl, .slice a10 fl.length c10] 35)
     have b34 := b_alloc (Below.refl w3.heap.size w3) (Obj.cells #[.slice a5 bs.length c5, .slice a6 es.length c6, .int .i64 r, .int .i64 t, .int .i64 ph, .slice a7 gy.length c7, .string pl, .slice a10 fl.length c10] 35)
     have hl4 : w3.heap.size < (w3.alloc (Obj.cells #[.slice a5 bs.length c5, .slice a6 es.length c6, .int .i64 r, .int .i64 t, .int .i64 ph, .slice a7 gy.length c7, .string pl, .slice a10 fl.length c10] 35)).heap.size := by simp
     obtain ⟨o0, o1, o2, o3, o4, o5, o6, o7⟩ := box8f ho4
     have f7 := frozen_heap ho4 7
     generalize w3.alloc (Obj.cells #[.slice a5 bs.length c5, .slice a6 es.length c6, .int .i64 r, .int .i64 t, .int .i64 ph, .slice a7 gy.length c7, .string pl, .slice a10 fl.length c10] 35) = w4 at *
     go_upto_region 9 with fail
     have b35 := hid (b_set (p := ⟨w3.heap.size, 7, none⟩) b34 (Nat.le_refl _) (.slice a8 L.length c8))
     have ho5 := hid (l8_7 (u := .slice a8 L.length c8) ho4)
     have hs5 : w4.heap.size = (w4.setCell ⟨w3.heap.size, 7, none⟩ (.slice a8 L.length c8)).heap.size := by simp
     replace hs5 := Nat.le_of_eq hs5
     clear o0 o1 o2 o3 o4 o5 o6 o7 f7 ho4 b34 x_q_0 x_q_1 x_q_2 x_q_3 x_q_4 x_q_5 x_q_6 x_q_7
     generalize w4.setCell ⟨w3.heap.size, 7, none⟩ (.slice a8 L.length c8) = w5 at *
     have hp5 := hid (stays b35.out hq_p_3.out)
     have hb5 := hid (b_call hb3.out b35.out)
     have rb5 := hid ((p1.toR hre hf1.out).mono EBlob.stable b35.out)
     have re5 := hid ((p2.toR hre2 hf2.out).mono EEntry.stable b35.out)
     have og5 := hid (OS.below p3 b35.out)
     have of5 := hid (OFlight.after of3.out b35.out)
     have oi5 := hid (OS.below oi3.out b35.out)
     have bf := hid (And.intro (rf_bound r_L_3.out) (fit_F r_L_3.out))
     have bi := hid (And.intro (ri_bound r_H_3.out) (ri_wf r_H_3.out))
     clear hq_q_3 hq_p_3 hb3 p1 p2 p3 p4 of3 oi3 r_R_3 r_E_3 r_G_3 r_F_3 r_L_3 r_H_3
     obtain ⟨o0, o1, o2, o3, o4, o5, o6, o7⟩ := box8f ho5.out
     obtain ⟨z0, z1, z2, z3, z4, z5, z6, z7⟩ := box8f hp5.out
     have g0 := frozen_heap hp5.out 0
     have g1 := frozen_heap hp5.out 1
     have g2 := frozen_heap hp5.out 2
     have g3 := frozen_heap hp5.out 3
     have g4 := frozen_heap hp5.out 4
     have g5 := frozen_heap hp5.out 5
     have g6 := frozen_heap hp5.out 6
     have g7 := frozen_heap hp5.out 7
     go_wp2_with fail
     have hp9 := box8_set (u0 := .slice a5 bs.length c5) (u1 := .slice a6 es.length c6) (u2 := .int .i64 r) (u3 := .int .i64 t) (u4 := .int .i64 ph) (u5 := .slice a7 gy.length c7) (u6 := .string pl) (u7 := .slice a8 L.length c8) hp5.out
     have hb9 := b_box8 (q := w.heap.size + 1) hb5.out (by omega) (.slice a5 bs.length c5) (.slice a6 es.length c6) (.int .i64 r) (.int .i64 t) (.int .i64 ph) (.slice a7 gy.length c7) (.string pl) (.slice a8 L.length c8)
     have lb9 : LBox _ _ := ⟨_, _, _, _, _, _, _, _, _, _, _, _, _, _, _, _, _, hp5.out⟩
     have rl9 := rs_b8 EBlob.writesL rb5.out lb9 a5 bs.length c5 a6 es.length c6 r t ph a7 gy.length c7 pl (.slice a8 L.length c8)
     have re9 := rs_b8 EEntry.writesL re5.out lb9 a5 bs.length c5 a6 es.length c6 r t ph a7 gy.length c7 pl (.slice a8 L.length c8)
     have oto9 := OS.box8 (q := w.heap.size + 1) (u0 := .slice a5 bs.length c5) (u1 := .slice a6 es.length c6) (u2 := .int .i64 r) (u3 := .int .i64 t) (u4 := .int .i64 ph) (u5 := .slice a7 gy.length c7) (u6 := .string pl) (u7 := .slice a8 L.length c8) og5.out (by omega)
     have ofo9 := OFlight.box8 (q := w.heap.size + 1) (u0 := .slice a5 bs.length c5) (u1 := .slice a6 es.length c6) (u2 := .int .i64 r) (u3 := .int .i64 t) (u4 := .int .i64 ph) (u5 := .slice a7 gy.length c7) (u6 := .string pl) (u7 := .slice a8 L.length c8) of5.out (by omega)
     have oio9 := OS.box8 (q := w.heap.size + 1) (u0 := .slice a5 bs.length c5) (u1 := .slice a6 es.length c6) (u2 := .int .i64 r) (u3 := .int .i64 t) (u4 := .int .i64 ph) (u5 := .slice a7 gy.length c7) (u6 := .string pl) (u7 := .slice a8 L.length c8) oi5.out (by omega)
     have ot9 := reads_str oto9 hgb.out hgs.out
     have of9 := ofo9.toR bf.out.1 bf.out.2
     have oi9 := reads_i oio9 bi.out.1 bi.out.2
     obtain ⟨m0, m1, m2, m3, m4, m5, m6, m7⟩ := box8f hp9
     unfold box8 at *
     (try simp only [Exit.inBlock, Exit.then])
     refine bodyPost_ret (by simp [results, Tryz.results156, go_sem, m0, m1, m2, m3, m4, m5, m6, m7]; try rfl) rfl ?_
     exact lf_ok hd.out rl9 re9 ot9 of9 oi9 (by omega) (by omega) (by omega) oto9 ofo9 oio9 hb9
   · have hd := hid (fail_end (S := ⟨bs, es, r, t⟩) (C := ⟨ph, gy, pl⟩) (L := L) (wh := wh) he)
     have q1 : (e1 != 0) = true := by simp [he]
     replace he := hid he
     clear hput
     go_enter Tryz.func156, Tryz.ntmps156
     go_wp2_with fail
     ((with_reducible refine (hch.out _ (hR.out.mono EBlob.stable (b_alloc (b_alloc (Below.refl _ w) _) _)) (hE.out.mono EEntry.stable (b_alloc (b_alloc (Below.refl _ w) _) _)) (hG.out.mono EStr.stable (b_alloc (b_alloc (Below.refl _ w) _) _)) (hF.out.mono EFlight.stable (b_alloc (b_alloc (Below.refl _ w) _) _))).mono ?_); rintro e1 w1 ⟨rfl, b1⟩)
     have hq_q_1 := hid (stays b1 (hold (heap_put w _ (w.heap.size) (by simp))))
     have hq_p_1 := hid (stays b1 (heap_put _ _ (w.heap.size + 1) (by simp)))
     have hb1 := hid (b_call (b_alloc (b_alloc (Below.refl _ w) _) _) b1)
     have r_R_1 := hid (hR.out.mono EBlob.stable (b_call (b_alloc (b_alloc (Below.refl _ w) _) _) b1))
     have r_E_1 := hid (hE.out.mono EEntry.stable (b_call (b_alloc (b_alloc (Below.refl _ w) _) _) b1))
     have r_G_1 := hid (hG.out.mono EStr.stable (b_call (b_alloc (b_alloc (Below.refl _ w) _) _) b1))
     have r_F_1 := hid (hF.out.mono EFlight.stable (b_call (b_alloc (b_alloc (Below.refl _ w) _) _) b1))
     clear b1
     obtain ⟨x_q_0, x_q_1, x_q_2, x_q_3, x_q_4, x_q_5, x_q_6, x_q_7⟩ := box8f hq_q_1.out
     go_wp2_with fail
     ((with_reducible refine (hend.out _ r_F_1.out).mono ?_); rintro e2 w2 ⟨v8, v9, rfl, rf8, ri9, b2, of8, oi9'⟩)
     clear x_q_0 x_q_1 x_q_2 x_q_3 x_q_4 x_q_5 x_q_6 x_q_7
     have hq_q_2 := hid (stays b2 hq_q_1.out)
     have hq_p_2 := hid (stays b2 hq_p_1.out)
     have hb2 := hid (b_call hb1.out b2)
     have r_R_2 := hid (r_R_1.out.mono EBlob.stable (b_call (Below.refl w1.heap.size w1) b2))
     have r_E_2 := hid (r_E_1.out.mono EEntry.stable (b_call (Below.refl w1.heap.size w1) b2))
     have r_G_2 := hid (r_G_1.out.mono EStr.stable (b_call (Below.refl w1.heap.size w1) b2))
     have r_F_2 := hid (r_F_1.out.mono EFlight.stable (b_call (Below.refl w1.heap.size w1) b2))
     have r_L_2 := hid rf8
     have r_H_2 := hid ri9
     have hs1 : w.heap.size + 1 < w1.heap.size := heap_lt hq_p_1.out
     have hs12 := b2.size
     replace of8 := hid of8
     replace oi9' := hid oi9'
     clear hq_q_1 hq_p_1 hb1 r_R_1 r_E_1 r_G_1 r_F_1 rf8 ri9 b2
     obtain ⟨x_q_0, x_q_1, x_q_2, x_q_3, x_q_4, x_q_5, x_q_6, x_q_7⟩ := box8f hq_q_2.out
     obtain ⟨x_p_0, x_p_1, x_p_2, x_p_3, x_p_4, x_p_5, x_p_6, x_p_7⟩ := box8f hq_p_2.out
     have l_p := heap_lt hq_p_2.out
     have g_p_0 := frozen_heap hq_p_2.out 0
     have g_p_1 := frozen_heap hq_p_2.out 1
     have g_p_2 := frozen_heap hq_p_2.out 2
     have g_p_3 := frozen_heap hq_p_2.out 3
     have g_p_4 := frozen_heap hq_p_2.out 4
     have g_p_5 := frozen_heap hq_p_2.out 5
     have g_p_6 := frozen_heap hq_p_2.out 6
     have g_p_7 := frozen_heap hq_p_2.out 7
     go_wp2_with fail
     have hp9 := box8_set (u0 := .slice none 0 0) (u1 := .slice none 0 0) (u2 := .int .i64 0) (u3 := .int .i64 0) (u4 := .int .i64 0) (u5 := .slice none 0 0) (u6 := .string ⟨#[]⟩) (u7 := .slice none 0 0) hq_p_2.out
     have hb9 := b_box8 (q := w.heap.size + 1) hb2.out (by omega) (.slice none 0 0) (.slice none 0 0) (.int .i64 0) (.int .i64 0) (.int .i64 0) (.slice none 0 0) (.string ⟨#[]⟩) (.slice none 0 0)
     exact qxexf_1
 · have ht : (z != 0) = true := by simp [hz]
   have hd := hid (fail_bad (e := e1) (S := ⟨bs, es, r, t⟩) (C := ⟨ph, gy, pl⟩) (L := L) (wh := wh) hz)
   replace hz := hid hz
   clear hput hend
   go_enter Tryz.func156, Tryz.ntmps156
   go_wp2_with fail
   ((with_reducible refine (hch.out _ (hR.out.mono EBlob.stable (b_alloc (b_alloc (Below.refl _ w) _) _)) (hE.out.mono EEntry.stable (b_alloc (b_alloc (Below.refl _ w) _) _)) (hG.out.mono EStr.stable (b_alloc (b_alloc (Below.refl _ w) _) _)) (hF.out.mono EFlight.stable (b_alloc (b_alloc (Below.refl _ w) _) _))).mono ?_); rintro e1 w1 ⟨rfl, b1⟩)
   have hq_q_1 := hid (stays b1 (hold (heap_put w _ (w.heap.size) (by simp))))
   have hq_p_1 := hid (stays b1 (heap_put _ _ (w.heap.size + 1) (by simp)))
   have hb1 := hid (b_call (b_alloc (b_alloc (Below.refl _ w) _) _) b1)
   have r_R_1 := hid (hR.out.mono EBlob.stable (b_call (b_alloc (b_alloc (Below.refl _ w) _) _) b1))
   have r_E_1 := hid (hE.out.mono EEntry.stable (b_call (b_alloc (b_alloc (Below.refl _ w) _) _) b1))
   have r_G_1 := hid (hG.out.mono EStr.stable (b_call (b_alloc (b_alloc (Below.refl _ w) _) _) b1))
   have r_F_1 := hid (hF.out.mono EFlight.stable (b_call (b_alloc (b_alloc (Below.refl _ w) _) _) b1))
   clear b1
   obtain ⟨x_q_0, x_q_1, x_q_2, x_q_3, x_q_4, x_q_5, x_q_6, x_q_7⟩ := box8f hq_q_1.out
   obtain ⟨x_p_0, x_p_1, x_p_2, x_p_3, x_p_4, x_p_5, x_p_6, x_p_7⟩ := box8f hq_p_1.out
   have l_p := heap_lt hq_p_1.out
   have g_p_0 := frozen_heap hq_p_1.out 0
   have g_p_1 := frozen_heap hq_p_1.out 1
   have g_p_2 := frozen_heap hq_p_1.out 2
   have g_p_3 := frozen_heap hq_p_1.out 3
   have g_p_4 := frozen_heap hq_p_1.out 4
   have g_p_5 := frozen_heap hq_p_1.out 5
   have g_p_6 := frozen_heap hq_p_1.out 6
   have g_p_7 := frozen_heap hq_p_1.out 7
   go_wp2_with fail
   have hp9 := box8_set (u0 := .slice none 0 0) (u1 := .slice none 0 0) (u2 := .int .i64 0) (u3 := .int .i64 0) (u4 := .int .i64 0) (u5 := .slice none 0 0) (u6 := .string ⟨#[]⟩) (u7 := .slice none 0 0) hq_p_1.out
   have hb9 := b_box8 (q := w.heap.size + 1) hb1.out (by omega) (.slice none 0 0) (.slice none 0 0) (.int .i64 0) (.int .i64 0) (.int .i64 0) (.slice none 0 0) (.string ⟨#[]⟩) (.slice none 0 0)
   exact qxexf_1
end Go.Proofs.YtpkpgehiplhkpaaGreat
