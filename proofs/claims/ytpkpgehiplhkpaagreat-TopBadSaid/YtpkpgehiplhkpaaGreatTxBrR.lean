import Derived.Test.YtpkpgehiplhkpaaGreatTxBrL
import Derived.Test.YtpkpgehiplhkpaaGreatTxPbx
namespace Go.Proofs.YtpkpgehiplhkpaaGreat
open Go.RowKit
theorem qxbri_2 {P : Prop} (h : P := by omega) : P := h
theorem qxbri_1 {P : Prop} (h : P := by
 obtain ⟨m0, m1, m2, m3⟩ := box4f hp9
 obtain ⟨n0, n1, n2, -⟩ := box3f hd9
 unfold World.box4 World.box3 at m0 m1 m2 m3 n0 n1 n2 hb9
 (try simp only [Exit.inBlock, Exit.then])
 refine bodyPost_ret (by simp [results, Tryz.results144, go_sem, m0, m1, m2, m3, n0, n1, n2]; try rfl) rfl ?_
 exact coD_no hd.out hb9) : P := h
set_option maxRecDepth 100000 in
set_option maxHeartbeats 4000000 in
theorem barrier_PutBlob' (v u gv : Value) (bs : List Blob) (es : List Entry) (r t ph : Int) (pl : ByteArray) (gy : List ByteArray) (b : Value) (data : List UInt8) (d : ByteArray) (w : World) (h : RBl w v bs) (g : RE w u es) (hg : RT w gv gy) (gd : RB w b data) (z e1 : Int) (B : List Blob) (E : List Entry) (r1 t1 : Int)
 (hs : d.size ≤ 140737488351232) (hgl : gy.length ≤ 8388608)
 (hch : ∀ w, RBl w v bs → RE w u es → RT w gv gy → Calls Tryz.prog 69 #[.agg #[v, u, .int .i64 r, .int .i64 t], .agg #[.int .i64 ph, gv, .string pl]] w fun e w' => e = .returned (.int .i64 z) ∧ Below w.heap.size w w')
 (hop : ∀ w, RBl w v bs → RE w u es → RB w b data → Calls Tryz.prog 208 #[.agg #[v, u, .int .i64 r, .int .i64 t], b] w (PbRes e1 d ⟨B, E, r1, t1⟩ w)) :
 Calls Tryz.prog 144 #[.agg #[v, u, .int .i64 r, .int .i64 t], .agg #[.int .i64 ph, gv, .string pl], b] w (CoResD (barOut z e1 ⟨B, E, r1, t1⟩ ph gy pl [d]) (barD z e1 d) w) := by
 replace hch := hid hch
 have hR := hid h
 have hE := hid g
 have hG := hid hg
 have hD := hid gd
 obtain ⟨a, c, rfl, -⟩ := h
 obtain ⟨a2, c2, rfl, -⟩ := g
 obtain ⟨ga, gc, rfl, -⟩ := hg
 unfold PbRes VS at hop
 by_cases hz : z = 0
 · subst hz
   by_cases he : e1 = 0
   · subst he
     have hd := hid (And.intro (bar_ok (S := ⟨B, E, r1, t1⟩) (ph := ph) (gy := gy) (pl := pl) (l := [d])) (barD_ok (d := d)))
     simp only [if_true] at hop
     replace hop := hid hop
     go_enter Tryz.func144, Tryz.ntmps144
     go_wp2_with fail
     ((with_reducible refine (hch.out _ (hR.out.mono EBlob.stable (b_alloc (b_alloc (b_alloc (b_alloc (Below.refl _ w) _) _) _) _)) (hE.out.mono EEntry.stable (b_alloc (b_alloc (b_alloc (b_alloc (Below.refl _ w) _) _) _) _)) (hG.out.mono EStr.stable (b_alloc (b_alloc (b_alloc (b_alloc (Below.refl _ w) _) _) _) _))).mono ?_); rintro e1 w1 ⟨rfl, b1⟩)
     have hq_q_1 := hid (stays b1 (hold (hold (hold (heap_put w _ (w.heap.size) (by simp))))))
     have hq_k_1 := hid (stays b1 (hold (hold (heap_put _ _ (w.heap.size + 1) (by simp)))))
     have hq_p_1 := hid (stays b1 (hold (heap_put _ _ (w.heap.size + 1 + 1) (by simp))))
     have hq_d_1 := hid (stays b1 (heap_put _ _ (w.heap.size + 1 + 1 + 1) (by simp)))
     have hb1 := hid (b_call (b_alloc (b_alloc (b_alloc (b_alloc (Below.refl _ w) _) _) _) _) b1)
     have r_R_1 := hid (hR.out.mono EBlob.stable (b_call (b_alloc (b_alloc (b_alloc (b_alloc (Below.refl _ w) _) _) _) _) b1))
     have r_E_1 := hid (hE.out.mono EEntry.stable (b_call (b_alloc (b_alloc (b_alloc (b_alloc (Below.refl _ w) _) _) _) _) b1))
     have r_G_1 := hid (hG.out.mono EStr.stable (b_call (b_alloc (b_alloc (b_alloc (b_alloc (Below.refl _ w) _) _) _) _) b1))
     have r_D_1 := hid (hD.out.mono EU8.stable (b_call (b_alloc (b_alloc (b_alloc (b_alloc (Below.refl _ w) _) _) _) _) b1))
     clear b1
     obtain ⟨x_q_0, x_q_1, x_q_2, x_q_3⟩ := box4f hq_q_1.out
     obtain ⟨x_k_0, x_k_1, x_k_2, -⟩ := box3f hq_k_1.out
     go_wp2_with fail
     ((with_reducible refine (hop.out _ r_R_1.out r_E_1.out r_D_1.out).mono ?_); rintro e2 w2 ⟨_, rfl, ⟨A1, D1, rfl, rA, rD⟩, b2⟩)
     clear x_q_0 x_q_1 x_q_2 x_q_3 x_k_0 x_k_1 x_k_2
     have hq_q_2 := hid (stays b2 hq_q_1.out)
     have hq_k_2 := hid (stays b2 hq_k_1.out)
     have hq_p_2 := hid (stays b2 hq_p_1.out)
     have hq_d_2 := hid (stays b2 hq_d_1.out)
     have hb2 := hid (b_call hb1.out b2)
     have r_R_2 := hid (r_R_1.out.mono EBlob.stable (b_call (Below.refl w1.heap.size w1) b2))
     have r_E_2 := hid (r_E_1.out.mono EEntry.stable (b_call (Below.refl w1.heap.size w1) b2))
     have r_G_2 := hid (r_G_1.out.mono EStr.stable (b_call (Below.refl w1.heap.size w1) b2))
     have r_D_2 := hid (r_D_1.out.mono EU8.stable (b_call (Below.refl w1.heap.size w1) b2))
     have r_A_2 := hid rA
     have r_X_2 := hid rD
     clear hq_q_1 hq_k_1 hq_p_1 hq_d_1 hb1 r_R_1 r_E_1 r_G_1 r_D_1 rA rD b2
     have hs2 : w.heap.size + 4 ≤ w2.heap.size := heap_lt hq_d_2.out
     obtain ⟨a5, c5, rfl, -⟩ := id r_A_2.out
     obtain ⟨a6, c6, rfl, -⟩ := id r_X_2.out
     obtain ⟨x_q_0, x_q_1, x_q_2, x_q_3⟩ := box4f hq_q_2.out
     have l_q := heap_lt hq_q_2.out
     obtain ⟨x_k_0, x_k_1, x_k_2, -⟩ := box3f hq_k_2.out
     have l_k := heap_lt hq_k_2.out
     go_wp2_with fail
     ((with_reducible refine (barrier_keep _ _ _ _ B E r1 t1 ph pl gy [d] _ (r_A_2.out.mono EBlob.stable (b_alloc (b_alloc (Below.refl w2.heap.size w2) _) _)) (r_X_2.out.mono EEntry.stable (b_alloc (b_alloc (Below.refl w2.heap.size w2) _) _)) (r_G_2.out.mono EStr.stable (b_alloc (b_alloc (Below.refl w2.heap.size w2) _) _)) (rt_one ((w2.alloc (Obj.cells #[.slice a5 B.length c5, .slice a6 E.length c6, .int .i64 r1, .int .i64 t1] 29))) _ _ (by simp) hs) (by simp; omega)).mono ?_); rintro e3 w3 ⟨v1, v2, v3, rfl, r1a, r1b, r1c, o1c, b3⟩)
     clear x_q_0 x_q_1 x_q_2 x_q_3 l_q x_k_0 x_k_1 x_k_2 l_k
     have hq_o_3 := hid (stays b3 (hold (heap_put w2 _ (w2.heap.size) (by simp))))
     have hq_l_3 := hid (stays b3 (heap_put _ _ (w2.heap.size + 1) (by simp)))
     have hq_q_3 := hid (stays b3 (hold (hold hq_q_2.out)))
     have hq_k_3 := hid (stays b3 (hold (hold hq_k_2.out)))
     have hq_p_3 := hid (stays b3 (hold (hold hq_p_2.out)))
     have hq_d_3 := hid (stays b3 (hold (hold hq_d_2.out)))
     have hb3 := hid (b_call (b_alloc (b_alloc hb2.out _) _) b3)
     have r_R_3 := hid (r_R_2.out.mono EBlob.stable (b_call (b_alloc (b_alloc (Below.refl w2.heap.size w2) _) _) b3))
     have r_E_3 := hid (r_E_2.out.mono EEntry.stable (b_call (b_alloc (b_alloc (Below.refl w2.heap.size w2) _) _) b3))
     have r_G_3 := hid (r_G_2.out.mono EStr.stable (b_call (b_alloc (b_alloc (Below.refl w2.heap.size w2) _) _) b3))
     have r_D_3 := hid (r_D_2.out.mono EU8.stable (b_call (b_alloc (b_alloc (Below.refl w2.heap.size w2) _) _) b3))
     have r_A_3 := hid (r_A_2.out.mono EBlob.stable (b_call (b_alloc (b_alloc (Below.refl w2.heap.size w2) _) _) b3))
     have r_X_3 := hid (r_X_2.out.mono EEntry.stable (b_call (b_alloc (b_alloc (Below.refl w2.heap.size w2) _) _) b3))
     have r_B1_3 := hid r1a
     have r_E1_3 := hid r1b
     have r_G1_3 := hid r1c
     replace o1c := hid o1c
     have hw3 : w2.heap.size + 2 ≤ w3.heap.size := by have := b3.size; simp at this; omega
     clear hq_q_2 hq_k_2 hq_p_2 hq_d_2 hb2 r_R_2 r_E_2 r_G_2 r_D_2 r_A_2 r_X_2 r1a r1b r1c b3
     generalize keptB ph B [d] = B2 at *
     generalize keptG ph gy [d] = G2 at *
     obtain ⟨a7, c7, rfl, -⟩ := id r_B1_3.out
     obtain ⟨a8, c8, rfl, -⟩ := id r_E1_3.out
     obtain ⟨a9, c9, rfl, -⟩ := id r_G1_3.out
     have bnd := hid (rt_bound r_G1_3.out)
     have szs := hid (rt_sizes r_G1_3.out)
     obtain ⟨x_o_0, x_o_1, x_o_2, x_o_3⟩ := box4f hq_o_3.out
     have g_o_0 := frozen_heap hq_o_3.out 0
     have g_o_1 := frozen_heap hq_o_3.out 1
     have g_o_2 := frozen_heap hq_o_3.out 2
     have g_o_3 := frozen_heap hq_o_3.out 3
     have l_o := heap_lt hq_o_3.out
     go_upto_region 8 with fail
     have hn4 := hid (heap_put (World.box4 w3 w2.heap.size (.slice a7 B2.length c7) (.slice a8 E.length c8) (.int .i64 r1) (.int .i64 t1)) (Obj.cells #[.int .i64 ph, .slice a9 G2.length c9, .string pl] 32) w3.heap.size (by simp [World.box4]))
     have ho4 := hid ((heap_alloc_old _ (Obj.cells #[.int .i64 ph, .slice a9 G2.length c9, .string pl] 32) (heap_lt (box4_same (u0 := .slice a7 B2.length c7) (u1 := .slice a8 E.length c8) (u2 := .int .i64 r1) (u3 := .int .i64 t1) hq_o_3.out))).trans (box4_same (u0 := .slice a7 B2.length c7) (u1 := .slice a8 E.length c8) (u2 := .int .i64 r1) (u3 := .int .i64 t1) hq_o_3.out))
     have hp4 := hid ((heap_alloc_old _ (Obj.cells #[.int .i64 ph, .slice a9 G2.length c9, .string pl] 32) (heap_lt (box4_other (q := w2.heap.size) (u0 := .slice a7 B2.length c7) (u1 := .slice a8 E.length c8) (u2 := .int .i64 r1) (u3 := .int .i64 t1) hq_p_3.out qxbri_2))).trans (box4_other (q := w2.heap.size) (u0 := .slice a7 B2.length c7) (u1 := .slice a8 E.length c8) (u2 := .int .i64 r1) (u3 := .int .i64 t1) hq_p_3.out qxbri_2))
     have hd4 := hid ((heap_alloc_old _ (Obj.cells #[.int .i64 ph, .slice a9 G2.length c9, .string pl] 32) (heap_lt (box4_other (q := w2.heap.size) (u0 := .slice a7 B2.length c7) (u1 := .slice a8 E.length c8) (u2 := .int .i64 r1) (u3 := .int .i64 t1) hq_d_3.out qxbri_2))).trans (box4_other (q := w2.heap.size) (u0 := .slice a7 B2.length c7) (u1 := .slice a8 E.length c8) (u2 := .int .i64 r1) (u3 := .int .i64 t1) hq_d_3.out qxbri_2))
     have hb4 := hid (b_alloc (b_box4 hb3.out (q := w2.heap.size) qxbri_2 (.slice a7 B2.length c7) (.slice a8 E.length c8) (.int .i64 r1) (.int .i64 t1)) (Obj.cells #[.int .i64 ph, .slice a9 G2.length c9, .string pl] 32))
     have hbx := (⟨_, _, _, _, _, _, _, _, hq_o_3.out⟩ : ∃ a n c a' n' c' r t, w3.heap[w2.heap.size]? = some (.cells #[.slice a n c, .slice a' n' c', .int .i64 r, .int .i64 t] 29 (0, 0)))
     have rb4 := hid ((r_B1_3.out.box4 EBlob.writes hbx a7 B2.length c7 a8 E.length c8 r1 t1).mono EBlob.stable (b_alloc (Below.refl _ _) (Obj.cells #[.int .i64 ph, .slice a9 G2.length c9, .string pl] 32)))
     have re4 := hid ((r_E1_3.out.box4 EEntry.writes hbx a7 B2.length c7 a8 E.length c8 r1 t1).mono EEntry.stable (b_alloc (Below.refl _ _) (Obj.cells #[.int .i64 ph, .slice a9 G2.length c9, .string pl] 32)))
     have og4 := hid (OS.alloc (OS.boxS4 (u0 := .slice a7 B2.length c7) (u1 := .slice a8 E.length c8) (u2 := .int .i64 r1) (u3 := .int .i64 t1) (OS.mono o1c.out (show w.heap.size ≤ _ by first | omega | (simp; omega))) hq_o_3.out (by decide)) (Obj.cells #[.int .i64 ph, .slice a9 G2.length c9, .string pl] 32))
     unfold World.box4 at hn4 ho4 hp4 hd4 hb4 rb4 re4 og4
     generalize World.alloc ((((w3.setCell ⟨w2.heap.size, 0, none⟩ (.slice a7 B2.length c7)).setCell ⟨w2.heap.size, 1, none⟩ (.slice a8 E.length c8)).setCell ⟨w2.heap.size, 2, none⟩ (.int .i64 r1)).setCell ⟨w2.heap.size, 3, none⟩ (.int .i64 t1)) (Obj.cells #[.int .i64 ph, .slice a9 G2.length c9, .string pl] 32) = w4 at *
     clear x_o_0 x_o_1 x_o_2 x_o_3 g_o_0 g_o_1 g_o_2 g_o_3
     obtain ⟨x0, x1, x2, x3⟩ := box4f ho4.out
     obtain ⟨e0, e1', e2, -⟩ := box3f hn4.out
     have hnS := ho4.out
     have hnC := hn4.out
     have ne1 : w2.heap.size ≠ w.heap.size + 1 + 1 := by omega
     have ne2 : w2.heap.size ≠ w.heap.size + 1 + 1 + 1 := by omega
     have ne3 : w3.heap.size ≠ w.heap.size + 1 + 1 := by omega
     have ne4 : w3.heap.size ≠ w.heap.size + 1 + 1 + 1 := by omega
     obtain ⟨y0, y1, y2, y3⟩ := box4f hp4.out
     obtain ⟨z0, z1, z2, -⟩ := box3f hd4.out
     have g0 := frozen_heap hp4.out 0
     have g1 := frozen_heap hp4.out 1
     have g2 := frozen_heap hp4.out 2
     have g3 := frozen_heap hp4.out 3
     have kf0 := frozen_heap hd4.out 0
     have kf1 := frozen_heap hd4.out 1
     have kf2 := frozen_heap hd4.out 2
     have hS := box4f hnS
     have hC := box3f hnC
     go_wp2_with fail
     go_region_held3 (fun w' => w'.cell? ⟨w2.heap.size, 0, none⟩ = some (.slice a7 B2.length c7) ∧ w'.cell? ⟨w2.heap.size, 1, none⟩ = some (.slice a8 E.length c8) ∧ w'.cell? ⟨w2.heap.size, 2, none⟩ = some (.int .i64 r1) ∧ w'.cell? ⟨w2.heap.size, 3, none⟩ = some (.int .i64 t1) ∧ w'.cell? ⟨w3.heap.size, 0, none⟩ = some (.int .i64 ph) ∧ w'.cell? ⟨w3.heap.size, 1, none⟩ = some (.slice a9 G2.length c9) ∧ w'.cell? ⟨w3.heap.size, 2, none⟩ = some (.string pl))
      (first
        | with_reducible exact ⟨hS.1, hS.2.1, hS.2.2.1, hS.2.2.2, hC.1, hC.2.1, hC.2.2.1⟩
        | (have h1 := box4f (heap_drewn (box4_other (q := w.heap.size + 1 + 1) (u0 := .slice a7 B2.length c7) (u1 := .slice a8 E.length c8) (u2 := .int .i64 r1) (u3 := .int .i64 t1) hnS ne1))
           have h2 := box3f (heap_drewn (box4_other (q := w.heap.size + 1 + 1) (u0 := .slice a7 B2.length c7) (u1 := .slice a8 E.length c8) (u2 := .int .i64 r1) (u3 := .int .i64 t1) hnC ne3))
           unfold World.box4 at h1 h2
           (try unfold World.box3 at h1 h2)
           with_reducible exact ⟨h1.1, h1.2.1, h1.2.2.1, h1.2.2.2, h2.1, h2.2.1, h2.2.2.1⟩)
        | (have h1 := box4f (heap_drewn (box3_other (q := w.heap.size + 1 + 1 + 1) (u0 := .int .i64 ph) (u1 := .slice a9 G2.length c9) (u2 := .string pl) (box4_other (q := w.heap.size + 1 + 1) (u0 := .slice a7 B2.length c7) (u1 := .slice a8 E.length c8) (u2 := .int .i64 r1) (u3 := .int .i64 t1) hnS ne1) ne2))
           have h2 := box3f (heap_drewn (box3_other (q := w.heap.size + 1 + 1 + 1) (u0 := .int .i64 ph) (u1 := .slice a9 G2.length c9) (u2 := .string pl) (box4_other (q := w.heap.size + 1 + 1) (u0 := .slice a7 B2.length c7) (u1 := .slice a8 E.length c8) (u2 := .int .i64 r1) (u3 := .int .i64 t1) hnC ne3) ne4))
           unfold World.box4 at h1 h2
           (try unfold World.box3 at h1 h2)
           with_reducible exact ⟨h1.1, h1.2.1, h1.2.2.1, h1.2.2.2, h2.1, h2.2.1, h2.2.2.1⟩)
        | go_keep
        | fail)
      (fail)
     go_wp2_with fail
     have hbox := (⟨_, _, _, _, _, _, _, _, hp4.out⟩ : ∃ a n c a' n' c' r t, w4.heap[w.heap.size + 1 + 1]? = some (.cells #[.slice a n c, .slice a' n' c', .int .i64 r, .int .i64 t] 29 (0, 0)))
     have hdx := box4_other (q := w.heap.size + 1 + 1) (u0 := .slice a7 B2.length c7) (u1 := .slice a8 E.length c8) (u2 := .int .i64 r1) (u3 := .int .i64 t1) hd4.out qxbri_2
     have rl9 := ((rb4.out.box4 EBlob.writes hbox a7 B2.length c7 a8 E.length c8 r1 t1).box3 EBlob.writesC ⟨_, _, _, _, _, hdx⟩ ph a9 G2.length c9 pl).mono EBlob.stable (Below.refl _ _).drew
     have re9 := ((re4.out.box4 EEntry.writes hbox a7 B2.length c7 a8 E.length c8 r1 t1).box3 EEntry.writesC ⟨_, _, _, _, _, hdx⟩ ph a9 G2.length c9 pl).mono EEntry.stable (Below.refl _ _).drew
     unfold World.box4 World.box3 at rl9 re9
     have os9 := OS.drew (OS.boxS3 (u0 := .int .i64 ph) (u1 := .slice a9 G2.length c9) (u2 := .string pl) (OS.boxS4 (u0 := .slice a7 B2.length c7) (u1 := .slice a8 E.length c8) (u2 := .int .i64 r1) (u3 := .int .i64 t1) og4.out hp4.out (by decide)) hdx (by decide))
     have rt9 := reads_str os9 bnd.out szs.out
     unfold World.box4 World.box3 at os9 rt9
     have hp9 := heap_drewn (box3_other (q := w.heap.size + 1 + 1 + 1) (u0 := .int .i64 ph) (u1 := .slice a9 G2.length c9) (u2 := .string pl) (box4_same (u0 := .slice a7 B2.length c7) (u1 := .slice a8 E.length c8) (u2 := .int .i64 r1) (u3 := .int .i64 t1) hp4.out) qxbri_2)
     have hd9 := heap_drewn (box3_same (u0 := .int .i64 ph) (u1 := .slice a9 G2.length c9) (u2 := .string pl) (box4_other (q := w.heap.size + 1 + 1) (u0 := .slice a7 B2.length c7) (u1 := .slice a8 E.length c8) (u2 := .int .i64 r1) (u3 := .int .i64 t1) hd4.out qxbri_2))
     have hb9 := (b_box3 (b_box4 hb4.out (q := w.heap.size + 1 + 1) qxbri_2 (.slice a7 B2.length c7) (.slice a8 E.length c8) (.int .i64 r1) (.int .i64 t1)) (q := w.heap.size + 1 + 1 + 1) qxbri_2 (.int .i64 ph) (.slice a9 G2.length c9) (.string pl)).drew
     obtain ⟨m0, m1, m2, m3⟩ := box4f hp9
     obtain ⟨n0, n1, n2, -⟩ := box3f hd9
     unfold World.box4 World.box3 at m0 m1 m2 m3 n0 n1 n2 hb9
     (try simp only [Exit.inBlock, Exit.then])
     refine bodyPost_ret (by simp [results, Tryz.results144, go_sem, m0, m1, m2, m3, n0, n1, n2]; try rfl) rfl ?_
     exact coD_ok hd.out rl9 re9 rt9 os9 hb9
   · have hd := hid (And.intro (bar_op (S := ⟨B, E, r1, t1⟩) (ph := ph) (gy := gy) (pl := pl) (l := [d]) he) (barD_op (d := d) he))
     have q1 : (e1 != 0) = true := by simp [he]
     simp only [if_neg he] at hop
     replace hop := hid hop
     generalize noStore = So at hop
     obtain ⟨B0, E0, r0, t0⟩ := So
     replace he := hid he
     go_enter Tryz.func144, Tryz.ntmps144
     go_wp2_with fail
     ((with_reducible refine (hch.out _ (hR.out.mono EBlob.stable (b_alloc (b_alloc (b_alloc (b_alloc (Below.refl _ w) _) _) _) _)) (hE.out.mono EEntry.stable (b_alloc (b_alloc (b_alloc (b_alloc (Below.refl _ w) _) _) _) _)) (hG.out.mono EStr.stable (b_alloc (b_alloc (b_alloc (b_alloc (Below.refl _ w) _) _) _) _))).mono ?_); rintro e1 w1 ⟨rfl, b1⟩)
     have hq_q_1 := hid (stays b1 (hold (hold (hold (heap_put w _ (w.heap.size) (by simp))))))
     have hq_k_1 := hid (stays b1 (hold (hold (heap_put _ _ (w.heap.size + 1) (by simp)))))
     have hq_p_1 := hid (stays b1 (hold (heap_put _ _ (w.heap.size + 1 + 1) (by simp))))
     have hq_d_1 := hid (stays b1 (heap_put _ _ (w.heap.size + 1 + 1 + 1) (by simp)))
     have hb1 := hid (b_call (b_alloc (b_alloc (b_alloc (b_alloc (Below.refl _ w) _) _) _) _) b1)
     have r_R_1 := hid (hR.out.mono EBlob.stable (b_call (b_alloc (b_alloc (b_alloc (b_alloc (Below.refl _ w) _) _) _) _) b1))
     have r_E_1 := hid (hE.out.mono EEntry.stable (b_call (b_alloc (b_alloc (b_alloc (b_alloc (Below.refl _ w) _) _) _) _) b1))
     have r_G_1 := hid (hG.out.mono EStr.stable (b_call (b_alloc (b_alloc (b_alloc (b_alloc (Below.refl _ w) _) _) _) _) b1))
     have r_D_1 := hid (hD.out.mono EU8.stable (b_call (b_alloc (b_alloc (b_alloc (b_alloc (Below.refl _ w) _) _) _) _) b1))
     clear b1
     obtain ⟨x_q_0, x_q_1, x_q_2, x_q_3⟩ := box4f hq_q_1.out
     obtain ⟨x_k_0, x_k_1, x_k_2, -⟩ := box3f hq_k_1.out
     go_wp2_with fail
     ((with_reducible refine (hop.out _ r_R_1.out r_E_1.out r_D_1.out).mono ?_); rintro e2 w2 ⟨_, rfl, ⟨A1, D1, rfl, rA, rD⟩, b2⟩)
     clear x_q_0 x_q_1 x_q_2 x_q_3 x_k_0 x_k_1 x_k_2
     have hq_q_2 := hid (stays b2 hq_q_1.out)
     have hq_k_2 := hid (stays b2 hq_k_1.out)
     have hq_p_2 := hid (stays b2 hq_p_1.out)
     have hq_d_2 := hid (stays b2 hq_d_1.out)
     have hb2 := hid (b_call hb1.out b2)
     have r_R_2 := hid (r_R_1.out.mono EBlob.stable (b_call (Below.refl w1.heap.size w1) b2))
     have r_E_2 := hid (r_E_1.out.mono EEntry.stable (b_call (Below.refl w1.heap.size w1) b2))
     have r_G_2 := hid (r_G_1.out.mono EStr.stable (b_call (Below.refl w1.heap.size w1) b2))
     have r_D_2 := hid (r_D_1.out.mono EU8.stable (b_call (Below.refl w1.heap.size w1) b2))
     have r_A_2 := hid rA
     have r_X_2 := hid rD
     clear hq_q_1 hq_k_1 hq_p_1 hq_d_1 hb1 r_R_1 r_E_1 r_G_1 r_D_1 rA rD b2
     have hs2 : w.heap.size + 4 ≤ w2.heap.size := heap_lt hq_d_2.out
     obtain ⟨a5, c5, rfl, -⟩ := id r_A_2.out
     obtain ⟨a6, c6, rfl, -⟩ := id r_X_2.out
     obtain ⟨x_q_0, x_q_1, x_q_2, x_q_3⟩ := box4f hq_q_2.out
     obtain ⟨x_k_0, x_k_1, x_k_2, -⟩ := box3f hq_k_2.out
     go_upto_region 5 with fail
     have hpb := hid (alloc_keep (o := Obj.cells #[.slice a5 B0.length c5, .slice a6 E0.length c6, .int .i64 r0, .int .i64 t0] 29) hq_p_2.out)
     have hdb := hid (alloc_keep (o := Obj.cells #[.slice a5 B0.length c5, .slice a6 E0.length c6, .int .i64 r0, .int .i64 t0] 29) hq_d_2.out)
     have hbb := hid (b_alloc hb2.out (Obj.cells #[.slice a5 B0.length c5, .slice a6 E0.length c6, .int .i64 r0, .int .i64 t0] 29))
     clear x_q_0 x_q_1 x_q_2 x_q_3 x_k_0 x_k_1 x_k_2
     generalize w2.alloc (Obj.cells #[.slice a5 B0.length c5, .slice a6 E0.length c6, .int .i64 r0, .int .i64 t0] 29) = wb at *
     clear hq_p_2 hq_d_2 hb2 r_A_2 r_X_2 r_R_2 r_E_2 r_G_2
     obtain ⟨p0, p1, p2, p3⟩ := box4f hpb.out
     obtain ⟨d0, d1, d2, -⟩ := box3f hdb.out
     have g0 := frozen_heap hpb.out 0
     have g1 := frozen_heap hpb.out 1
     have g2 := frozen_heap hpb.out 2
     have g3 := frozen_heap hpb.out 3
     have kf0 := frozen_heap hdb.out 0
     have kf1 := frozen_heap hdb.out 1
     have kf2 := frozen_heap hdb.out 2
     go_wp2_with fail
     have hp9 := box3_other (q := w.heap.size + 1 + 1 + 1) (u0 := .int .i64 0) (u1 := .slice none 0 0) (u2 := .string ⟨#[]⟩) (box4_same (u0 := .slice none 0 0) (u1 := .slice none 0 0) (u2 := .int .i64 0) (u3 := .int .i64 0) hpb.out) qxbri_2
     have hd9 := box3_same (u0 := .int .i64 0) (u1 := .slice none 0 0) (u2 := .string ⟨#[]⟩) (box4_other (q := w.heap.size + 1 + 1) (u0 := .slice none 0 0) (u1 := .slice none 0 0) (u2 := .int .i64 0) (u3 := .int .i64 0) hdb.out qxbri_2)
     have hb9 := b_box3 (b_box4 hbb.out (q := w.heap.size + 1 + 1) qxbri_2 (.slice none 0 0) (.slice none 0 0) (.int .i64 0) (.int .i64 0)) (q := w.heap.size + 1 + 1 + 1) qxbri_2 (.int .i64 0) (.slice none 0 0) (.string ⟨#[]⟩)
     exact qxbri_1
 · have ht : (z != 0) = true := by simp [hz]
   have hd := hid (And.intro (bar_bad (e := e1) (S := ⟨B, E, r1, t1⟩) (ph := ph) (gy := gy) (pl := pl) (l := [d]) hz) (barD_bad (e := e1) (d := d) hz))
   replace hz := hid hz
   clear hop
   go_enter Tryz.func144, Tryz.ntmps144
   go_wp2_with fail
   ((with_reducible refine (hch.out _ (hR.out.mono EBlob.stable (b_alloc (b_alloc (b_alloc (b_alloc (Below.refl _ w) _) _) _) _)) (hE.out.mono EEntry.stable (b_alloc (b_alloc (b_alloc (b_alloc (Below.refl _ w) _) _) _) _)) (hG.out.mono EStr.stable (b_alloc (b_alloc (b_alloc (b_alloc (Below.refl _ w) _) _) _) _))).mono ?_); rintro e1 w1 ⟨rfl, b1⟩)
   have hq_q_1 := hid (stays b1 (hold (hold (hold (heap_put w _ (w.heap.size) (by simp))))))
   have hq_k_1 := hid (stays b1 (hold (hold (heap_put _ _ (w.heap.size + 1) (by simp)))))
   have hq_p_1 := hid (stays b1 (hold (heap_put _ _ (w.heap.size + 1 + 1) (by simp))))
   have hq_d_1 := hid (stays b1 (heap_put _ _ (w.heap.size + 1 + 1 + 1) (by simp)))
   have hb1 := hid (b_call (b_alloc (b_alloc (b_alloc (b_alloc (Below.refl _ w) _) _) _) _) b1)
   have r_R_1 := hid (hR.out.mono EBlob.stable (b_call (b_alloc (b_alloc (b_alloc (b_alloc (Below.refl _ w) _) _) _) _) b1))
   have r_E_1 := hid (hE.out.mono EEntry.stable (b_call (b_alloc (b_alloc (b_alloc (b_alloc (Below.refl _ w) _) _) _) _) b1))
   have r_G_1 := hid (hG.out.mono EStr.stable (b_call (b_alloc (b_alloc (b_alloc (b_alloc (Below.refl _ w) _) _) _) _) b1))
   have r_D_1 := hid (hD.out.mono EU8.stable (b_call (b_alloc (b_alloc (b_alloc (b_alloc (Below.refl _ w) _) _) _) _) b1))
   clear b1
   obtain ⟨x_q_0, x_q_1, x_q_2, x_q_3⟩ := box4f hq_q_1.out
   obtain ⟨x_k_0, x_k_1, x_k_2, -⟩ := box3f hq_k_1.out
   obtain ⟨x_p_0, x_p_1, x_p_2, x_p_3⟩ := box4f hq_p_1.out
   have l_p := heap_lt hq_p_1.out
   have g_p_0 := frozen_heap hq_p_1.out 0
   have g_p_1 := frozen_heap hq_p_1.out 1
   have g_p_2 := frozen_heap hq_p_1.out 2
   have g_p_3 := frozen_heap hq_p_1.out 3
   obtain ⟨x_d_0, x_d_1, x_d_2, -⟩ := box3f hq_d_1.out
   have l_d := heap_lt hq_d_1.out
   have g_d_0 := frozen_heap hq_d_1.out 0
   have g_d_1 := frozen_heap hq_d_1.out 1
   have g_d_2 := frozen_heap hq_d_1.out 2
   go_wp2_with fail
   have hp9 := box3_other (q := w.heap.size + 1 + 1 + 1) (u0 := .int .i64 0) (u1 := .slice none 0 0) (u2 := .string ⟨#[]⟩) (box4_same (u0 := .slice none 0 0) (u1 := .slice none 0 0) (u2 := .int .i64 0) (u3 := .int .i64 0) hq_p_1.out) qxbri_2
   have hd9 := box3_same (u0 := .int .i64 0) (u1 := .slice none 0 0) (u2 := .string ⟨#[]⟩) (box4_other (q := w.heap.size + 1 + 1) (u0 := .slice none 0 0) (u1 := .slice none 0 0) (u2 := .int .i64 0) (u3 := .int .i64 0) hq_d_1.out qxbri_2)
   have hb9 := b_box3 (b_box4 hb1.out (q := w.heap.size + 1 + 1) qxbri_2 (.slice none 0 0) (.slice none 0 0) (.int .i64 0) (.int .i64 0)) (q := w.heap.size + 1 + 1 + 1) qxbri_2 (.int .i64 0) (.slice none 0 0) (.string ⟨#[]⟩)
   exact qxbri_1
end Go.Proofs.YtpkpgehiplhkpaaGreat

namespace Go.Proofs.YtpkpgehiplhkpaaGreat
open Go.RowKit
end Go.Proofs.YtpkpgehiplhkpaaGreat

namespace Go.Proofs.YtpkpgehiplhkpaaGreat
open Go.RowKit
end Go.Proofs.YtpkpgehiplhkpaaGreat
