import Derived.Test.YtpkpgehiplhkpaaGreatTzBrL
import Derived.Test.YtpkpgehiplhkpaaGreatTzPbx
namespace Go.Proofs.YtpkpgehiplhkpaaGreat
open Go.RowKit
theorem qzbrp_4 {P : Prop} (h : P := by omega) : P := h
theorem qzbrp_3 {P : Prop} (h : P := by first | exact hb3 | exact b_alloc hb3 _ | fail) : P := h
theorem qzbrp_2 {P : Prop} (h : P := by first | exact (Below.refl _ wb).drew | exact (b_alloc (Below.refl _ wb) _).drew | exact b_alloc (Below.refl _ wb).drew _ | exact Below.refl _ _ | fail) : P := h
theorem qzbrp_1 {P : Prop} (h : P := by
 obtain ⟨m0, m1, m2, m3⟩ := box4f hp9
 obtain ⟨n0, n1, n2, -⟩ := box3f hd9
 unfold World.box4 World.box3 at m0 m1 m2 m3 n0 n1 n2 hb9
 (try simp only [Exit.inBlock, Exit.then])
 refine bodyPost_ret (by simp [results, Tryz.results211, go_sem, m0, m1, m2, m3, n0, n1, n2]; try rfl) rfl ?_
 exact coO_no hd.out hb9) : P := h
theorem BpMid.fin {w wb W : World} {q : Nat} {B2 : List Blob} {E : List Entry} {r1 t1 ph : Int} {G2 : List ByteArray} {pl : ByteArray} {q14 c7 c8 c9 m7 d7 m8 d8 : Nat} {a7 a8 a9 e7 e8 : Option Addr} {i j : Int}
 (ho : W.heap[q]? = some (.cells #[.slice e7 m7 d7, .slice e8 m8 d8, .int .i64 i, .int .i64 j] 29 (0, 0)))
 (hn : W.heap[q14]? = some (.cells #[.int .i64 0, .slice none 0 0, .string ⟨#[]⟩] 32 (0, 0)))
 (hp : W.heap[w.heap.size + 1 + 1]? = some (.cells #[.slice none 0 0, .slice none 0 0, .int .i64 0, .int .i64 0] 29 (0, 0))) (hd : W.heap[w.heap.size + 1 + 1 + 1]? = some (.cells #[.int .i64 0, .slice none 0 0, .string ⟨#[]⟩] 32 (0, 0)))
 (hq : w.heap.size + 4 ≤ q ∧ q < wb.heap.size) (hq14 : wb.heap.size ≤ q14) (bnd : G2.length * 16 ≤ 140737488351232) (szs : ∀ s ∈ G2, s.size ≤ 140737488351232)
 (rb : RBl W (.slice a7 B2.length c7) B2) (re : RE W (.slice a8 E.length c8) E) (og : OS 9 1 cStr W w.heap.size (.slice a9 G2.length c9) G2) (hb : Below w.heap.size w W) :
 BpMid w wb q B2 E r1 t1 ph G2 pl (.pointer (some ⟨q14, 0, none⟩)) (((((((W.setCell ⟨q, 0, none⟩ (.slice a7 B2.length c7)).setCell ⟨q, 1, none⟩ (.slice a8 E.length c8)).setCell ⟨q, 2, none⟩ (.int .i64 r1)).setCell ⟨q, 3, none⟩ (.int .i64 t1)).setCell ⟨q14, 0, none⟩ (.int .i64 ph)).setCell ⟨q14, 1, none⟩ (.slice a9 G2.length c9)).setCell ⟨q14, 2, none⟩ (.string pl)) := by
 obtain ⟨h1, h2⟩ := hq
 have n1 : q14 ≠ q := by omega
 have n2 : w.heap.size + 1 + 1 ≠ q := by omega
 have n3 : w.heap.size + 1 + 1 + 1 ≠ q := by omega
 have n4 : w.heap.size + 1 + 1 ≠ q14 := by omega
 have n5 : w.heap.size + 1 + 1 + 1 ≠ q14 := by omega
 exact ⟨q14, a7, c7, a8, c8, a9, c9, rfl, hq14, w3_far (w4_same ho) (Ne.symm n1), w3_same (w4_far hn n1), w3_far (w4_far hp n2) n4, w3_far (w4_far hd n3) n5, bnd, szs,
  rs_w3 EBlob.writesC (rs_w4 EBlob.writes rb (SBox.of ho)) (CBox.of (w4_far hn n1)), rs_w3 EEntry.writesC (rs_w4 EEntry.writes re (SBox.of ho)) (CBox.of (w4_far hn n1)),
  os_w3 (os_w4 og ho) (w4_far hn n1), b_w3 (b_w4 hb qzbrp_4) qzbrp_4⟩
theorem BpMid.finC {w wb W : World} {q : Nat} {B2 : List Blob} {E : List Entry} {r1 t1 ph : Int} {G2 : List ByteArray} {pl : ByteArray} {c7 c8 c9 m7 d7 m8 d8 : Nat} {a7 a8 a9 e7 e8 : Option Addr} {i j : Int}
 (ho : W.heap[q]? = some (.cells #[.slice e7 m7 d7, .slice e8 m8 d8, .int .i64 i, .int .i64 j] 29 (0, 0)))
 (hp : W.heap[w.heap.size + 1 + 1]? = some (.cells #[.slice none 0 0, .slice none 0 0, .int .i64 0, .int .i64 0] 29 (0, 0))) (hd : W.heap[w.heap.size + 1 + 1 + 1]? = some (.cells #[.int .i64 0, .slice none 0 0, .string ⟨#[]⟩] 32 (0, 0)))
 (hq : w.heap.size + 4 ≤ q ∧ q < wb.heap.size) (hq14 : wb.heap.size ≤ W.heap.size) (bnd : G2.length * 16 ≤ 140737488351232) (szs : ∀ s ∈ G2, s.size ≤ 140737488351232)
 (rb : RBl W (.slice a7 B2.length c7) B2) (re : RE W (.slice a8 E.length c8) E) (og : OS 9 1 cStr W w.heap.size (.slice a9 G2.length c9) G2) (hb : Below w.heap.size w W) :
 BpMid w wb q B2 E r1 t1 ph G2 pl (.pointer (some ⟨W.heap.size, 0, none⟩)) (((((W.setCell ⟨q, 0, none⟩ (.slice a7 B2.length c7)).setCell ⟨q, 1, none⟩ (.slice a8 E.length c8)).setCell ⟨q, 2, none⟩ (.int .i64 r1)).setCell ⟨q, 3, none⟩ (.int .i64 t1)).alloc (Obj.cells #[.int .i64 ph, .slice a9 G2.length c9, .string pl] 32)) := by
 obtain ⟨h1, h2⟩ := hq
 have n2 : w.heap.size + 1 + 1 ≠ q := by omega
 have n3 : w.heap.size + 1 + 1 + 1 ≠ q := by omega
 exact ⟨_, a7, c7, a8, c8, a9, c9, rfl, hq14, hold (w4_same ho), heap_put _ _ _ (by simp [World.setCell]), hold (w4_far hp n2), hold (w4_far hd n3), bnd, szs,
  RS.al EBlob.stable (rs_w4 EBlob.writes rb (SBox.of ho)) _, RS.al EEntry.stable (rs_w4 EEntry.writes re (SBox.of ho)) _, OS.alloc (os_w4 og ho) _, b_alloc (b_w4 hb qzbrp_4) _⟩
set_option maxRecDepth 100000 in
set_option maxHeartbeats 16000000 in
theorem barrier_Put' (v u gv : Value) (bs : List Blob) (es : List Entry) (r t ph : Int) (pl : ByteArray) (gy : List ByteArray) (b : Value) (s : ByteArray) (L : List Part) (w : World) (h : RBl w v bs) (g : RE w u es) (hg : RT w gv gy) (gd : RP w b L) (z e1 : Int) (B : List Blob) (E : List Entry) (r1 t1 : Int)
 (hL8 : z = 0 → e1 = 0 → L.length ≤ 8) (hgl : gy.length ≤ 8388608)
 (hch : ∀ w, RBl w v bs → RE w u es → RT w gv gy → Calls Tryz.prog 69 #[.agg #[v, u, .int .i64 r, .int .i64 t], .agg #[.int .i64 ph, gv, .string pl]] w fun e w' => e = .returned (.int .i64 z) ∧ Below w.heap.size w w')
 (hop : ∀ w, RBl w v bs → RE w u es → RP w b L → Calls Tryz.prog 252 #[.agg #[v, u, .int .i64 r, .int .i64 t], .string s, b] w (StRes e1 ⟨B, E, r1, t1⟩ w)) :
 Calls Tryz.prog 211 #[.agg #[v, u, .int .i64 r, .int .i64 t], .agg #[.int .i64 ph, gv, .string pl], .string s, b] w (CoResO (barOut z e1 ⟨B, E, r1, t1⟩ ph gy pl (L.map (·.digest))) w) := by
 replace hch := hid hch
 have hR := hid h
 have hE := hid g
 have hG := hid hg
 have hD := hid gd
 obtain ⟨a, c, rfl, -⟩ := h
 obtain ⟨a2, c2, rfl, -⟩ := g
 obtain ⟨ga, gc, rfl, -⟩ := hg
 unfold StRes VS at hop
 by_cases hz : z = 0
 · subst hz
   by_cases he : e1 = 0
   · subst he
     have hd := hid (bar_ok (S := ⟨B, E, r1, t1⟩) (ph := ph) (gy := gy) (pl := pl) (l := (L.map (·.digest))))
     have hL := hL8 rfl rfl
     simp only [if_true] at hop
     replace hop := hid hop
     go_enter Tryz.func211, Tryz.ntmps211
     go_wp2_with fail
     ((with_reducible refine (hch.out _ (hR.out.mono EBlob.stable (b_alloc (b_alloc (b_alloc (b_alloc (Below.refl _ w) _) _) _) _)) (hE.out.mono EEntry.stable (b_alloc (b_alloc (b_alloc (b_alloc (Below.refl _ w) _) _) _) _)) (hG.out.mono EStr.stable (b_alloc (b_alloc (b_alloc (b_alloc (Below.refl _ w) _) _) _) _))).mono ?_); rintro e1 w1 ⟨rfl, b1⟩)
     have hq_q_1 := hid (stays b1 (hold (hold (hold (heap_put w _ (w.heap.size) (by simp))))))
     have hq_k_1 := hid (stays b1 (hold (hold (heap_put _ _ (w.heap.size + 1) (by simp)))))
     have hq_p_1 := hid (stays b1 (hold (heap_put _ _ (w.heap.size + 1 + 1) (by simp))))
     have hq_d_1 := hid (stays b1 (heap_put _ _ (w.heap.size + 1 + 1 + 1) (by simp)))
     have hb1 := hid (b_call (b_alloc (b_alloc (b_alloc (b_alloc (Below.refl _ w) _) _) _) _) b1)
     have r_R_1 := hid (hR.out.mono EBlob.stable (b_call (b_alloc (b_alloc (b_alloc (b_alloc (Below.refl _ w) _) _) _) _) b1))
     have r_E_1 := hid (hE.out.mono EEntry.stable (b_call (b_alloc (b_alloc (b_alloc (b_alloc (Below.refl _ w) _) _) _) _) b1))
     have r_G_1 := hid (hG.out.mono EStr.stable (b_call (b_alloc (b_alloc (b_alloc (b_alloc (Below.refl _ w) _) _) _) _) b1))
     have r_D_1 := hid (hD.out.mono EPart.stable (b_call (b_alloc (b_alloc (b_alloc (b_alloc (Below.refl _ w) _) _) _) _) b1))
     clear b1
     obtain ⟨x_q_0, x_q_1, x_q_2, x_q_3⟩ := box4f hq_q_1.out
     obtain ⟨x_k_0, x_k_1, x_k_2, -⟩ := box3f hq_k_1.out
     go_wp2_with fail
     ((with_reducible refine (hop.out _ r_R_1.out r_E_1.out r_D_1.out).mono ?_); rintro e2 w2 ⟨_, rfl, ⟨A1, D1, rfl, rA, rD⟩, b2⟩)
     clear x_q_0 x_q_1 x_q_2 x_q_3 x_k_0 x_k_1 x_k_2
     have hq_q_2 := hid (stays b2 hq_q_1.out)
     have hq_k_2 := hid (stays b2 hq_k_1.out)
     have hq_p_2 := hid (stays b2 hq_p_1.out)
     have hq_d_2 := hid (stays b2 hq_d_1.out)
     have hb2 := hid (b_call hb1.out b2)
     have r_R_2 := hid (r_R_1.out.mono EBlob.stable (b_call (Below.refl w1.heap.size w1) b2))
     have r_E_2 := hid (r_E_1.out.mono EEntry.stable (b_call (Below.refl w1.heap.size w1) b2))
     have r_G_2 := hid (r_G_1.out.mono EStr.stable (b_call (Below.refl w1.heap.size w1) b2))
     have r_D_2 := hid (r_D_1.out.mono EPart.stable (b_call (Below.refl w1.heap.size w1) b2))
     have r_A_2 := hid rA
     have r_X_2 := hid rD
     clear hq_q_1 hq_k_1 hq_p_1 hq_d_1 hb1 r_R_1 r_E_1 r_G_1 r_D_1 rA rD b2
     have hs2 : w.heap.size + 4 ≤ w2.heap.size := heap_lt hq_d_2.out
     obtain ⟨a5, c5, rfl, -⟩ := id r_A_2.out
     obtain ⟨a6, c6, rfl, -⟩ := id r_X_2.out
     obtain ⟨hql, hkl⟩ := And.intro (heap_lt hq_q_2.out) (heap_lt hq_k_2.out)
     obtain ⟨x_q_0, x_q_1, x_q_2, x_q_3⟩ := box4f hq_q_2.out
     obtain ⟨x_k_0, x_k_1, x_k_2, -⟩ := box3f hq_k_2.out
     go_upto_region 7 with fail
     have hob := hid (heap_alloc_new w2 (Obj.cells #[.slice a5 B.length c5, .slice a6 E.length c6, .int .i64 r1, .int .i64 t1] 29))
     have hkb := hid (alloc_keep (o := Obj.cells #[.slice a5 B.length c5, .slice a6 E.length c6, .int .i64 r1, .int .i64 t1] 29) hq_k_2.out)
     have hpb := hid (alloc_keep (o := Obj.cells #[.slice a5 B.length c5, .slice a6 E.length c6, .int .i64 r1, .int .i64 t1] 29) hq_p_2.out)
     have hdb := hid (alloc_keep (o := Obj.cells #[.slice a5 B.length c5, .slice a6 E.length c6, .int .i64 r1, .int .i64 t1] 29) hq_d_2.out)
     have hbb := hid (b_alloc hb2.out (Obj.cells #[.slice a5 B.length c5, .slice a6 E.length c6, .int .i64 r1, .int .i64 t1] 29))
     have rAb := hid (RS.al EBlob.stable r_A_2.out (Obj.cells #[.slice a5 B.length c5, .slice a6 E.length c6, .int .i64 r1, .int .i64 t1] 29))
     have rXb := hid (RS.al EEntry.stable r_X_2.out (Obj.cells #[.slice a5 B.length c5, .slice a6 E.length c6, .int .i64 r1, .int .i64 t1] 29))
     have rGb := hid (RS.al EStr.stable r_G_2.out (Obj.cells #[.slice a5 B.length c5, .slice a6 E.length c6, .int .i64 r1, .int .i64 t1] 29))
     have rDb := hid (RS.al EPart.stable r_D_2.out (Obj.cells #[.slice a5 B.length c5, .slice a6 E.length c6, .int .i64 r1, .int .i64 t1] 29))
     have hl2 : w2.heap.size < (w2.alloc (Obj.cells #[.slice a5 B.length c5, .slice a6 E.length c6, .int .i64 r1, .int .i64 t1] 29)).heap.size := by simp
     clear x_q_0 x_q_1 x_q_2 x_q_3 x_k_0 x_k_1 x_k_2
     generalize w2.alloc (Obj.cells #[.slice a5 B.length c5, .slice a6 E.length c6, .int .i64 r1, .int .i64 t1] 29) = wb at *
     have hLm := hid (show (L.map (·.digest)).length * 16 ≤ 140737488351232 by rw [List.length_map]; omega)
     have hLs := hid (fun s (hs : s ∈ L.map (·.digest)) => (show s.size ≤ 140737488351232 by obtain ⟨p, hp, rfl⟩ := List.mem_map.1 hs; exact dig_ok rDb.out p hp))
     have hkm := hid (show (gy.length + (L.map (·.digest)).length) * 16 ≤ 140737488351232 by rw [List.length_map]; omega)
     have hdg := hid (fun w (h : RP w b L) => barrier_digests b L w h)
     unfold DigPost at hdg
     go_cut [14] from 14 (fun s14 wx => BpMid w wb w2.heap.size (keptB ph B (L.map (·.digest))) E r1 t1 ph (keptG ph gy (L.map (·.digest))) pl s14 wx)
     case first =>
      obtain ⟨x0, x1, x2, x3⟩ := box4f hob.out
      obtain ⟨y0, y1, y2, -⟩ := box3f hkb.out
      have lo := heap_lt hob.out
      have lk := heap_lt hkb.out
      go_region_with ((first
       | ((with_reducible refine (hdg.out _ (rDb.out.mono EPart.stable qzbrp_2)).mono ?_)
          rintro e w3 ⟨v3, rfl, o3, b3⟩
          have hb3 : Below wb.heap.size wb w3 := b_call qzbrp_2 b3
          have hs3 := hb3.size
          have ho3 : w3.heap[w2.heap.size]? = _ := hb3.block _ lo |>.trans hob.out
          have hk3 : w3.heap[w.heap.size + 1]? = _ := hb3.block _ lk |>.trans hkb.out
          obtain ⟨x0', x1', x2', x3'⟩ := box4f ho3
          obtain ⟨y0', y1', y2', -⟩ := box3f hk3
          have lo' := heap_lt ho3
          have lk' := heap_lt hk3
          have r3 := reads_str o3 hLm.out hLs.out
          obtain ⟨la, lc, rfl, -⟩ := id r3
          simp only [List.length_map] at r3
          (first | (have hz3 := stays b3 (heap_alloc_new _ _)) | (have hz3 := stays b3 (heap_drewn (heap_alloc_new _ _))) | (have hz3 := stays b3 (heap_drewn (heap_drewn (heap_alloc_new _ _)))) | skip)
          (try simp only [World.size_alloc, World.size_drew] at hz3))
       | ((with_reducible refine (barrier_keep _ _ _ _ B E r1 t1 ph pl gy (L.map (·.digest)) _ (rAb.out.mono EBlob.stable qzbrp_3) (rXb.out.mono EEntry.stable qzbrp_3) (rGb.out.mono EStr.stable qzbrp_3) (by first | exact r3 | exact RS.al EStr.stable r3 _) hkm.out).mono ?_)
          rintro e w4 ⟨v1, v2, v4, rfl, r4a, r4b, r4c, o4c, b4⟩
          have hb4 : Below wb.heap.size wb w4 := b_call qzbrp_3 b4
          have ho4 : w4.heap[w2.heap.size]? = _ := hb4.block _ lo |>.trans hob.out
          obtain ⟨x0'', x1'', x2'', x3''⟩ := box4f ho4
          have f0 := frozen_heap ho4 0
          have f1 := frozen_heap ho4 1
          have f2 := frozen_heap ho4 2
          have f3 := frozen_heap ho4 3
          have lo'' := heap_lt ho4
          have hs4 := hb4.size
          have hs3 := hb3.size
          have hp4 := hb4.block _ (heap_lt hpb.out) |>.trans hpb.out
          have hd4 := hb4.block _ (heap_lt hdb.out) |>.trans hdb.out
          (first | (have hz4 := stays b4 hz3) | (have hz4 := stays b4 (alloc_keep hz3)) | (have hz4 := stays b4 (heap_drewn hz3)) | (have hz4 := stays b4 (heap_drewn (alloc_keep hz3))) | (have hz4 := stays b4 (alloc_keep (heap_drewn hz3))) | (have hz4 := stays b4 (heap_alloc_new _ _)) | (have hz4 := stays b4 (heap_drewn (heap_alloc_new _ _))) | (have hz4 := stays b4 (heap_drewn (heap_drewn (heap_alloc_new _ _)))) | skip)
          (try simp only [World.size_alloc, World.size_drew] at hz4)
          (first | (obtain ⟨zc0, zc1, zc2, fc0, fc1, fc2⟩ := box3f hz4; have lhz4 := heap_lt hz4) | skip)
          obtain ⟨a7, c7, rfl, -⟩ := id r4a
          obtain ⟨a8, c8, rfl, -⟩ := id r4b
          obtain ⟨a9, c9, rfl, -⟩ := id r4c
          have hq0 : w.heap.size + 4 ≤ w2.heap.size ∧ w2.heap.size < wb.heap.size := ⟨hs2, lo⟩
          have og4 := OS.mono o4c (show w.heap.size ≤ _ by first | omega | (simp; omega))
          have hfb := hid (BpMid.finC ho4 hp4 hd4 hq0 hs4 (rt_bound r4c) (rt_sizes r4c) r4a r4b og4 (b_call hbb.out hb4) : BpMid w wb w2.heap.size (keptB ph B (L.map (·.digest))) E r1 t1 ph (keptG ph gy (L.map (·.digest))) pl _ _)
          (first | (have hfa := hid (BpMid.fin ho4 hz4 hp4 hd4 hq0 (by first | omega | (simp; omega) | fail) (rt_bound r4c) (rt_sizes r4c) r4a r4b og4 (b_call hbb.out hb4) : BpMid w wb w2.heap.size (keptB ph B (L.map (·.digest))) E r1 t1 ph (keptG ph gy (L.map (·.digest))) pl _ _)) | skip))
       | fail))
      all_goals
       (go_wp2_with fail
        go_meet
        first
         | with_reducible exact hfa.out
         | with_reducible exact hfb.out
         | fail)
     obtain ⟨q14, a7, c7, a8, c8, a9, c9, rfl, hq14, ho4, hn4, hp4, hd4, bnd, szs, rb4, re4, og4, hb4⟩ := hcut
     have hl14 := heap_lt hn4
     replace ho4 := hid ho4
     replace hn4 := hid hn4
     replace hp4 := hid hp4
     replace hd4 := hid hd4
     replace bnd := hid bnd
     replace szs := hid szs
     replace rb4 := hid rb4
     replace re4 := hid re4
     replace og4 := hid og4
     replace hb4 := hid hb4
     generalize keptB ph B (L.map (·.digest)) = B2 at *
     generalize keptG ph gy (L.map (·.digest)) = G2 at *
     obtain ⟨x0, x1, x2, x3⟩ := box4f ho4.out
     obtain ⟨e0, e1', e2, -⟩ := box3f hn4.out
     have hnS := ho4.out
     have hnC := hn4.out
     have ne1 : w2.heap.size ≠ w.heap.size + 1 + 1 := by omega
     have ne2 : w2.heap.size ≠ w.heap.size + 1 + 1 + 1 := by omega
     have ne3 : q14 ≠ w.heap.size + 1 + 1 := by omega
     have ne4 : q14 ≠ w.heap.size + 1 + 1 + 1 := by omega
     obtain ⟨y0, y1, y2, y3⟩ := box4f hp4.out
     obtain ⟨z0, z1, z2, -⟩ := box3f hd4.out
     have g0 := frozen_heap hp4.out 0
     have g1 := frozen_heap hp4.out 1
     have g2 := frozen_heap hp4.out 2
     have g3 := frozen_heap hp4.out 3
     have kf0 := frozen_heap hd4.out 0
     have kf1 := frozen_heap hd4.out 1
     have kf2 := frozen_heap hd4.out 2
     have hS := box4f hnS
     have hC := box3f hnC
     go_wp2_with fail
     go_region_held3 (fun w' => w'.cell? ⟨w2.heap.size, 0, none⟩ = some (.slice a7 B2.length c7) ∧ w'.cell? ⟨w2.heap.size, 1, none⟩ = some (.slice a8 E.length c8) ∧ w'.cell? ⟨w2.heap.size, 2, none⟩ = some (.int .i64 r1) ∧ w'.cell? ⟨w2.heap.size, 3, none⟩ = some (.int .i64 t1) ∧ w'.cell? ⟨q14, 0, none⟩ = some (.int .i64 ph) ∧ w'.cell? ⟨q14, 1, none⟩ = some (.slice a9 G2.length c9) ∧ w'.cell? ⟨q14, 2, none⟩ = some (.string pl))
      (first
        | with_reducible exact ⟨hS.1, hS.2.1, hS.2.2.1, hS.2.2.2, hC.1, hC.2.1, hC.2.2.1⟩
        | (have h1 := box4f (heap_drewn (box4_other (q := w.heap.size + 1 + 1) (u0 := .slice a7 B2.length c7) (u1 := .slice a8 E.length c8) (u2 := .int .i64 r1) (u3 := .int .i64 t1) hnS ne1))
           have h2 := box3f (heap_drewn (box4_other (q := w.heap.size + 1 + 1) (u0 := .slice a7 B2.length c7) (u1 := .slice a8 E.length c8) (u2 := .int .i64 r1) (u3 := .int .i64 t1) hnC ne3))
           unfold World.box4 at h1 h2
           (try unfold World.box3 at h1 h2)
           with_reducible exact ⟨h1.1, h1.2.1, h1.2.2.1, h1.2.2.2, h2.1, h2.2.1, h2.2.2.1⟩)
        | (have h1 := box4f (heap_drewn (box3_other (q := w.heap.size + 1 + 1 + 1) (u0 := .int .i64 ph) (u1 := .slice a9 G2.length c9) (u2 := .string pl) (box4_other (q := w.heap.size + 1 + 1) (u0 := .slice a7 B2.length c7) (u1 := .slice a8 E.length c8) (u2 := .int .i64 r1) (u3 := .int .i64 t1) hnS ne1) ne2))
           have h2 := box3f (heap_drewn (box3_other (q := w.heap.size + 1 + 1 + 1) (u0 := .int .i64 ph) (u1 := .slice a9 G2.length c9) (u2 := .string pl) (box4_other (q := w.heap.size + 1 + 1) (u0 := .slice a7 B2.length c7) (u1 := .slice a8 E.length c8) (u2 := .int .i64 r1) (u3 := .int .i64 t1) hnC ne3) ne4))
           unfold World.box4 at h1 h2
           (try unfold World.box3 at h1 h2)
           with_reducible exact ⟨h1.1, h1.2.1, h1.2.2.1, h1.2.2.2, h2.1, h2.2.1, h2.2.2.1⟩)
        | go_keep
        | fail)
      (fail)
     go_wp2_with fail
     have hbox := (⟨_, _, _, _, _, _, _, _, hp4.out⟩ : ∃ a n c a' n' c' r t, wc.heap[w.heap.size + 1 + 1]? = some (.cells #[.slice a n c, .slice a' n' c', .int .i64 r, .int .i64 t] 29 (0, 0)))
     have hdx := box4_other (q := w.heap.size + 1 + 1) (u0 := .slice a7 B2.length c7) (u1 := .slice a8 E.length c8) (u2 := .int .i64 r1) (u3 := .int .i64 t1) hd4.out qzbrp_4
     have rl9 := ((rb4.out.box4 EBlob.writes hbox a7 B2.length c7 a8 E.length c8 r1 t1).box3 EBlob.writesC ⟨_, _, _, _, _, hdx⟩ ph a9 G2.length c9 pl).mono EBlob.stable (Below.refl _ _).drew
     have re9 := ((re4.out.box4 EEntry.writes hbox a7 B2.length c7 a8 E.length c8 r1 t1).box3 EEntry.writesC ⟨_, _, _, _, _, hdx⟩ ph a9 G2.length c9 pl).mono EEntry.stable (Below.refl _ _).drew
     unfold World.box4 World.box3 at rl9 re9
     have os9 := OS.drew (OS.boxS3 (u0 := .int .i64 ph) (u1 := .slice a9 G2.length c9) (u2 := .string pl) (OS.boxS4 (u0 := .slice a7 B2.length c7) (u1 := .slice a8 E.length c8) (u2 := .int .i64 r1) (u3 := .int .i64 t1) og4.out hp4.out (by decide)) hdx (by decide))
     have rt9 := reads_str os9 bnd.out szs.out
     unfold World.box4 World.box3 at os9 rt9
     have hp9 := heap_drewn (box3_other (q := w.heap.size + 1 + 1 + 1) (u0 := .int .i64 ph) (u1 := .slice a9 G2.length c9) (u2 := .string pl) (box4_same (u0 := .slice a7 B2.length c7) (u1 := .slice a8 E.length c8) (u2 := .int .i64 r1) (u3 := .int .i64 t1) hp4.out) qzbrp_4)
     have hd9 := heap_drewn (box3_same (u0 := .int .i64 ph) (u1 := .slice a9 G2.length c9) (u2 := .string pl) (box4_other (q := w.heap.size + 1 + 1) (u0 := .slice a7 B2.length c7) (u1 := .slice a8 E.length c8) (u2 := .int .i64 r1) (u3 := .int .i64 t1) hd4.out qzbrp_4))
     have hb9 := (b_box3 (b_box4 hb4.out (q := w.heap.size + 1 + 1) qzbrp_4 (.slice a7 B2.length c7) (.slice a8 E.length c8) (.int .i64 r1) (.int .i64 t1)) (q := w.heap.size + 1 + 1 + 1) qzbrp_4 (.int .i64 ph) (.slice a9 G2.length c9) (.string pl)).drew
     obtain ⟨m0, m1, m2, m3⟩ := box4f hp9
     obtain ⟨n0, n1, n2, -⟩ := box3f hd9
     unfold World.box4 World.box3 at m0 m1 m2 m3 n0 n1 n2 hb9
     (try simp only [Exit.inBlock, Exit.then])
     refine bodyPost_ret (by simp [results, Tryz.results211, go_sem, m0, m1, m2, m3, n0, n1, n2]; try rfl) rfl ?_
     exact coO_ok hd.out rl9 re9 rt9 os9 hb9
   have hd := hid (bar_op (S := ⟨B, E, r1, t1⟩) (ph := ph) (gy := gy) (pl := pl) (l := (L.map (·.digest))) he)
   have q1 : (e1 != 0) = true := by simp [he]
   simp only [if_neg he] at hop
   replace hop := hid hop
   generalize noStore = So at hop
   obtain ⟨B0, E0, r0, t0⟩ := So
   replace he := hid he
   go_enter Tryz.func211, Tryz.ntmps211
   go_wp2_with fail
   ((with_reducible refine (hch.out _ (hR.out.mono EBlob.stable (b_alloc (b_alloc (b_alloc (b_alloc (Below.refl _ w) _) _) _) _)) (hE.out.mono EEntry.stable (b_alloc (b_alloc (b_alloc (b_alloc (Below.refl _ w) _) _) _) _)) (hG.out.mono EStr.stable (b_alloc (b_alloc (b_alloc (b_alloc (Below.refl _ w) _) _) _) _))).mono ?_); rintro e1 w1 ⟨rfl, b1⟩)
   have hq_q_1 := hid (stays b1 (hold (hold (hold (heap_put w _ (w.heap.size) (by simp))))))
   have hq_k_1 := hid (stays b1 (hold (hold (heap_put _ _ (w.heap.size + 1) (by simp)))))
   have hq_p_1 := hid (stays b1 (hold (heap_put _ _ (w.heap.size + 1 + 1) (by simp))))
   have hq_d_1 := hid (stays b1 (heap_put _ _ (w.heap.size + 1 + 1 + 1) (by simp)))
   have hb1 := hid (b_call (b_alloc (b_alloc (b_alloc (b_alloc (Below.refl _ w) _) _) _) _) b1)
   have r_R_1 := hid (hR.out.mono EBlob.stable (b_call (b_alloc (b_alloc (b_alloc (b_alloc (Below.refl _ w) _) _) _) _) b1))
   have r_E_1 := hid (hE.out.mono EEntry.stable (b_call (b_alloc (b_alloc (b_alloc (b_alloc (Below.refl _ w) _) _) _) _) b1))
   have r_G_1 := hid (hG.out.mono EStr.stable (b_call (b_alloc (b_alloc (b_alloc (b_alloc (Below.refl _ w) _) _) _) _) b1))
   have r_D_1 := hid (hD.out.mono EPart.stable (b_call (b_alloc (b_alloc (b_alloc (b_alloc (Below.refl _ w) _) _) _) _) b1))
   clear b1
   obtain ⟨x_q_0, x_q_1, x_q_2, x_q_3⟩ := box4f hq_q_1.out
   obtain ⟨x_k_0, x_k_1, x_k_2, -⟩ := box3f hq_k_1.out
   go_wp2_with fail
   ((with_reducible refine (hop.out _ r_R_1.out r_E_1.out r_D_1.out).mono ?_); rintro e2 w2 ⟨_, rfl, ⟨A1, D1, rfl, rA, rD⟩, b2⟩)
   clear x_q_0 x_q_1 x_q_2 x_q_3 x_k_0 x_k_1 x_k_2
   have hq_q_2 := hid (stays b2 hq_q_1.out)
   have hq_k_2 := hid (stays b2 hq_k_1.out)
   have hq_p_2 := hid (stays b2 hq_p_1.out)
   have hq_d_2 := hid (stays b2 hq_d_1.out)
   have hb2 := hid (b_call hb1.out b2)
   have r_R_2 := hid (r_R_1.out.mono EBlob.stable (b_call (Below.refl w1.heap.size w1) b2))
   have r_E_2 := hid (r_E_1.out.mono EEntry.stable (b_call (Below.refl w1.heap.size w1) b2))
   have r_G_2 := hid (r_G_1.out.mono EStr.stable (b_call (Below.refl w1.heap.size w1) b2))
   have r_D_2 := hid (r_D_1.out.mono EPart.stable (b_call (Below.refl w1.heap.size w1) b2))
   have r_A_2 := hid rA
   have r_X_2 := hid rD
   clear hq_q_1 hq_k_1 hq_p_1 hq_d_1 hb1 r_R_1 r_E_1 r_G_1 r_D_1 rA rD b2
   have hs2 : w.heap.size + 4 ≤ w2.heap.size := heap_lt hq_d_2.out
   obtain ⟨a5, c5, rfl, -⟩ := id r_A_2.out
   obtain ⟨a6, c6, rfl, -⟩ := id r_X_2.out
   obtain ⟨x_q_0, x_q_1, x_q_2, x_q_3⟩ := box4f hq_q_2.out
   obtain ⟨x_k_0, x_k_1, x_k_2, -⟩ := box3f hq_k_2.out
   go_upto_region 5 with fail
   have hpb := hid (alloc_keep (o := Obj.cells #[.slice a5 B0.length c5, .slice a6 E0.length c6, .int .i64 r0, .int .i64 t0] 29) hq_p_2.out)
   have hdb := hid (alloc_keep (o := Obj.cells #[.slice a5 B0.length c5, .slice a6 E0.length c6, .int .i64 r0, .int .i64 t0] 29) hq_d_2.out)
   have hbb := hid (b_alloc hb2.out (Obj.cells #[.slice a5 B0.length c5, .slice a6 E0.length c6, .int .i64 r0, .int .i64 t0] 29))
   clear x_q_0 x_q_1 x_q_2 x_q_3 x_k_0 x_k_1 x_k_2
   generalize w2.alloc (Obj.cells #[.slice a5 B0.length c5, .slice a6 E0.length c6, .int .i64 r0, .int .i64 t0] 29) = wb at *
   clear hq_p_2 hq_d_2 hb2 r_A_2 r_X_2 r_R_2 r_E_2 r_G_2
   obtain ⟨p0, p1, p2, p3⟩ := box4f hpb.out
   obtain ⟨d0, d1, d2, -⟩ := box3f hdb.out
   have g0 := frozen_heap hpb.out 0
   have g1 := frozen_heap hpb.out 1
   have g2 := frozen_heap hpb.out 2
   have g3 := frozen_heap hpb.out 3
   have kf0 := frozen_heap hdb.out 0
   have kf1 := frozen_heap hdb.out 1
   have kf2 := frozen_heap hdb.out 2
   go_wp2_with fail
   have hp9 := box3_other (q := w.heap.size + 1 + 1 + 1) (u0 := .int .i64 0) (u1 := .slice none 0 0) (u2 := .string ⟨#[]⟩) (box4_same (u0 := .slice none 0 0) (u1 := .slice none 0 0) (u2 := .int .i64 0) (u3 := .int .i64 0) hpb.out) qzbrp_4
   have hd9 := box3_same (u0 := .int .i64 0) (u1 := .slice none 0 0) (u2 := .string ⟨#[]⟩) (box4_other (q := w.heap.size + 1 + 1) (u0 := .slice none 0 0) (u1 := .slice none 0 0) (u2 := .int .i64 0) (u3 := .int .i64 0) hdb.out qzbrp_4)
   have hb9 := b_box3 (b_box4 hbb.out (q := w.heap.size + 1 + 1) qzbrp_4 (.slice none 0 0) (.slice none 0 0) (.int .i64 0) (.int .i64 0)) (q := w.heap.size + 1 + 1 + 1) qzbrp_4 (.int .i64 0) (.slice none 0 0) (.string ⟨#[]⟩)
   exact qzbrp_1
 have ht : (z != 0) = true := by simp [hz]
 have hd := hid (bar_bad (e := e1) (S := ⟨B, E, r1, t1⟩) (ph := ph) (gy := gy) (pl := pl) (l := (L.map (·.digest))) hz)
 replace hz := hid hz
 clear hop
 go_enter Tryz.func211, Tryz.ntmps211
 go_wp2_with fail
 ((with_reducible refine (hch.out _ (hR.out.mono EBlob.stable (b_alloc (b_alloc (b_alloc (b_alloc (Below.refl _ w) _) _) _) _)) (hE.out.mono EEntry.stable (b_alloc (b_alloc (b_alloc (b_alloc (Below.refl _ w) _) _) _) _)) (hG.out.mono EStr.stable (b_alloc (b_alloc (b_alloc (b_alloc (Below.refl _ w) _) _) _) _))).mono ?_); rintro e1 w1 ⟨rfl, b1⟩)
 have hq_q_1 := hid (stays b1 (hold (hold (hold (heap_put w _ (w.heap.size) (by simp))))))
 have hq_k_1 := hid (stays b1 (hold (hold (heap_put _ _ (w.heap.size + 1) (by simp)))))
 have hq_p_1 := hid (stays b1 (hold (heap_put _ _ (w.heap.size + 1 + 1) (by simp))))
 have hq_d_1 := hid (stays b1 (heap_put _ _ (w.heap.size + 1 + 1 + 1) (by simp)))
 have hb1 := hid (b_call (b_alloc (b_alloc (b_alloc (b_alloc (Below.refl _ w) _) _) _) _) b1)
 have r_R_1 := hid (hR.out.mono EBlob.stable (b_call (b_alloc (b_alloc (b_alloc (b_alloc (Below.refl _ w) _) _) _) _) b1))
 have r_E_1 := hid (hE.out.mono EEntry.stable (b_call (b_alloc (b_alloc (b_alloc (b_alloc (Below.refl _ w) _) _) _) _) b1))
 have r_G_1 := hid (hG.out.mono EStr.stable (b_call (b_alloc (b_alloc (b_alloc (b_alloc (Below.refl _ w) _) _) _) _) b1))
 have r_D_1 := hid (hD.out.mono EPart.stable (b_call (b_alloc (b_alloc (b_alloc (b_alloc (Below.refl _ w) _) _) _) _) b1))
 clear b1
 obtain ⟨x_q_0, x_q_1, x_q_2, x_q_3⟩ := box4f hq_q_1.out
 obtain ⟨x_k_0, x_k_1, x_k_2, -⟩ := box3f hq_k_1.out
 obtain ⟨x_p_0, x_p_1, x_p_2, x_p_3⟩ := box4f hq_p_1.out
 have l_p := heap_lt hq_p_1.out
 have g_p_0 := frozen_heap hq_p_1.out 0
 have g_p_1 := frozen_heap hq_p_1.out 1
 have g_p_2 := frozen_heap hq_p_1.out 2
 have g_p_3 := frozen_heap hq_p_1.out 3
 obtain ⟨x_d_0, x_d_1, x_d_2, -⟩ := box3f hq_d_1.out
 have l_d := heap_lt hq_d_1.out
 have g_d_0 := frozen_heap hq_d_1.out 0
 have g_d_1 := frozen_heap hq_d_1.out 1
 have g_d_2 := frozen_heap hq_d_1.out 2
 go_wp2_with fail
 have hp9 := box3_other (q := w.heap.size + 1 + 1 + 1) (u0 := .int .i64 0) (u1 := .slice none 0 0) (u2 := .string ⟨#[]⟩) (box4_same (u0 := .slice none 0 0) (u1 := .slice none 0 0) (u2 := .int .i64 0) (u3 := .int .i64 0) hq_p_1.out) qzbrp_4
 have hd9 := box3_same (u0 := .int .i64 0) (u1 := .slice none 0 0) (u2 := .string ⟨#[]⟩) (box4_other (q := w.heap.size + 1 + 1) (u0 := .slice none 0 0) (u1 := .slice none 0 0) (u2 := .int .i64 0) (u3 := .int .i64 0) hq_d_1.out qzbrp_4)
 have hb9 := b_box3 (b_box4 hb1.out (q := w.heap.size + 1 + 1) qzbrp_4 (.slice none 0 0) (.slice none 0 0) (.int .i64 0) (.int .i64 0)) (q := w.heap.size + 1 + 1 + 1) qzbrp_4 (.int .i64 0) (.slice none 0 0) (.string ⟨#[]⟩)
 exact qzbrp_1
end Go.Proofs.YtpkpgehiplhkpaaGreat

namespace Go.Proofs.YtpkpgehiplhkpaaGreat
open Go.RowKit
theorem qzbri_2 {P : Prop} (h : P := by omega) : P := h
theorem qzbri_1 {P : Prop} (h : P := by
 obtain ⟨m0, m1, m2, m3⟩ := box4f hp9
 obtain ⟨n0, n1, n2, -⟩ := box3f hd9
 unfold World.box4 World.box3 at m0 m1 m2 m3 n0 n1 n2 hb9
 (try simp only [Exit.inBlock, Exit.then])
 refine bodyPost_ret (by simp [results, Tryz.results144, go_sem, m0, m1, m2, m3, n0, n1, n2]; try rfl) rfl ?_
 exact coD_no hd.out hb9) : P := h
set_option maxRecDepth 100000 in
set_option maxHeartbeats 4000000 in
theorem barrier_PutBlob' (v u gv : Value) (bs : List Blob) (es : List Entry) (r t ph : Int) (pl : ByteArray) (gy : List ByteArray) (b : Value) (data : List UInt8) (d : ByteArray) (w : World) (h : RBl w v bs) (g : RE w u es) (hg : RT w gv gy) (gd : RB w b data) (z e1 : Int) (B : List Blob) (E : List Entry) (r1 t1 : Int)
 (hs : d.size ≤ 140737488351232) (hgl : gy.length ≤ 8388608)
 (hch : ∀ w, RBl w v bs → RE w u es → RT w gv gy → Calls Tryz.prog 69 #[.agg #[v, u, .int .i64 r, .int .i64 t], .agg #[.int .i64 ph, gv, .string pl]] w fun e w' => e = .returned (.int .i64 z) ∧ Below w.heap.size w w')
 (hop : ∀ w, RBl w v bs → RE w u es → RB w b data → Calls Tryz.prog 208 #[.agg #[v, u, .int .i64 r, .int .i64 t], b] w (PbRes e1 d ⟨B, E, r1, t1⟩ w)) :
 Calls Tryz.prog 144 #[.agg #[v, u, .int .i64 r, .int .i64 t], .agg #[.int .i64 ph, gv, .string pl], b] w (CoResD (barOut z e1 ⟨B, E, r1, t1⟩ ph gy pl [d]) (barD z e1 d) w) := by
 replace hch := hid hch
 have hR := hid h
 have hE := hid g
 have hG := hid hg
 have hD := hid gd
 obtain ⟨a, c, rfl, -⟩ := h
 obtain ⟨a2, c2, rfl, -⟩ := g
 obtain ⟨ga, gc, rfl, -⟩ := hg
 unfold PbRes VS at hop
 by_cases hz : z = 0
 · subst hz
   by_cases he : e1 = 0
   · subst he
     have hd := hid (And.intro (bar_ok (S := ⟨B, E, r1, t1⟩) (ph := ph) (gy := gy) (pl := pl) (l := [d])) (barD_ok (d := d)))
     simp only [if_true] at hop
     replace hop := hid hop
     go_enter Tryz.func144, Tryz.ntmps144
     go_wp2_with fail
     ((with_reducible refine (hch.out _ (hR.out.mono EBlob.stable (b_alloc (b_alloc (b_alloc (b_alloc (Below.refl _ w) _) _) _) _)) (hE.out.mono EEntry.stable (b_alloc (b_alloc (b_alloc (b_alloc (Below.refl _ w) _) _) _) _)) (hG.out.mono EStr.stable (b_alloc (b_alloc (b_alloc (b_alloc (Below.refl _ w) _) _) _) _))).mono ?_); rintro e1 w1 ⟨rfl, b1⟩)
     have hq_q_1 := hid (stays b1 (hold (hold (hold (heap_put w _ (w.heap.size) (by simp))))))
     have hq_k_1 := hid (stays b1 (hold (hold (heap_put _ _ (w.heap.size + 1) (by simp)))))
     have hq_p_1 := hid (stays b1 (hold (heap_put _ _ (w.heap.size + 1 + 1) (by simp))))
     have hq_d_1 := hid (stays b1 (heap_put _ _ (w.heap.size + 1 + 1 + 1) (by simp)))
     have hb1 := hid (b_call (b_alloc (b_alloc (b_alloc (b_alloc (Below.refl _ w) _) _) _) _) b1)
     have r_R_1 := hid (hR.out.mono EBlob.stable (b_call (b_alloc (b_alloc (b_alloc (b_alloc (Below.refl _ w) _) _) _) _) b1))
     have r_E_1 := hid (hE.out.mono EEntry.stable (b_call (b_alloc (b_alloc (b_alloc (b_alloc (Below.refl _ w) _) _) _) _) b1))
     have r_G_1 := hid (hG.out.mono EStr.stable (b_call (b_alloc (b_alloc (b_alloc (b_alloc (Below.refl _ w) _) _) _) _) b1))
     have r_D_1 := hid (hD.out.mono EU8.stable (b_call (b_alloc (b_alloc (b_alloc (b_alloc (Below.refl _ w) _) _) _) _) b1))
     clear b1
     obtain ⟨x_q_0, x_q_1, x_q_2, x_q_3⟩ := box4f hq_q_1.out
     obtain ⟨x_k_0, x_k_1, x_k_2, -⟩ := box3f hq_k_1.out
     go_wp2_with fail
     ((with_reducible refine (hop.out _ r_R_1.out r_E_1.out r_D_1.out).mono ?_); rintro e2 w2 ⟨_, rfl, ⟨A1, D1, rfl, rA, rD⟩, b2⟩)
     clear x_q_0 x_q_1 x_q_2 x_q_3 x_k_0 x_k_1 x_k_2
     have hq_q_2 := hid (stays b2 hq_q_1.out)
     have hq_k_2 := hid (stays b2 hq_k_1.out)
     have hq_p_2 := hid (stays b2 hq_p_1.out)
     have hq_d_2 := hid (stays b2 hq_d_1.out)
     have hb2 := hid (b_call hb1.out b2)
     have r_R_2 := hid (r_R_1.out.mono EBlob.stable (b_call (Below.refl w1.heap.size w1) b2))
     have r_E_2 := hid (r_E_1.out.mono EEntry.stable (b_call (Below.refl w1.heap.size w1) b2))
     have r_G_2 := hid (r_G_1.out.mono EStr.stable (b_call (Below.refl w1.heap.size w1) b2))
     have r_D_2 := hid (r_D_1.out.mono EU8.stable (b_call (Below.refl w1.heap.size w1) b2))
     have r_A_2 := hid rA
     have r_X_2 := hid rD
     clear hq_q_1 hq_k_1 hq_p_1 hq_d_1 hb1 r_R_1 r_E_1 r_G_1 r_D_1 rA rD b2
     have hs2 : w.heap.size + 4 ≤ w2.heap.size := heap_lt hq_d_2.out
     obtain ⟨a5, c5, rfl, -⟩ := id r_A_2.out
     obtain ⟨a6, c6, rfl, -⟩ := id r_X_2.out
     obtain ⟨x_q_0, x_q_1, x_q_2, x_q_3⟩ := box4f hq_q_2.out
     have l_q := heap_lt hq_q_2.out
     obtain ⟨x_k_0, x_k_1, x_k_2, -⟩ := box3f hq_k_2.out
     have l_k := heap_lt hq_k_2.out
     go_wp2_with fail
     ((with_reducible refine (barrier_keep _ _ _ _ B E r1 t1 ph pl gy [d] _ (r_A_2.out.mono EBlob.stable (b_alloc (b_alloc (Below.refl w2.heap.size w2) _) _)) (r_X_2.out.mono EEntry.stable (b_alloc (b_alloc (Below.refl w2.heap.size w2) _) _)) (r_G_2.out.mono EStr.stable (b_alloc (b_alloc (Below.refl w2.heap.size w2) _) _)) (rt_one ((w2.alloc (Obj.cells #[.slice a5 B.length c5, .slice a6 E.length c6, .int .i64 r1, .int .i64 t1] 29))) _ _ (by simp) hs) (by simp; omega)).mono ?_); rintro e3 w3 ⟨v1, v2, v3, rfl, r1a, r1b, r1c, o1c, b3⟩)
     clear x_q_0 x_q_1 x_q_2 x_q_3 l_q x_k_0 x_k_1 x_k_2 l_k
     have hq_o_3 := hid (stays b3 (hold (heap_put w2 _ (w2.heap.size) (by simp))))
     have hq_l_3 := hid (stays b3 (heap_put _ _ (w2.heap.size + 1) (by simp)))
     have hq_q_3 := hid (stays b3 (hold (hold hq_q_2.out)))
     have hq_k_3 := hid (stays b3 (hold (hold hq_k_2.out)))
     have hq_p_3 := hid (stays b3 (hold (hold hq_p_2.out)))
     have hq_d_3 := hid (stays b3 (hold (hold hq_d_2.out)))
     have hb3 := hid (b_call (b_alloc (b_alloc hb2.out _) _) b3)
     have r_R_3 := hid (r_R_2.out.mono EBlob.stable (b_call (b_alloc (b_alloc (Below.refl w2.heap.size w2) _) _) b3))
     have r_E_3 := hid (r_E_2.out.mono EEntry.stable (b_call (b_alloc (b_alloc (Below.refl w2.heap.size w2) _) _) b3))
     have r_G_3 := hid (r_G_2.out.mono EStr.stable (b_call (b_alloc (b_alloc (Below.refl w2.heap.size w2) _) _) b3))
     have r_D_3 := hid (r_D_2.out.mono EU8.stable (b_call (b_alloc (b_alloc (Below.refl w2.heap.size w2) _) _) b3))
     have r_A_3 := hid (r_A_2.out.mono EBlob.stable (b_call (b_alloc (b_alloc (Below.refl w2.heap.size w2) _) _) b3))
     have r_X_3 := hid (r_X_2.out.mono EEntry.stable (b_call (b_alloc (b_alloc (Below.refl w2.heap.size w2) _) _) b3))
     have r_B1_3 := hid r1a
     have r_E1_3 := hid r1b
     have r_G1_3 := hid r1c
     replace o1c := hid o1c
     have hw3 : w2.heap.size + 2 ≤ w3.heap.size := by have := b3.size; simp at this; omega
     clear hq_q_2 hq_k_2 hq_p_2 hq_d_2 hb2 r_R_2 r_E_2 r_G_2 r_D_2 r_A_2 r_X_2 r1a r1b r1c b3
     generalize keptB ph B [d] = B2 at *
     generalize keptG ph gy [d] = G2 at *
     obtain ⟨a7, c7, rfl, -⟩ := id r_B1_3.out
     obtain ⟨a8, c8, rfl, -⟩ := id r_E1_3.out
     obtain ⟨a9, c9, rfl, -⟩ := id r_G1_3.out
     have bnd := hid (rt_bound r_G1_3.out)
     have szs := hid (rt_sizes r_G1_3.out)
     obtain ⟨x_o_0, x_o_1, x_o_2, x_o_3⟩ := box4f hq_o_3.out
     have g_o_0 := frozen_heap hq_o_3.out 0
     have g_o_1 := frozen_heap hq_o_3.out 1
     have g_o_2 := frozen_heap hq_o_3.out 2
     have g_o_3 := frozen_heap hq_o_3.out 3
     have l_o := heap_lt hq_o_3.out
     go_upto_region 8 with fail
     have hn4 := hid (heap_put (World.box4 w3 w2.heap.size (.slice a7 B2.length c7) (.slice a8 E.length c8) (.int .i64 r1) (.int .i64 t1)) (Obj.cells #[.int .i64 ph, .slice a9 G2.length c9, .string pl] 32) w3.heap.size (by simp [World.box4]))
     have ho4 := hid ((heap_alloc_old _ (Obj.cells #[.int .i64 ph, .slice a9 G2.length c9, .string pl] 32) (heap_lt (box4_same (u0 := .slice a7 B2.length c7) (u1 := .slice a8 E.length c8) (u2 := .int .i64 r1) (u3 := .int .i64 t1) hq_o_3.out))).trans (box4_same (u0 := .slice a7 B2.length c7) (u1 := .slice a8 E.length c8) (u2 := .int .i64 r1) (u3 := .int .i64 t1) hq_o_3.out))
     have hp4 := hid ((heap_alloc_old _ (Obj.cells #[.int .i64 ph, .slice a9 G2.length c9, .string pl] 32) (heap_lt (box4_other (q := w2.heap.size) (u0 := .slice a7 B2.length c7) (u1 := .slice a8 E.length c8) (u2 := .int .i64 r1) (u3 := .int .i64 t1) hq_p_3.out qzbri_2))).trans (box4_other (q := w2.heap.size) (u0 := .slice a7 B2.length c7) (u1 := .slice a8 E.length c8) (u2 := .int .i64 r1) (u3 := .int .i64 t1) hq_p_3.out qzbri_2))
     have hd4 := hid ((heap_alloc_old _ (Obj.cells #[.int .i64 ph, .slice a9 G2.length c9, .string pl] 32) (heap_lt (box4_other (q := w2.heap.size) (u0 := .slice a7 B2.length c7) (u1 := .slice a8 E.length c8) (u2 := .int .i64 r1) (u3 := .int .i64 t1) hq_d_3.out qzbri_2))).trans (box4_other (q := w2.heap.size) (u0 := .slice a7 B2.length c7) (u1 := .slice a8 E.length c8) (u2 := .int .i64 r1) (u3 := .int .i64 t1) hq_d_3.out qzbri_2))
     have hb4 := hid (b_alloc (b_box4 hb3.out (q := w2.heap.size) qzbri_2 (.slice a7 B2.length c7) (.slice a8 E.length c8) (.int .i64 r1) (.int .i64 t1)) (Obj.cells #[.int .i64 ph, .slice a9 G2.length c9, .string pl] 32))
     have hbx := (⟨_, _, _, _, _, _, _, _, hq_o_3.out⟩ : ∃ a n c a' n' c' r t, w3.heap[w2.heap.size]? = some (.cells #[.slice a n c, .slice a' n' c', .int .i64 r, .int .i64 t] 29 (0, 0)))
     have rb4 := hid ((r_B1_3.out.box4 EBlob.writes hbx a7 B2.length c7 a8 E.length c8 r1 t1).mono EBlob.stable (b_alloc (Below.refl _ _) (Obj.cells #[.int .i64 ph, .slice a9 G2.length c9, .string pl] 32)))
     have re4 := hid ((r_E1_3.out.box4 EEntry.writes hbx a7 B2.length c7 a8 E.length c8 r1 t1).mono EEntry.stable (b_alloc (Below.refl _ _) (Obj.cells #[.int .i64 ph, .slice a9 G2.length c9, .string pl] 32)))
     have og4 := hid (OS.alloc (OS.boxS4 (u0 := .slice a7 B2.length c7) (u1 := .slice a8 E.length c8) (u2 := .int .i64 r1) (u3 := .int .i64 t1) (OS.mono o1c.out (show w.heap.size ≤ _ by first | omega | (simp; omega))) hq_o_3.out (by decide)) (Obj.cells #[.int .i64 ph, .slice a9 G2.length c9, .string pl] 32))
     unfold World.box4 at hn4 ho4 hp4 hd4 hb4 rb4 re4 og4
     generalize World.alloc ((((w3.setCell ⟨w2.heap.size, 0, none⟩ (.slice a7 B2.length c7)).setCell ⟨w2.heap.size, 1, none⟩ (.slice a8 E.length c8)).setCell ⟨w2.heap.size, 2, none⟩ (.int .i64 r1)).setCell ⟨w2.heap.size, 3, none⟩ (.int .i64 t1)) (Obj.cells #[.int .i64 ph, .slice a9 G2.length c9, .string pl] 32) = w4 at *
     clear x_o_0 x_o_1 x_o_2 x_o_3 g_o_0 g_o_1 g_o_2 g_o_3
     obtain ⟨x0, x1, x2, x3⟩ := box4f ho4.out
     obtain ⟨e0, e1', e2, -⟩ := box3f hn4.out
     have hnS := ho4.out
     have hnC := hn4.out
     have ne1 : w2.heap.size ≠ w.heap.size + 1 + 1 := by omega
     have ne2 : w2.heap.size ≠ w.heap.size + 1 + 1 + 1 := by omega
     have ne3 : w3.heap.size ≠ w.heap.size + 1 + 1 := by omega
     have ne4 : w3.heap.size ≠ w.heap.size + 1 + 1 + 1 := by omega
     obtain ⟨y0, y1, y2, y3⟩ := box4f hp4.out
     obtain ⟨z0, z1, z2, -⟩ := box3f hd4.out
     have g0 := frozen_heap hp4.out 0
     have g1 := frozen_heap hp4.out 1
     have g2 := frozen_heap hp4.out 2
     have g3 := frozen_heap hp4.out 3
     have kf0 := frozen_heap hd4.out 0
     have kf1 := frozen_heap hd4.out 1
     have kf2 := frozen_heap hd4.out 2
     have hS := box4f hnS
     have hC := box3f hnC
     go_wp2_with fail
     go_region_held3 (fun w' => w'.cell? ⟨w2.heap.size, 0, none⟩ = some (.slice a7 B2.length c7) ∧ w'.cell? ⟨w2.heap.size, 1, none⟩ = some (.slice a8 E.length c8) ∧ w'.cell? ⟨w2.heap.size, 2, none⟩ = some (.int .i64 r1) ∧ w'.cell? ⟨w2.heap.size, 3, none⟩ = some (.int .i64 t1) ∧ w'.cell? ⟨w3.heap.size, 0, none⟩ = some (.int .i64 ph) ∧ w'.cell? ⟨w3.heap.size, 1, none⟩ = some (.slice a9 G2.length c9) ∧ w'.cell? ⟨w3.heap.size, 2, none⟩ = some (.string pl))
      (first
        | with_reducible exact ⟨hS.1, hS.2.1, hS.2.2.1, hS.2.2.2, hC.1, hC.2.1, hC.2.2.1⟩
        | (have h1 := box4f (heap_drewn (box4_other (q := w.heap.size + 1 + 1) (u0 := .slice a7 B2.length c7) (u1 := .slice a8 E.length c8) (u2 := .int .i64 r1) (u3 := .int .i64 t1) hnS ne1))
           have h2 := box3f (heap_drewn (box4_other (q := w.heap.size + 1 + 1) (u0 := .slice a7 B2.length c7) (u1 := .slice a8 E.length c8) (u2 := .int .i64 r1) (u3 := .int .i64 t1) hnC ne3))
           unfold World.box4 at h1 h2
           (try unfold World.box3 at h1 h2)
           with_reducible exact ⟨h1.1, h1.2.1, h1.2.2.1, h1.2.2.2, h2.1, h2.2.1, h2.2.2.1⟩)
        | (have h1 := box4f (heap_drewn (box3_other (q := w.heap.size + 1 + 1 + 1) (u0 := .int .i64 ph) (u1 := .slice a9 G2.length c9) (u2 := .string pl) (box4_other (q := w.heap.size + 1 + 1) (u0 := .slice a7 B2.length c7) (u1 := .slice a8 E.length c8) (u2 := .int .i64 r1) (u3 := .int .i64 t1) hnS ne1) ne2))
           have h2 := box3f (heap_drewn (box3_other (q := w.heap.size + 1 + 1 + 1) (u0 := .int .i64 ph) (u1 := .slice a9 G2.length c9) (u2 := .string pl) (box4_other (q := w.heap.size + 1 + 1) (u0 := .slice a7 B2.length c7) (u1 := .slice a8 E.length c8) (u2 := .int .i64 r1) (u3 := .int .i64 t1) hnC ne3) ne4))
           unfold World.box4 at h1 h2
           (try unfold World.box3 at h1 h2)
           with_reducible exact ⟨h1.1, h1.2.1, h1.2.2.1, h1.2.2.2, h2.1, h2.2.1, h2.2.2.1⟩)
        | go_keep
        | fail)
      (fail)
     go_wp2_with fail
     have hbox := (⟨_, _, _, _, _, _, _, _, hp4.out⟩ : ∃ a n c a' n' c' r t, w4.heap[w.heap.size + 1 + 1]? = some (.cells #[.slice a n c, .slice a' n' c', .int .i64 r, .int .i64 t] 29 (0, 0)))
     have hdx := box4_other (q := w.heap.size + 1 + 1) (u0 := .slice a7 B2.length c7) (u1 := .slice a8 E.length c8) (u2 := .int .i64 r1) (u3 := .int .i64 t1) hd4.out qzbri_2
     have rl9 := ((rb4.out.box4 EBlob.writes hbox a7 B2.length c7 a8 E.length c8 r1 t1).box3 EBlob.writesC ⟨_, _, _, _, _, hdx⟩ ph a9 G2.length c9 pl).mono EBlob.stable (Below.refl _ _).drew
     have re9 := ((re4.out.box4 EEntry.writes hbox a7 B2.length c7 a8 E.length c8 r1 t1).box3 EEntry.writesC ⟨_, _, _, _, _, hdx⟩ ph a9 G2.length c9 pl).mono EEntry.stable (Below.refl _ _).drew
     unfold World.box4 World.box3 at rl9 re9
     have os9 := OS.drew (OS.boxS3 (u0 := .int .i64 ph) (u1 := .slice a9 G2.length c9) (u2 := .string pl) (OS.boxS4 (u0 := .slice a7 B2.length c7) (u1 := .slice a8 E.length c8) (u2 := .int .i64 r1) (u3 := .int .i64 t1) og4.out hp4.out (by decide)) hdx (by decide))
     have rt9 := reads_str os9 bnd.out szs.out
     unfold World.box4 World.box3 at os9 rt9
     have hp9 := heap_drewn (box3_other (q := w.heap.size + 1 + 1 + 1) (u0 := .int .i64 ph) (u1 := .slice a9 G2.length c9) (u2 := .string pl) (box4_same (u0 := .slice a7 B2.length c7) (u1 := .slice a8 E.length c8) (u2 := .int .i64 r1) (u3 := .int .i64 t1) hp4.out) qzbri_2)
     have hd9 := heap_drewn (box3_same (u0 := .int .i64 ph) (u1 := .slice a9 G2.length c9) (u2 := .string pl) (box4_other (q := w.heap.size + 1 + 1) (u0 := .slice a7 B2.length c7) (u1 := .slice a8 E.length c8) (u2 := .int .i64 r1) (u3 := .int .i64 t1) hd4.out qzbri_2))
     have hb9 := (b_box3 (b_box4 hb4.out (q := w.heap.size + 1 + 1) qzbri_2 (.slice a7 B2.length c7) (.slice a8 E.length c8) (.int .i64 r1) (.int .i64 t1)) (q := w.heap.size + 1 + 1 + 1) qzbri_2 (.int .i64 ph) (.slice a9 G2.length c9) (.string pl)).drew
     obtain ⟨m0, m1, m2, m3⟩ := box4f hp9
     obtain ⟨n0, n1, n2, -⟩ := box3f hd9
     unfold World.box4 World.box3 at m0 m1 m2 m3 n0 n1 n2 hb9
     (try simp only [Exit.inBlock, Exit.then])
     refine bodyPost_ret (by simp [results, Tryz.results144, go_sem, m0, m1, m2, m3, n0, n1, n2]; try rfl) rfl ?_
     exact coD_ok hd.out rl9 re9 rt9 os9 hb9
   have hd := hid (And.intro (bar_op (S := ⟨B, E, r1, t1⟩) (ph := ph) (gy := gy) (pl := pl) (l := [d]) he) (barD_op (d := d) he))
   have q1 : (e1 != 0) = true := by simp [he]
   simp only [if_neg he] at hop
   replace hop := hid hop
   generalize noStore = So at hop
   obtain ⟨B0, E0, r0, t0⟩ := So
   replace he := hid he
   go_enter Tryz.func144, Tryz.ntmps144
   go_wp2_with fail
   ((with_reducible refine (hch.out _ (hR.out.mono EBlob.stable (b_alloc (b_alloc (b_alloc (b_alloc (Below.refl _ w) _) _) _) _)) (hE.out.mono EEntry.stable (b_alloc (b_alloc (b_alloc (b_alloc (Below.refl _ w) _) _) _) _)) (hG.out.mono EStr.stable (b_alloc (b_alloc (b_alloc (b_alloc (Below.refl _ w) _) _) _) _))).mono ?_); rintro e1 w1 ⟨rfl, b1⟩)
   have hq_q_1 := hid (stays b1 (hold (hold (hold (heap_put w _ (w.heap.size) (by simp))))))
   have hq_k_1 := hid (stays b1 (hold (hold (heap_put _ _ (w.heap.size + 1) (by simp)))))
   have hq_p_1 := hid (stays b1 (hold (heap_put _ _ (w.heap.size + 1 + 1) (by simp))))
   have hq_d_1 := hid (stays b1 (heap_put _ _ (w.heap.size + 1 + 1 + 1) (by simp)))
   have hb1 := hid (b_call (b_alloc (b_alloc (b_alloc (b_alloc (Below.refl _ w) _) _) _) _) b1)
   have r_R_1 := hid (hR.out.mono EBlob.stable (b_call (b_alloc (b_alloc (b_alloc (b_alloc (Below.refl _ w) _) _) _) _) b1))
   have r_E_1 := hid (hE.out.mono EEntry.stable (b_call (b_alloc (b_alloc (b_alloc (b_alloc (Below.refl _ w) _) _) _) _) b1))
   have r_G_1 := hid (hG.out.mono EStr.stable (b_call (b_alloc (b_alloc (b_alloc (b_alloc (Below.refl _ w) _) _) _) _) b1))
   have r_D_1 := hid (hD.out.mono EU8.stable (b_call (b_alloc (b_alloc (b_alloc (b_alloc (Below.refl _ w) _) _) _) _) b1))
   clear b1
   obtain ⟨x_q_0, x_q_1, x_q_2, x_q_3⟩ := box4f hq_q_1.out
   obtain ⟨x_k_0, x_k_1, x_k_2, -⟩ := box3f hq_k_1.out
   go_wp2_with fail
   ((with_reducible refine (hop.out _ r_R_1.out r_E_1.out r_D_1.out).mono ?_); rintro e2 w2 ⟨_, rfl, ⟨A1, D1, rfl, rA, rD⟩, b2⟩)
   clear x_q_0 x_q_1 x_q_2 x_q_3 x_k_0 x_k_1 x_k_2
   have hq_q_2 := hid (stays b2 hq_q_1.out)
   have hq_k_2 := hid (stays b2 hq_k_1.out)
   have hq_p_2 := hid (stays b2 hq_p_1.out)
   have hq_d_2 := hid (stays b2 hq_d_1.out)
   have hb2 := hid (b_call hb1.out b2)
   have r_R_2 := hid (r_R_1.out.mono EBlob.stable (b_call (Below.refl w1.heap.size w1) b2))
   have r_E_2 := hid (r_E_1.out.mono EEntry.stable (b_call (Below.refl w1.heap.size w1) b2))
   have r_G_2 := hid (r_G_1.out.mono EStr.stable (b_call (Below.refl w1.heap.size w1) b2))
   have r_D_2 := hid (r_D_1.out.mono EU8.stable (b_call (Below.refl w1.heap.size w1) b2))
   have r_A_2 := hid rA
   have r_X_2 := hid rD
   clear hq_q_1 hq_k_1 hq_p_1 hq_d_1 hb1 r_R_1 r_E_1 r_G_1 r_D_1 rA rD b2
   have hs2 : w.heap.size + 4 ≤ w2.heap.size := heap_lt hq_d_2.out
   obtain ⟨a5, c5, rfl, -⟩ := id r_A_2.out
   obtain ⟨a6, c6, rfl, -⟩ := id r_X_2.out
   obtain ⟨x_q_0, x_q_1, x_q_2, x_q_3⟩ := box4f hq_q_2.out
   obtain ⟨x_k_0, x_k_1, x_k_2, -⟩ := box3f hq_k_2.out
   go_upto_region 5 with fail
   have hpb := hid (alloc_keep (o := Obj.cells #[.slice a5 B0.length c5, .slice a6 E0.length c6, .int .i64 r0, .int .i64 t0] 29) hq_p_2.out)
   have hdb := hid (alloc_keep (o := Obj.cells #[.slice a5 B0.length c5, .slice a6 E0.length c6, .int .i64 r0, .int .i64 t0] 29) hq_d_2.out)
   have hbb := hid (b_alloc hb2.out (Obj.cells #[.slice a5 B0.length c5, .slice a6 E0.length c6, .int .i64 r0, .int .i64 t0] 29))
   clear x_q_0 x_q_1 x_q_2 x_q_3 x_k_0 x_k_1 x_k_2
   generalize w2.alloc (Obj.cells #[.slice a5 B0.length c5, .slice a6 E0.length c6, .int .i64 r0, .int .i64 t0] 29) = wb at *
   clear hq_p_2 hq_d_2 hb2 r_A_2 r_X_2 r_R_2 r_E_2 r_G_2
   obtain ⟨p0, p1, p2, p3⟩ := box4f hpb.out
   obtain ⟨d0, d1, d2, -⟩ := box3f hdb.out
   have g0 := frozen_heap hpb.out 0
   have g1 := frozen_heap hpb.out 1
   have g2 := frozen_heap hpb.out 2
   have g3 := frozen_heap hpb.out 3
   have kf0 := frozen_heap hdb.out 0
   have kf1 := frozen_heap hdb.out 1
   have kf2 := frozen_heap hdb.out 2
   go_wp2_with fail
   have hp9 := box3_other (q := w.heap.size + 1 + 1 + 1) (u0 := .int .i64 0) (u1 := .slice none 0 0) (u2 := .string ⟨#[]⟩) (box4_same (u0 := .slice none 0 0) (u1 := .slice none 0 0) (u2 := .int .i64 0) (u3 := .int .i64 0) hpb.out) qzbri_2
   have hd9 := box3_same (u0 := .int .i64 0) (u1 := .slice none 0 0) (u2 := .string ⟨#[]⟩) (box4_other (q := w.heap.size + 1 + 1) (u0 := .slice none 0 0) (u1 := .slice none 0 0) (u2 := .int .i64 0) (u3 := .int .i64 0) hdb.out qzbri_2)
   have hb9 := b_box3 (b_box4 hbb.out (q := w.heap.size + 1 + 1) qzbri_2 (.slice none 0 0) (.slice none 0 0) (.int .i64 0) (.int .i64 0)) (q := w.heap.size + 1 + 1 + 1) qzbri_2 (.int .i64 0) (.slice none 0 0) (.string ⟨#[]⟩)
   exact qzbri_1
 have ht : (z != 0) = true := by simp [hz]
 have hd := hid (And.intro (bar_bad (e := e1) (S := ⟨B, E, r1, t1⟩) (ph := ph) (gy := gy) (pl := pl) (l := [d]) hz) (barD_bad (e := e1) (d := d) hz))
 replace hz := hid hz
 clear hop
 go_enter Tryz.func144, Tryz.ntmps144
 go_wp2_with fail
 ((with_reducible refine (hch.out _ (hR.out.mono EBlob.stable (b_alloc (b_alloc (b_alloc (b_alloc (Below.refl _ w) _) _) _) _)) (hE.out.mono EEntry.stable (b_alloc (b_alloc (b_alloc (b_alloc (Below.refl _ w) _) _) _) _)) (hG.out.mono EStr.stable (b_alloc (b_alloc (b_alloc (b_alloc (Below.refl _ w) _) _) _) _))).mono ?_); rintro e1 w1 ⟨rfl, b1⟩)
 have hq_q_1 := hid (stays b1 (hold (hold (hold (heap_put w _ (w.heap.size) (by simp))))))
 have hq_k_1 := hid (stays b1 (hold (hold (heap_put _ _ (w.heap.size + 1) (by simp)))))
 have hq_p_1 := hid (stays b1 (hold (heap_put _ _ (w.heap.size + 1 + 1) (by simp))))
 have hq_d_1 := hid (stays b1 (heap_put _ _ (w.heap.size + 1 + 1 + 1) (by simp)))
 have hb1 := hid (b_call (b_alloc (b_alloc (b_alloc (b_alloc (Below.refl _ w) _) _) _) _) b1)
 have r_R_1 := hid (hR.out.mono EBlob.stable (b_call (b_alloc (b_alloc (b_alloc (b_alloc (Below.refl _ w) _) _) _) _) b1))
 have r_E_1 := hid (hE.out.mono EEntry.stable (b_call (b_alloc (b_alloc (b_alloc (b_alloc (Below.refl _ w) _) _) _) _) b1))
 have r_G_1 := hid (hG.out.mono EStr.stable (b_call (b_alloc (b_alloc (b_alloc (b_alloc (Below.refl _ w) _) _) _) _) b1))
 have r_D_1 := hid (hD.out.mono EU8.stable (b_call (b_alloc (b_alloc (b_alloc (b_alloc (Below.refl _ w) _) _) _) _) b1))
 clear b1
 obtain ⟨x_q_0, x_q_1, x_q_2, x_q_3⟩ := box4f hq_q_1.out
 obtain ⟨x_k_0, x_k_1, x_k_2, -⟩ := box3f hq_k_1.out
 obtain ⟨x_p_0, x_p_1, x_p_2, x_p_3⟩ := box4f hq_p_1.out
 have l_p := heap_lt hq_p_1.out
 have g_p_0 := frozen_heap hq_p_1.out 0
 have g_p_1 := frozen_heap hq_p_1.out 1
 have g_p_2 := frozen_heap hq_p_1.out 2
 have g_p_3 := frozen_heap hq_p_1.out 3
 obtain ⟨x_d_0, x_d_1, x_d_2, -⟩ := box3f hq_d_1.out
 have l_d := heap_lt hq_d_1.out
 have g_d_0 := frozen_heap hq_d_1.out 0
 have g_d_1 := frozen_heap hq_d_1.out 1
 have g_d_2 := frozen_heap hq_d_1.out 2
 go_wp2_with fail
 have hp9 := box3_other (q := w.heap.size + 1 + 1 + 1) (u0 := .int .i64 0) (u1 := .slice none 0 0) (u2 := .string ⟨#[]⟩) (box4_same (u0 := .slice none 0 0) (u1 := .slice none 0 0) (u2 := .int .i64 0) (u3 := .int .i64 0) hq_p_1.out) qzbri_2
 have hd9 := box3_same (u0 := .int .i64 0) (u1 := .slice none 0 0) (u2 := .string ⟨#[]⟩) (box4_other (q := w.heap.size + 1 + 1) (u0 := .slice none 0 0) (u1 := .slice none 0 0) (u2 := .int .i64 0) (u3 := .int .i64 0) hq_d_1.out qzbri_2)
 have hb9 := b_box3 (b_box4 hb1.out (q := w.heap.size + 1 + 1) qzbri_2 (.slice none 0 0) (.slice none 0 0) (.int .i64 0) (.int .i64 0)) (q := w.heap.size + 1 + 1 + 1) qzbri_2 (.int .i64 0) (.slice none 0 0) (.string ⟨#[]⟩)
 exact qzbri_1
end Go.Proofs.YtpkpgehiplhkpaaGreat

namespace Go.Proofs.YtpkpgehiplhkpaaGreat
open Go.RowKit
end Go.Proofs.YtpkpgehiplhkpaaGreat

namespace Go.Proofs.YtpkpgehiplhkpaaGreat
open Go.RowKit
end Go.Proofs.YtpkpgehiplhkpaaGreat
