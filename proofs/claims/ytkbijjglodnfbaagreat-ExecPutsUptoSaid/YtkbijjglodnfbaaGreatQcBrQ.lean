import Derived.Test.YtkbijjglodnfbaaGreatQcBrL
import Derived.Test.YtkbijjglodnfbaaGreatQcPbx
namespace Go.Proofs.YtkbijjglodnfbaaGreat
open Go.RowKit
theorem qcbrq_3 {P : Prop} (h : P := by omega) : P := h
theorem qcbrq_2 {P : Prop} (h : P := by simp) : P := h
theorem qcbrq_1 {P : Prop} (h : P := by
 obtain ⟨m0, m1, m2, m3⟩ := box4f hp9
 obtain ⟨n0, n1, n2, -⟩ := box3f hd9
 unfold World.box4 World.box3 at m0 m1 m2 m3 n0 n1 n2 hb9
 (try simp only [Exit.inBlock, Exit.then])
 refine bodyPost_ret (by simp [results, Tryz.results36, go_sem, m0, m1, m2, m3, n0, n1, n2]; try rfl) rfl ?_
 exact coO_no hd.out hb9) : P := h
set_option maxRecDepth 100000 in
set_option maxHeartbeats 4000000 in
theorem ref_KeptPut' (v u gv : Value) (bs : List Blob) (es : List Entry) (r t ph : Int) (pl : ByteArray) (gy : List ByteArray) (b : Value) (s : ByteArray) (L : List Part) (w : World) (h : RBl w v bs) (g : RE w u es) (hg : RT w gv gy) (gd : RP w b L) (z e1 : Int) (B : List Blob) (E : List Entry) (r1 t1 : Int)
 (hL8 : z = 0 → e1 = 0 → L.length ≤ 8) (hgl : gy.length ≤ 8388608)
 (hch : ∀ w, RBl w v bs → RE w u es → RT w gv gy → Calls Tryz.prog 70 #[.agg #[v, u, .int .i64 r, .int .i64 t], .agg #[.int .i64 ph, gv, .string pl]] w fun e w' => e = .returned (.int .i64 z) ∧ Below w.heap.size w w')
 (hop : ∀ w, RBl w v bs → RE w u es → RP w b L → Calls Tryz.prog 91 #[.agg #[v, u, .int .i64 r, .int .i64 t], .string s, b] w (StRes e1 ⟨B, E, r1, t1⟩ w)) :
 Calls Tryz.prog 36 #[.agg #[v, u, .int .i64 r, .int .i64 t], .agg #[.int .i64 ph, gv, .string pl], .string s, b] w (CoResO (barOut z e1 ⟨B, E, r1, t1⟩ ph gy pl (L.map (·.digest))) w) := by
 replace hch := hid hch
 have hR := hid h
 have hE := hid g
 have hG := hid hg
 have hD := hid gd
 obtain ⟨a, c, rfl, -⟩ := h
 obtain ⟨a2, c2, rfl, -⟩ := g
 obtain ⟨ga, gc, rfl, -⟩ := hg
 unfold StRes VS at hop
 by_cases hz : z = 0
 · subst hz
   by_cases he : e1 = 0
   · subst he
     have hd := hid (bar_ok (S := ⟨B, E, r1, t1⟩) (ph := ph) (gy := gy) (pl := pl) (l := (L.map (·.digest))))
     have hL := hL8 rfl rfl
     simp only [if_true] at hop
     replace hop := hid hop
     go_enter Tryz.func36, Tryz.ntmps36
     go_wp2_with fail
     ((with_reducible refine (hch.out _ (hR.out.mono EBlob.stable (b_alloc (b_alloc (b_alloc (b_alloc (Below.refl _ w) _) _) _) _)) (hE.out.mono EEntry.stable (b_alloc (b_alloc (b_alloc (b_alloc (Below.refl _ w) _) _) _) _)) (hG.out.mono EStr.stable (b_alloc (b_alloc (b_alloc (b_alloc (Below.refl _ w) _) _) _) _))).mono ?_); rintro e1 w1 ⟨rfl, b1⟩)
     have hq_q_1 := hid (stays b1 (hold (hold (hold (heap_put w _ (w.heap.size) qcbrq_2)))))
     have hq_k_1 := hid (stays b1 (hold (hold (heap_put _ _ (w.heap.size + 1) qcbrq_2))))
     have hq_p_1 := hid (stays b1 (hold (heap_put _ _ (w.heap.size + 1 + 1) qcbrq_2)))
     have hq_d_1 := hid (stays b1 (heap_put _ _ (w.heap.size + 1 + 1 + 1) qcbrq_2))
     have hb1 := hid (b_call (b_alloc (b_alloc (b_alloc (b_alloc (Below.refl _ w) _) _) _) _) b1)
     have r_R_1 := hid (hR.out.mono EBlob.stable (b_call (b_alloc (b_alloc (b_alloc (b_alloc (Below.refl _ w) _) _) _) _) b1))
     have r_E_1 := hid (hE.out.mono EEntry.stable (b_call (b_alloc (b_alloc (b_alloc (b_alloc (Below.refl _ w) _) _) _) _) b1))
     have r_G_1 := hid (hG.out.mono EStr.stable (b_call (b_alloc (b_alloc (b_alloc (b_alloc (Below.refl _ w) _) _) _) _) b1))
     have r_D_1 := hid (hD.out.mono EPart.stable (b_call (b_alloc (b_alloc (b_alloc (b_alloc (Below.refl _ w) _) _) _) _) b1))
     clear b1
     obtain ⟨x_q_0, x_q_1, x_q_2, x_q_3⟩ := box4f hq_q_1.out
     obtain ⟨x_k_0, x_k_1, x_k_2, -⟩ := box3f hq_k_1.out
     go_wp2_with fail
     ((with_reducible refine (hop.out _ r_R_1.out r_E_1.out r_D_1.out).mono ?_); rintro e2 w2 ⟨_, rfl, ⟨A1, D1, rfl, rA, rD⟩, b2⟩)
     clear x_q_0 x_q_1 x_q_2 x_q_3 x_k_0 x_k_1 x_k_2
     have hq_q_2 := hid (stays b2 hq_q_1.out)
     have hq_k_2 := hid (stays b2 hq_k_1.out)
     have hq_p_2 := hid (stays b2 hq_p_1.out)
     have hq_d_2 := hid (stays b2 hq_d_1.out)
     have hb2 := hid (b_call hb1.out b2)
     have r_R_2 := hid (r_R_1.out.mono EBlob.stable (b_call (Below.refl w1.heap.size w1) b2))
     have r_E_2 := hid (r_E_1.out.mono EEntry.stable (b_call (Below.refl w1.heap.size w1) b2))
     have r_G_2 := hid (r_G_1.out.mono EStr.stable (b_call (Below.refl w1.heap.size w1) b2))
     have r_D_2 := hid (r_D_1.out.mono EPart.stable (b_call (Below.refl w1.heap.size w1) b2))
     have r_A_2 := hid rA
     have r_X_2 := hid rD
     clear hq_q_1 hq_k_1 hq_p_1 hq_d_1 hb1 r_R_1 r_E_1 r_G_1 r_D_1 rA rD b2
     have hs2 : w.heap.size + 4 ≤ w2.heap.size := heap_lt hq_d_2.out
     obtain ⟨a5, c5, rfl, -⟩ := id r_A_2.out
     obtain ⟨a6, c6, rfl, -⟩ := id r_X_2.out
     obtain ⟨x_q_0, x_q_1, x_q_2, x_q_3⟩ := box4f hq_q_2.out
     obtain ⟨x_k_0, x_k_1, x_k_2, -⟩ := box3f hq_k_2.out
     go_upto_region 8 with fail
     have hob := hid (heap_alloc_new w2 (Obj.cells #[.slice a5 B.length c5, .slice a6 E.length c6, .int .i64 r1, .int .i64 t1] 25))
     have hkb := hid (alloc_keep (o := Obj.cells #[.slice a5 B.length c5, .slice a6 E.length c6, .int .i64 r1, .int .i64 t1] 25) hq_k_2.out)
     have hpb := hid (alloc_keep (o := Obj.cells #[.slice a5 B.length c5, .slice a6 E.length c6, .int .i64 r1, .int .i64 t1] 25) hq_p_2.out)
     have hdb := hid (alloc_keep (o := Obj.cells #[.slice a5 B.length c5, .slice a6 E.length c6, .int .i64 r1, .int .i64 t1] 25) hq_d_2.out)
     have hbb := hid (b_alloc hb2.out (Obj.cells #[.slice a5 B.length c5, .slice a6 E.length c6, .int .i64 r1, .int .i64 t1] 25))
     have rAb := hid (RS.al EBlob.stable r_A_2.out (Obj.cells #[.slice a5 B.length c5, .slice a6 E.length c6, .int .i64 r1, .int .i64 t1] 25))
     have rXb := hid (RS.al EEntry.stable r_X_2.out (Obj.cells #[.slice a5 B.length c5, .slice a6 E.length c6, .int .i64 r1, .int .i64 t1] 25))
     have rGb := hid (RS.al EStr.stable r_G_2.out (Obj.cells #[.slice a5 B.length c5, .slice a6 E.length c6, .int .i64 r1, .int .i64 t1] 25))
     have rDb := hid (RS.al EPart.stable r_D_2.out (Obj.cells #[.slice a5 B.length c5, .slice a6 E.length c6, .int .i64 r1, .int .i64 t1] 25))
     have hl2 : w2.heap.size < (w2.alloc (Obj.cells #[.slice a5 B.length c5, .slice a6 E.length c6, .int .i64 r1, .int .i64 t1] 25)).heap.size := by simp
     clear x_q_0 x_q_1 x_q_2 x_q_3 x_k_0 x_k_1 x_k_2
     generalize w2.alloc (Obj.cells #[.slice a5 B.length c5, .slice a6 E.length c6, .int .i64 r1, .int .i64 t1] 25) = wb at *
     have hLs := hid (fun s (hs : s ∈ L.map (·.digest)) => (show s.size ≤ 140737488351232 by obtain ⟨p, hp, rfl⟩ := List.mem_map.1 hs; exact dig_ok rDb.out p hp))
     obtain ⟨i0, ii0, hz0, hz1, hz2⟩ := info_parts info_str
     have rDb' := rDb.out
     obtain ⟨pa, pc, rfl, hlc, hcm, hre, hno, hat⟩ := rDb'
     unfold maxLen at hcm
     replace hat := hid hat
     clear hno
     have hown0 : Hid (OS 9 1 cStr wb wb.heap.size (.slice none 0 0) ((L.map (·.digest)).take 0)) := hid OS.nil
     go_wp2_with fail
     go_loopw [14, 16, 40] (fun o _ i wr => ∃ k : Nat, k ≤ L.length ∧ i = .int .i64 (k : Int) ∧ Hid (OS 9 1 cStr wr wb.heap.size o ((L.map (·.digest)).take k)) ∧ Hid (Below wb.heap.size wb wr)) (fun _ _ i _ => L.length - (intOf i).toNat)
     case atStart => exact ⟨0, by omega, rfl, hown0, hid (Below.refl _ _)⟩
     case round =>
      obtain ⟨k, hk, rfl, hown, hbr⟩ := hrel
      by_cases hlt : k < L.length
      · have hx : L[k]? = some L[k] := List.getElem?_eq_getElem hlt
        have htk := hid (List.take_succ_eq_append_getElem hlt)
        generalize L[k] = y at hx htk
        obtain ⟨bb, off, rfl, hbb, he⟩ := hat.out k _ hx
        obtain ⟨c0, c1', c2, s0, s1, wf⟩ := EPart.stable _ _ _ _ _ hbr.out hbb he
        have hbw : bb < wr.heap.size := Nat.lt_of_lt_of_le hbb hbr.out.size
        clear he hx
        have hown1 := hid (OS.alloc hown.out (Obj.cells #[.string y.name, .string y.digest, .int .i64 y.size] 107))
        have hsB := hbr.out.size
        have hrow := row_one (s := 1) (bs := 16) (cells := cStr) (wr.alloc (Obj.cells #[.string y.name, .string y.digest, .int .i64 y.size] 107)) 9 y.digest #[.string y.digest] (wr.heap.size + 1) qcbrq_2 rfl (by decide)
        have hlk : ((L.map (·.digest)).take k).length ≤ L.length := by rw [List.length_take, List.length_map]; omega
        go_wp2_with (at_builtin; go_must (refine wpL_append flat_rstr rfl (.tmp 44) (.tmp 47) 26 rfl 9 i0 _ Tryz.underlying26 ii0 hz0 hz1 hz2 rfl wb.heap.size _ _ rfl (OS.alloc hown1.out _) _ [y.digest] rfl hrow ?c1 ?c2 ?c3 ?_))
        case c1 => simp only [List.length_cons, List.length_nil]; omega
        case c2 => simp only [List.length_cons, List.length_nil, maxLen]; omega
        case c3 => simp; omega
        intro v8 w8 ho8 hg8
        have hbr8 := hid ((((hbr.out.alloc hsB (Obj.cells #[.string y.name, .string y.digest, .int .i64 y.size] 107)).alloc (by simp; omega) (Obj.cells #[.string y.digest] 9)).grown hg8 (by simp; omega) (OS.block hown.out)))
        have hxs : Hid ((L.map (·.digest)).take k ++ [y.digest] = (L.map (·.digest)).take (k + 1)) := hid (by rw [← List.map_take, ← List.map_take, htk.out, List.map_append]; rfl)
        rw [hxs.out] at ho8
        replace ho8 := hid ho8
        clear hg8 hrow hown1 hown hbr hxs
        go_wp2_with fail
        go_roundw
        case rel => exact ⟨k + 1, by omega, by go_num, ho8, hbr8⟩
        case measure => simp [intOf]; omega
      · obtain rfl : k = L.length := by omega
        rw [List.take_of_length_le (by rw [List.length_map]; exact Nat.le_refl _)] at hown
        have hq_o_r := hid (stays hbr.out hob.out)
        have hq_k_r := hid (stays hbr.out hkb.out)
        have hq_p_r := hid (stays hbr.out hpb.out)
        have hq_d_r := hid (stays hbr.out hdb.out)
        have rl := reads_str hown.out (by rw [List.length_map]; omega) hLs.out
        obtain ⟨la, lc, rfl, -⟩ := id rl
        have hkm := hid (show (gy.length + (L.map (·.digest)).length) * 16 ≤ 140737488351232 by rw [List.length_map]; omega)
        have hbr2 := hid (b_call hbb.out hbr.out)
        have rAr := hid (rAb.out.mono EBlob.stable hbr.out)
        have rXr := hid (rXb.out.mono EEntry.stable hbr.out)
        have rGr := hid (rGb.out.mono EStr.stable hbr.out)
        have hszr := hbr.out.size
        clear hown hat hown0
        simp only [List.length_map] at rl
        replace rl := hid rl
        obtain ⟨x0, x1, x2, x3⟩ := box4f hq_o_r.out
        obtain ⟨y0, y1, y2, -⟩ := box3f hq_k_r.out
        have lor := heap_lt hq_o_r.out
        go_wp2_with fail
        ((with_reducible refine (ref_kept _ _ _ _ B E r1 t1 ph pl gy (L.map (·.digest)) _ rAr.out rXr.out rGr.out rl.out hkm.out).mono ?_); rintro e w3 ⟨v1, v2, v3, rfl, r1a, r1b, r1c, o1c, b3⟩)
        have hq_o_3 := hid (stays b3 hq_o_r.out)
        have hq_p_3 := hid (stays b3 hq_p_r.out)
        have hq_d_3 := hid (stays b3 hq_d_r.out)
        have hb3 := hid (b_call hbr2.out b3)
        have hw3 : w2.heap.size < w3.heap.size := by have := b3.size; omega
        have r_B1_3 := hid r1a
        have r_E1_3 := hid r1b
        have r_G1_3 := hid r1c
        replace o1c := hid o1c
        clear x0 x1 x2 x3 y0 y1 y2 b3 hkm
        generalize keptB ph B (L.map (·.digest)) = B2 at *
        generalize keptG ph gy (L.map (·.digest)) = G2 at *
        obtain ⟨a7, c7, rfl, -⟩ := id r_B1_3.out
        obtain ⟨a8, c8, rfl, -⟩ := id r_E1_3.out
        obtain ⟨a9, c9, rfl, -⟩ := id r_G1_3.out
        have bnd := hid (rt_bound r_G1_3.out)
        have szs := hid (rt_sizes r_G1_3.out)
        obtain ⟨x_o_0, x_o_1, x_o_2, x_o_3⟩ := box4f hq_o_3.out
        have g_o_0 := frozen_heap hq_o_3.out 0
        have g_o_1 := frozen_heap hq_o_3.out 1
        have g_o_2 := frozen_heap hq_o_3.out 2
        have g_o_3 := frozen_heap hq_o_3.out 3
        have l_o := heap_lt hq_o_3.out
        go_upto_region 14 with fail
        have hn4 := hid (heap_put (World.box4 w3 w2.heap.size (.slice a7 B2.length c7) (.slice a8 E.length c8) (.int .i64 r1) (.int .i64 t1)) (Obj.cells #[.int .i64 ph, .slice a9 G2.length c9, .string pl] 28) w3.heap.size (by simp [World.box4]))
        have ho4 := hid ((heap_alloc_old _ (Obj.cells #[.int .i64 ph, .slice a9 G2.length c9, .string pl] 28) (heap_lt (box4_same (u0 := .slice a7 B2.length c7) (u1 := .slice a8 E.length c8) (u2 := .int .i64 r1) (u3 := .int .i64 t1) hq_o_3.out))).trans (box4_same (u0 := .slice a7 B2.length c7) (u1 := .slice a8 E.length c8) (u2 := .int .i64 r1) (u3 := .int .i64 t1) hq_o_3.out))
        have hp4 := hid ((heap_alloc_old _ (Obj.cells #[.int .i64 ph, .slice a9 G2.length c9, .string pl] 28) (heap_lt (box4_other (q := w2.heap.size) (u0 := .slice a7 B2.length c7) (u1 := .slice a8 E.length c8) (u2 := .int .i64 r1) (u3 := .int .i64 t1) hq_p_3.out qcbrq_3))).trans (box4_other (q := w2.heap.size) (u0 := .slice a7 B2.length c7) (u1 := .slice a8 E.length c8) (u2 := .int .i64 r1) (u3 := .int .i64 t1) hq_p_3.out qcbrq_3))
        have hd4 := hid ((heap_alloc_old _ (Obj.cells #[.int .i64 ph, .slice a9 G2.length c9, .string pl] 28) (heap_lt (box4_other (q := w2.heap.size) (u0 := .slice a7 B2.length c7) (u1 := .slice a8 E.length c8) (u2 := .int .i64 r1) (u3 := .int .i64 t1) hq_d_3.out qcbrq_3))).trans (box4_other (q := w2.heap.size) (u0 := .slice a7 B2.length c7) (u1 := .slice a8 E.length c8) (u2 := .int .i64 r1) (u3 := .int .i64 t1) hq_d_3.out qcbrq_3))
        have hb4 := hid (b_alloc (b_box4 hb3.out (q := w2.heap.size) qcbrq_3 (.slice a7 B2.length c7) (.slice a8 E.length c8) (.int .i64 r1) (.int .i64 t1)) (Obj.cells #[.int .i64 ph, .slice a9 G2.length c9, .string pl] 28))
        have hbx := (⟨_, _, _, _, _, _, _, _, hq_o_3.out⟩ : ∃ a n c a' n' c' r t, w3.heap[w2.heap.size]? = some (.cells #[.slice a n c, .slice a' n' c', .int .i64 r, .int .i64 t] 25 (0, 0)))
        have rb4 := hid ((r_B1_3.out.box4 EBlob.writes hbx a7 B2.length c7 a8 E.length c8 r1 t1).mono EBlob.stable (b_alloc (Below.refl _ _) (Obj.cells #[.int .i64 ph, .slice a9 G2.length c9, .string pl] 28)))
        have re4 := hid ((r_E1_3.out.box4 EEntry.writes hbx a7 B2.length c7 a8 E.length c8 r1 t1).mono EEntry.stable (b_alloc (Below.refl _ _) (Obj.cells #[.int .i64 ph, .slice a9 G2.length c9, .string pl] 28)))
        have og4 := hid (OS.alloc (OS.boxS4 (u0 := .slice a7 B2.length c7) (u1 := .slice a8 E.length c8) (u2 := .int .i64 r1) (u3 := .int .i64 t1) (OS.mono o1c.out (show w.heap.size ≤ _ by first | omega | (simp; omega))) hq_o_3.out (by decide)) (Obj.cells #[.int .i64 ph, .slice a9 G2.length c9, .string pl] 28))
        unfold World.box4 at hn4 ho4 hp4 hd4 hb4 rb4 re4 og4
        generalize World.alloc ((((w3.setCell ⟨w2.heap.size, 0, none⟩ (.slice a7 B2.length c7)).setCell ⟨w2.heap.size, 1, none⟩ (.slice a8 E.length c8)).setCell ⟨w2.heap.size, 2, none⟩ (.int .i64 r1)).setCell ⟨w2.heap.size, 3, none⟩ (.int .i64 t1)) (Obj.cells #[.int .i64 ph, .slice a9 G2.length c9, .string pl] 28) = w4 at *
        clear x_o_0 x_o_1 x_o_2 x_o_3 g_o_0 g_o_1 g_o_2 g_o_3
        obtain ⟨x0, x1, x2, x3⟩ := box4f ho4.out
        obtain ⟨e0, e1', e2, -⟩ := box3f hn4.out
        have hnS := ho4.out
        have hnC := hn4.out
        have ne1 : w2.heap.size ≠ w.heap.size + 1 + 1 := by omega
        have ne2 : w2.heap.size ≠ w.heap.size + 1 + 1 + 1 := by omega
        have ne3 : w3.heap.size ≠ w.heap.size + 1 + 1 := by omega
        have ne4 : w3.heap.size ≠ w.heap.size + 1 + 1 + 1 := by omega
        obtain ⟨y0, y1, y2, y3⟩ := box4f hp4.out
        obtain ⟨z0, z1, z2, -⟩ := box3f hd4.out
        have g0 := frozen_heap hp4.out 0
        have g1 := frozen_heap hp4.out 1
        have g2 := frozen_heap hp4.out 2
        have g3 := frozen_heap hp4.out 3
        have kf0 := frozen_heap hd4.out 0
        have kf1 := frozen_heap hd4.out 1
        have kf2 := frozen_heap hd4.out 2
        have hS := box4f hnS
        have hC := box3f hnC
        go_wp2_with fail
        go_region_held3 (fun w' => w'.cell? ⟨w2.heap.size, 0, none⟩ = some (.slice a7 B2.length c7) ∧ w'.cell? ⟨w2.heap.size, 1, none⟩ = some (.slice a8 E.length c8) ∧ w'.cell? ⟨w2.heap.size, 2, none⟩ = some (.int .i64 r1) ∧ w'.cell? ⟨w2.heap.size, 3, none⟩ = some (.int .i64 t1) ∧ w'.cell? ⟨w3.heap.size, 0, none⟩ = some (.int .i64 ph) ∧ w'.cell? ⟨w3.heap.size, 1, none⟩ = some (.slice a9 G2.length c9) ∧ w'.cell? ⟨w3.heap.size, 2, none⟩ = some (.string pl))
         (first
           | with_reducible exact ⟨hS.1, hS.2.1, hS.2.2.1, hS.2.2.2, hC.1, hC.2.1, hC.2.2.1⟩
           | (have h1 := box4f (heap_drewn (box4_other (q := w.heap.size + 1 + 1) (u0 := .slice a7 B2.length c7) (u1 := .slice a8 E.length c8) (u2 := .int .i64 r1) (u3 := .int .i64 t1) hnS ne1))
              have h2 := box3f (heap_drewn (box4_other (q := w.heap.size + 1 + 1) (u0 := .slice a7 B2.length c7) (u1 := .slice a8 E.length c8) (u2 := .int .i64 r1) (u3 := .int .i64 t1) hnC ne3))
              unfold World.box4 at h1 h2
              (try unfold World.box3 at h1 h2)
              with_reducible exact ⟨h1.1, h1.2.1, h1.2.2.1, h1.2.2.2, h2.1, h2.2.1, h2.2.2.1⟩)
           | (have h1 := box4f (heap_drewn (box3_other (q := w.heap.size + 1 + 1 + 1) (u0 := .int .i64 ph) (u1 := .slice a9 G2.length c9) (u2 := .string pl) (box4_other (q := w.heap.size + 1 + 1) (u0 := .slice a7 B2.length c7) (u1 := .slice a8 E.length c8) (u2 := .int .i64 r1) (u3 := .int .i64 t1) hnS ne1) ne2))
              have h2 := box3f (heap_drewn (box3_other (q := w.heap.size + 1 + 1 + 1) (u0 := .int .i64 ph) (u1 := .slice a9 G2.length c9) (u2 := .string pl) (box4_other (q := w.heap.size + 1 + 1) (u0 := .slice a7 B2.length c7) (u1 := .slice a8 E.length c8) (u2 := .int .i64 r1) (u3 := .int .i64 t1) hnC ne3) ne4))
              unfold World.box4 at h1 h2
              (try unfold World.box3 at h1 h2)
              with_reducible exact ⟨h1.1, h1.2.1, h1.2.2.1, h1.2.2.2, h2.1, h2.2.1, h2.2.2.1⟩)
           | go_keep
           | fail)
         (fail)
        go_wp2_with fail
        have hbox := (⟨_, _, _, _, _, _, _, _, hp4.out⟩ : ∃ a n c a' n' c' r t, w4.heap[w.heap.size + 1 + 1]? = some (.cells #[.slice a n c, .slice a' n' c', .int .i64 r, .int .i64 t] 25 (0, 0)))
        have hdx := box4_other (q := w.heap.size + 1 + 1) (u0 := .slice a7 B2.length c7) (u1 := .slice a8 E.length c8) (u2 := .int .i64 r1) (u3 := .int .i64 t1) hd4.out qcbrq_3
        have rl9 := ((rb4.out.box4 EBlob.writes hbox a7 B2.length c7 a8 E.length c8 r1 t1).box3 EBlob.writesC ⟨_, _, _, _, _, hdx⟩ ph a9 G2.length c9 pl).mono EBlob.stable (Below.refl _ _).drew
        have re9 := ((re4.out.box4 EEntry.writes hbox a7 B2.length c7 a8 E.length c8 r1 t1).box3 EEntry.writesC ⟨_, _, _, _, _, hdx⟩ ph a9 G2.length c9 pl).mono EEntry.stable (Below.refl _ _).drew
        unfold World.box4 World.box3 at rl9 re9
        have os9 := OS.drew (OS.boxS3 (u0 := .int .i64 ph) (u1 := .slice a9 G2.length c9) (u2 := .string pl) (OS.boxS4 (u0 := .slice a7 B2.length c7) (u1 := .slice a8 E.length c8) (u2 := .int .i64 r1) (u3 := .int .i64 t1) og4.out hp4.out (by decide)) hdx (by decide))
        have rt9 := reads_str os9 bnd.out szs.out
        unfold World.box4 World.box3 at os9 rt9
        have hp9 := heap_drewn (box3_other (q := w.heap.size + 1 + 1 + 1) (u0 := .int .i64 ph) (u1 := .slice a9 G2.length c9) (u2 := .string pl) (box4_same (u0 := .slice a7 B2.length c7) (u1 := .slice a8 E.length c8) (u2 := .int .i64 r1) (u3 := .int .i64 t1) hp4.out) qcbrq_3)
        have hd9 := heap_drewn (box3_same (u0 := .int .i64 ph) (u1 := .slice a9 G2.length c9) (u2 := .string pl) (box4_other (q := w.heap.size + 1 + 1) (u0 := .slice a7 B2.length c7) (u1 := .slice a8 E.length c8) (u2 := .int .i64 r1) (u3 := .int .i64 t1) hd4.out qcbrq_3))
        have hb9 := (b_box3 (b_box4 hb4.out (q := w.heap.size + 1 + 1) qcbrq_3 (.slice a7 B2.length c7) (.slice a8 E.length c8) (.int .i64 r1) (.int .i64 t1)) (q := w.heap.size + 1 + 1 + 1) qcbrq_3 (.int .i64 ph) (.slice a9 G2.length c9) (.string pl)).drew
        obtain ⟨m0, m1, m2, m3⟩ := box4f hp9
        obtain ⟨n0, n1, n2, -⟩ := box3f hd9
        unfold World.box4 World.box3 at m0 m1 m2 m3 n0 n1 n2 hb9
        (try simp only [Exit.inBlock, Exit.then])
        refine bodyPost_ret (by simp [results, Tryz.results36, go_sem, m0, m1, m2, m3, n0, n1, n2]; try rfl) rfl ?_
        exact coO_ok hd.out rl9 re9 rt9 os9 hb9
   · have hd := hid (bar_op (S := ⟨B, E, r1, t1⟩) (ph := ph) (gy := gy) (pl := pl) (l := (L.map (·.digest))) he)
     have q1 : (e1 != 0) = true := by simp [he]
     simp only [if_neg he] at hop
     replace hop := hid hop
     generalize noStore = So at hop
     obtain ⟨B0, E0, r0, t0⟩ := So
     replace he := hid he
     go_enter Tryz.func36, Tryz.ntmps36
     go_wp2_with fail
     ((with_reducible refine (hch.out _ (hR.out.mono EBlob.stable (b_alloc (b_alloc (b_alloc (b_alloc (Below.refl _ w) _) _) _) _)) (hE.out.mono EEntry.stable (b_alloc (b_alloc (b_alloc (b_alloc (Below.refl _ w) _) _) _) _)) (hG.out.mono EStr.stable (b_alloc (b_alloc (b_alloc (b_alloc (Below.refl _ w) _) _) _) _))).mono ?_); rintro e1 w1 ⟨rfl, b1⟩)
     have hq_q_1 := hid (stays b1 (hold (hold (hold (heap_put w _ (w.heap.size) qcbrq_2)))))
     have hq_k_1 := hid (stays b1 (hold (hold (heap_put _ _ (w.heap.size + 1) qcbrq_2))))
     have hq_p_1 := hid (stays b1 (hold (heap_put _ _ (w.heap.size + 1 + 1) qcbrq_2)))
     have hq_d_1 := hid (stays b1 (heap_put _ _ (w.heap.size + 1 + 1 + 1) qcbrq_2))
     have hb1 := hid (b_call (b_alloc (b_alloc (b_alloc (b_alloc (Below.refl _ w) _) _) _) _) b1)
     have r_R_1 := hid (hR.out.mono EBlob.stable (b_call (b_alloc (b_alloc (b_alloc (b_alloc (Below.refl _ w) _) _) _) _) b1))
     have r_E_1 := hid (hE.out.mono EEntry.stable (b_call (b_alloc (b_alloc (b_alloc (b_alloc (Below.refl _ w) _) _) _) _) b1))
     have r_G_1 := hid (hG.out.mono EStr.stable (b_call (b_alloc (b_alloc (b_alloc (b_alloc (Below.refl _ w) _) _) _) _) b1))
     have r_D_1 := hid (hD.out.mono EPart.stable (b_call (b_alloc (b_alloc (b_alloc (b_alloc (Below.refl _ w) _) _) _) _) b1))
     clear b1
     obtain ⟨x_q_0, x_q_1, x_q_2, x_q_3⟩ := box4f hq_q_1.out
     obtain ⟨x_k_0, x_k_1, x_k_2, -⟩ := box3f hq_k_1.out
     go_wp2_with fail
     ((with_reducible refine (hop.out _ r_R_1.out r_E_1.out r_D_1.out).mono ?_); rintro e2 w2 ⟨_, rfl, ⟨A1, D1, rfl, rA, rD⟩, b2⟩)
     clear x_q_0 x_q_1 x_q_2 x_q_3 x_k_0 x_k_1 x_k_2
     have hq_q_2 := hid (stays b2 hq_q_1.out)
     have hq_k_2 := hid (stays b2 hq_k_1.out)
     have hq_p_2 := hid (stays b2 hq_p_1.out)
     have hq_d_2 := hid (stays b2 hq_d_1.out)
     have hb2 := hid (b_call hb1.out b2)
     have r_R_2 := hid (r_R_1.out.mono EBlob.stable (b_call (Below.refl w1.heap.size w1) b2))
     have r_E_2 := hid (r_E_1.out.mono EEntry.stable (b_call (Below.refl w1.heap.size w1) b2))
     have r_G_2 := hid (r_G_1.out.mono EStr.stable (b_call (Below.refl w1.heap.size w1) b2))
     have r_D_2 := hid (r_D_1.out.mono EPart.stable (b_call (Below.refl w1.heap.size w1) b2))
     have r_A_2 := hid rA
     have r_X_2 := hid rD
     clear hq_q_1 hq_k_1 hq_p_1 hq_d_1 hb1 r_R_1 r_E_1 r_G_1 r_D_1 rA rD b2
     have hs2 : w.heap.size + 4 ≤ w2.heap.size := heap_lt hq_d_2.out
     obtain ⟨a5, c5, rfl, -⟩ := id r_A_2.out
     obtain ⟨a6, c6, rfl, -⟩ := id r_X_2.out
     obtain ⟨x_q_0, x_q_1, x_q_2, x_q_3⟩ := box4f hq_q_2.out
     obtain ⟨x_k_0, x_k_1, x_k_2, -⟩ := box3f hq_k_2.out
     go_upto_region 5 with fail
     have hpb := hid (alloc_keep (o := Obj.cells #[.slice a5 B0.length c5, .slice a6 E0.length c6, .int .i64 r0, .int .i64 t0] 25) hq_p_2.out)
     have hdb := hid (alloc_keep (o := Obj.cells #[.slice a5 B0.length c5, .slice a6 E0.length c6, .int .i64 r0, .int .i64 t0] 25) hq_d_2.out)
     have hbb := hid (b_alloc hb2.out (Obj.cells #[.slice a5 B0.length c5, .slice a6 E0.length c6, .int .i64 r0, .int .i64 t0] 25))
     clear x_q_0 x_q_1 x_q_2 x_q_3 x_k_0 x_k_1 x_k_2
     generalize w2.alloc (Obj.cells #[.slice a5 B0.length c5, .slice a6 E0.length c6, .int .i64 r0, .int .i64 t0] 25) = wb at *
     clear hq_p_2 hq_d_2 hb2 r_A_2 r_X_2 r_R_2 r_E_2 r_G_2
     obtain ⟨p0, p1, p2, p3⟩ := box4f hpb.out
     obtain ⟨d0, d1, d2, -⟩ := box3f hdb.out
     have g0 := frozen_heap hpb.out 0
     have g1 := frozen_heap hpb.out 1
     have g2 := frozen_heap hpb.out 2
     have g3 := frozen_heap hpb.out 3
     have kf0 := frozen_heap hdb.out 0
     have kf1 := frozen_heap hdb.out 1
     have kf2 := frozen_heap hdb.out 2
     go_wp2_with fail
     have hp9 := box3_other (q := w.heap.size + 1 + 1 + 1) (u0 := .int .i64 0) (u1 := .slice none 0 0) (u2 := .string ⟨#[]⟩) (box4_same (u0 := .slice none 0 0) (u1 := .slice none 0 0) (u2 := .int .i64 0) (u3 := .int .i64 0) hpb.out) qcbrq_3
     have hd9 := box3_same (u0 := .int .i64 0) (u1 := .slice none 0 0) (u2 := .string ⟨#[]⟩) (box4_other (q := w.heap.size + 1 + 1) (u0 := .slice none 0 0) (u1 := .slice none 0 0) (u2 := .int .i64 0) (u3 := .int .i64 0) hdb.out qcbrq_3)
     have hb9 := b_box3 (b_box4 hbb.out (q := w.heap.size + 1 + 1) qcbrq_3 (.slice none 0 0) (.slice none 0 0) (.int .i64 0) (.int .i64 0)) (q := w.heap.size + 1 + 1 + 1) qcbrq_3 (.int .i64 0) (.slice none 0 0) (.string ⟨#[]⟩)
     exact qcbrq_1
 · have ht : (z != 0) = true := by simp [hz]
   have hd := hid (bar_bad (e := e1) (S := ⟨B, E, r1, t1⟩) (ph := ph) (gy := gy) (pl := pl) (l := (L.map (·.digest))) hz)
   replace hz := hid hz
   clear hop
   go_enter Tryz.func36, Tryz.ntmps36
   go_wp2_with fail
   ((with_reducible refine (hch.out _ (hR.out.mono EBlob.stable (b_alloc (b_alloc (b_alloc (b_alloc (Below.refl _ w) _) _) _) _)) (hE.out.mono EEntry.stable (b_alloc (b_alloc (b_alloc (b_alloc (Below.refl _ w) _) _) _) _)) (hG.out.mono EStr.stable (b_alloc (b_alloc (b_alloc (b_alloc (Below.refl _ w) _) _) _) _))).mono ?_); rintro e1 w1 ⟨rfl, b1⟩)
   have hq_q_1 := hid (stays b1 (hold (hold (hold (heap_put w _ (w.heap.size) qcbrq_2)))))
   have hq_k_1 := hid (stays b1 (hold (hold (heap_put _ _ (w.heap.size + 1) qcbrq_2))))
   have hq_p_1 := hid (stays b1 (hold (heap_put _ _ (w.heap.size + 1 + 1) qcbrq_2)))
   have hq_d_1 := hid (stays b1 (heap_put _ _ (w.heap.size + 1 + 1 + 1) qcbrq_2))
   have hb1 := hid (b_call (b_alloc (b_alloc (b_alloc (b_alloc (Below.refl _ w) _) _) _) _) b1)
   have r_R_1 := hid (hR.out.mono EBlob.stable (b_call (b_alloc (b_alloc (b_alloc (b_alloc (Below.refl _ w) _) _) _) _) b1))
   have r_E_1 := hid (hE.out.mono EEntry.stable (b_call (b_alloc (b_alloc (b_alloc (b_alloc (Below.refl _ w) _) _) _) _) b1))
   have r_G_1 := hid (hG.out.mono EStr.stable (b_call (b_alloc (b_alloc (b_alloc (b_alloc (Below.refl _ w) _) _) _) _) b1))
   have r_D_1 := hid (hD.out.mono EPart.stable (b_call (b_alloc (b_alloc (b_alloc (b_alloc (Below.refl _ w) _) _) _) _) b1))
   clear b1
   obtain ⟨x_q_0, x_q_1, x_q_2, x_q_3⟩ := box4f hq_q_1.out
   obtain ⟨x_k_0, x_k_1, x_k_2, -⟩ := box3f hq_k_1.out
   obtain ⟨x_p_0, x_p_1, x_p_2, x_p_3⟩ := box4f hq_p_1.out
   have l_p := heap_lt hq_p_1.out
   have g_p_0 := frozen_heap hq_p_1.out 0
   have g_p_1 := frozen_heap hq_p_1.out 1
   have g_p_2 := frozen_heap hq_p_1.out 2
   have g_p_3 := frozen_heap hq_p_1.out 3
   obtain ⟨x_d_0, x_d_1, x_d_2, -⟩ := box3f hq_d_1.out
   have l_d := heap_lt hq_d_1.out
   have g_d_0 := frozen_heap hq_d_1.out 0
   have g_d_1 := frozen_heap hq_d_1.out 1
   have g_d_2 := frozen_heap hq_d_1.out 2
   go_wp2_with fail
   have hp9 := box3_other (q := w.heap.size + 1 + 1 + 1) (u0 := .int .i64 0) (u1 := .slice none 0 0) (u2 := .string ⟨#[]⟩) (box4_same (u0 := .slice none 0 0) (u1 := .slice none 0 0) (u2 := .int .i64 0) (u3 := .int .i64 0) hq_p_1.out) qcbrq_3
   have hd9 := box3_same (u0 := .int .i64 0) (u1 := .slice none 0 0) (u2 := .string ⟨#[]⟩) (box4_other (q := w.heap.size + 1 + 1) (u0 := .slice none 0 0) (u1 := .slice none 0 0) (u2 := .int .i64 0) (u3 := .int .i64 0) hq_d_1.out qcbrq_3)
   have hb9 := b_box3 (b_box4 hb1.out (q := w.heap.size + 1 + 1) qcbrq_3 (.slice none 0 0) (.slice none 0 0) (.int .i64 0) (.int .i64 0)) (q := w.heap.size + 1 + 1 + 1) qcbrq_3 (.int .i64 0) (.slice none 0 0) (.string ⟨#[]⟩)
   exact qcbrq_1
end Go.Proofs.YtkbijjglodnfbaaGreat
