import Derived.Test.YtpkpgehiplhkpaaGreatTzExB
namespace Go.Proofs.YtpkpgehiplhkpaaGreat
open Go.RowKit
theorem qzexa_4 {P : Prop} (h : P := by omega) : P := h
theorem qzexa_3 {P : Prop} (h : P := by simp [results, Tryz.results153, go_sem, m0, m1, m2, m3, m4, m5, m6, m7]; try rfl) : P := h
theorem qzexa_2 {P : Prop} (h : P := by
 obtain ⟨m0, m1, m2, m3, m4, m5, m6, m7⟩ := box8f hp9
 unfold box8 at *
 (try simp only [Exit.inBlock, Exit.then])
 refine bodyPost_ret qzexa_3 rfl ?_
 exact ak_no hd.out hb9) : P := h
theorem qzexa_1 {P : Prop} (h : P := by
 clear hb
 go_enter Tryz.func153, Tryz.ntmps153
 go_wp2_with fail
 ((with_reducible refine (hch.out _ (hR.out.mono EBlob.stable (b_alloc (b_alloc (Below.refl _ w) _) _)) (hE.out.mono EEntry.stable (b_alloc (b_alloc (Below.refl _ w) _) _)) (hG.out.mono EStr.stable (b_alloc (b_alloc (Below.refl _ w) _) _)) (hF.out.mono EFlight.stable (b_alloc (b_alloc (Below.refl _ w) _) _))).mono ?_); rintro e1 w1 ⟨rfl, b1⟩)
 have hq_q_1 := hid (stays b1 (hold (heap_put w _ (w.heap.size) (by simp))))
 have hq_p_1 := hid (stays b1 (heap_put _ _ (w.heap.size + 1) (by simp)))
 have hb1 := hid (b_call (b_alloc (b_alloc (Below.refl _ w) _) _) b1)
 have r_R_1 := hid (hR.out.mono EBlob.stable (b_call (b_alloc (b_alloc (Below.refl _ w) _) _) b1))
 have r_E_1 := hid (hE.out.mono EEntry.stable (b_call (b_alloc (b_alloc (Below.refl _ w) _) _) b1))
 have r_G_1 := hid (hG.out.mono EStr.stable (b_call (b_alloc (b_alloc (Below.refl _ w) _) _) b1))
 have r_F_1 := hid (hF.out.mono EFlight.stable (b_call (b_alloc (b_alloc (Below.refl _ w) _) _) b1))
 clear b1
 obtain ⟨x_q_0, x_q_1, x_q_2, x_q_3, x_q_4, x_q_5, x_q_6, x_q_7⟩ := box8f hq_q_1.out
 go_wp2_with fail
 ((with_reducible refine (hcp.out _ r_R_1.out r_E_1.out r_G_1.out r_F_1.out).mono ?_); rintro e2 w2 ⟨v1, v2, v3, v4, rfl, k1, k2, k3, k4, b2⟩)
 clear x_q_0 x_q_1 x_q_2 x_q_3 x_q_4 x_q_5 x_q_6 x_q_7
 have hq_q_2 := hid (stays b2 hq_q_1.out)
 have hq_p_2 := hid (stays b2 hq_p_1.out)
 have hb2 := hid (b_call hb1.out b2)
 have r_R_2 := hid (r_R_1.out.mono EBlob.stable (b_call (Below.refl w1.heap.size w1) b2))
 have r_E_2 := hid (r_E_1.out.mono EEntry.stable (b_call (Below.refl w1.heap.size w1) b2))
 have r_G_2 := hid (r_G_1.out.mono EStr.stable (b_call (Below.refl w1.heap.size w1) b2))
 have r_F_2 := hid (r_F_1.out.mono EFlight.stable (b_call (Below.refl w1.heap.size w1) b2))
 have hsb : w.heap.size + 1 < w1.heap.size := heap_lt hq_p_1.out
 have hs12 := b2.size
 clear hq_q_1 hq_p_1 hb1 r_R_1 r_E_1 r_G_1 r_F_1 b2
 obtain ⟨b5, d5, rfl⟩ := OX.lenOf k1
 obtain ⟨b6, d6, rfl⟩ := OX.lenOf k2
 obtain ⟨b8, d8, rfl⟩ := OX.lenOf k4
 obtain ⟨b7, d7, rfl, -⟩ := id (OS.len_le k3)
 have rb2 := hid (k1.toR hre hf1.out)
 have re2 := hid (k2.toR hre2 hf2.out)
 replace k3 := hid k3
 replace k4 := hid k4
 clear k1 k2
 obtain ⟨x_q_0, x_q_1, x_q_2, x_q_3, x_q_4, x_q_5, x_q_6, x_q_7⟩ := box8f hq_q_2.out
 have l_q := heap_lt hq_q_2.out
 go_wp2_with fail
 ((with_reducible refine (hfind.out _ (r_E_2.out.mono EEntry.stable (b_alloc (Below.refl w2.heap.size w2) _))).mono ?_); rintro e3 w3 ⟨rfl, b3⟩)
 clear x_q_0 x_q_1 x_q_2 x_q_3 x_q_4 x_q_5 x_q_6 x_q_7 l_q
 have hq_o_3 := hid (stays b3 (heap_alloc_new w2 _))
 have hq_q_3 := hid (stays b3 (hold hq_q_2.out))
 have hq_p_3 := hid (stays b3 (hold hq_p_2.out))
 have hb3 := hid (b_call (b_alloc hb2.out _) b3)
 have r_R_3 := hid (r_R_2.out.mono EBlob.stable (b_call (b_alloc (Below.refl w2.heap.size w2) _) b3))
 have r_E_3 := hid (r_E_2.out.mono EEntry.stable (b_call (b_alloc (Below.refl w2.heap.size w2) _) b3))
 have r_G_3 := hid (r_G_2.out.mono EStr.stable (b_call (b_alloc (Below.refl w2.heap.size w2) _) b3))
 have r_F_3 := hid (r_F_2.out.mono EFlight.stable (b_call (b_alloc (Below.refl w2.heap.size w2) _) b3))
 have hc3 := hid (b_call (b_alloc (Below.refl w2.heap.size w2) _) b3)
 clear hq_q_2 hq_p_2 hb2 r_R_2 r_E_2 r_G_2 r_F_2 b3
 obtain ⟨x_q_0, x_q_1, x_q_2, x_q_3, x_q_4, x_q_5, x_q_6, x_q_7⟩ := box8f hq_q_3.out
 obtain ⟨x_q_0, x_q_1, x_q_2, x_q_3, x_q_4, x_q_5, x_q_6, x_q_7⟩ := box8f hq_q_3.out
 obtain ⟨x_p_0, x_p_1, x_p_2, x_p_3, x_p_4, x_p_5, x_p_6, x_p_7⟩ := box8f hq_p_3.out
 have l_p := heap_lt hq_p_3.out
 have g_p_0 := frozen_heap hq_p_3.out 0
 have g_p_1 := frozen_heap hq_p_3.out 1
 have g_p_2 := frozen_heap hq_p_3.out 2
 have g_p_3 := frozen_heap hq_p_3.out 3
 have g_p_4 := frozen_heap hq_p_3.out 4
 have g_p_5 := frozen_heap hq_p_3.out 5
 have g_p_6 := frozen_heap hq_p_3.out 6
 have g_p_7 := frozen_heap hq_p_3.out 7
 go_wp2_with fail
 have hp9 := box8_set (u0 := .slice none 0 0) (u1 := .slice none 0 0) (u2 := .int .i64 0) (u3 := .int .i64 0) (u4 := .int .i64 0) (u5 := .slice none 0 0) (u6 := .string ⟨#[]⟩) (u7 := .slice none 0 0) hq_p_3.out
 have hb9 := b_box8 (q := w.heap.size + 1) hb3.out qzexa_4 (.slice none 0 0) (.slice none 0 0) (.int .i64 0) (.int .i64 0) (.int .i64 0) (.slice none 0 0) (.string ⟨#[]⟩) (.slice none 0 0)
 obtain ⟨m0, m1, m2, m3, m4, m5, m6, m7⟩ := box8f hp9
 unfold box8 at *
 (try simp only [Exit.inBlock, Exit.then])
 refine bodyPost_ret qzexa_3 rfl ?_
 exact ak_no hd.out hb9) : P := h
set_option maxRecDepth 100000 in
set_option maxHeartbeats 8000000 in
theorem exec_Ask' (v u gv fv : Value) (bs : List Blob) (es : List Entry) (r t ph : Int) (pl : ByteArray) (gy : List ByteArray) (fl : List Flight) (s : ByteArray) (n : Int) (w : World) (h : RBl w v bs) (g : RE w u es) (hg : RT w gv gy) (hfl : RF w fv fl) (z ee ei ge je : Int) (f bad : Bool) (GS : Store) (GP : List Part) (JL : List Flight) (JB : Bool) (hf : (ee == 0) = f) (hb : bad = decide (n < 1 ∨ 1000 < n))
 (hch : ∀ w, RBl w v bs → RE w u es → RT w gv gy → RF w fv fl → Calls Tryz.prog 27 #[.agg #[v, u, .int .i64 r, .int .i64 t, .int .i64 ph, gv, .string pl, fv]] w fun e w' => e = .returned (.int .i64 z) ∧ Below w.heap.size w w')
 (hcp : ∀ w, RBl w v bs → RE w u es → RT w gv gy → RF w fv fl → Calls Tryz.prog 217 #[.agg #[v, u, .int .i64 r, .int .i64 t, .int .i64 ph, gv, .string pl, fv]] w (OwnedLoft bs es r t ph gy pl fl w))
 (hfind : ∀ w, RE w u es → Calls Tryz.prog 51 #[u, .string s] w fun e w' => e = .returned (.tuple #[.int .i64 ei, .int .i64 ee]) ∧ Below w.heap.size w w')
 (hget : ∀ w, RBl w v bs → RE w u es → Calls Tryz.prog 21 #[.agg #[v, u, .int .i64 r, .int .i64 t], .string s] w fun e w' => ∃ v pv, e = .returned (.tuple #[v, pv, .int .i64 ge]) ∧ VS w' v (if ge = 0 then GS else noStore) ∧ RP w' pv (if ge = 0 then GP else []) ∧ Below w.heap.size w w')
 (hjoin : ∀ w, RF w fv fl → Calls Tryz.prog 218 #[fv, .string s, .int .i64 n] w fun e w' => ∃ v, e = .returned (.tuple #[v, .bool JB, .int .i64 je]) ∧ RF w' v JL ∧ OFlight w' w.heap.size v JL ∧ Below w.heap.size w w') :
 Calls Tryz.prog 153 #[.agg #[v, u, .int .i64 r, .int .i64 t, .int .i64 ph, gv, .string pl, fv], .string s, .int .i64 n] w (AkRes (askOut z f bad ge GS GP je JL JB ⟨bs, es, r, t⟩ ⟨ph, gy, pl⟩ fl) w) := by
 replace hch := hid hch
 replace hfind := hid hfind
 replace hjoin := hid hjoin
 have hR := hid h
 have hE := hid g
 have hG := hid hg
 have hF := hid hfl
 have hff := hid (And.intro (rf_bound hfl) (fit_F hfl))
 have hf1 := hid (fit_B h)
 have hf2 := hid (fit_E g)
 have hgb := hid (rt_bound hg)
 have hgs := hid (rt_sizes hg)
 obtain ⟨a, c, rfl, -, -, hre, -⟩ := h
 obtain ⟨a2, c2, rfl, -, -, hre2, -⟩ := g
 obtain ⟨ga, gc, rfl, -⟩ := hg
 obtain ⟨fa, fc, rfl, -⟩ := hfl
 unfold OwnedLoft at hcp
 replace hcp := hid hcp
 unfold VS at hget
 by_cases hz : z = 0
 · subst hz
   cases f with
   | true =>
     cases bad with
     | true =>
       clear hget hjoin
       have hd := hid (ask_who (ge := ge) (je := je) (GS := GS) (GP := GP) (JL := JL) (JB := JB) (S := ⟨bs, es, r, t⟩) (C := ⟨ph, gy, pl⟩) (fl := fl))
       by_cases hn : n < 1
       · have d1 : decide (n < 1) = true := decide_eq_true hn
         exact qzexa_1
       have hn2 : 1000 < n := by
        have := of_decide_eq_true hb.symm
        omega
       have d1 : decide (n < 1) = false := decide_eq_false hn
       have d2 : decide (1000 < n) = true := decide_eq_true hn2
       exact qzexa_1
     | false =>
       have hnn := of_decide_eq_false hb.symm
       have d1 : decide (n < 1) = false := decide_eq_false (fun h => hnn (Or.inl h))
       have d2 : decide (1000 < n) = false := decide_eq_false (fun h => hnn (Or.inr h))
       clear hb hnn
       clear hjoin
       by_cases hg0 : ge = 0
       · subst hg0
         simp only [if_true] at hget
         obtain ⟨B, E, r1, t1⟩ := GS
         simp only at hget
         replace hget := hid hget
         have hd := hid (ask_got (je := je) (GS := ⟨B, E, r1, t1⟩) (GP := GP) (JL := JL) (JB := JB) (S := ⟨bs, es, r, t⟩) (C := ⟨ph, gy, pl⟩) (fl := fl))
         go_enter Tryz.func153, Tryz.ntmps153
         go_wp2_with fail
         ((with_reducible refine (hch.out _ (hR.out.mono EBlob.stable (b_alloc (b_alloc (Below.refl _ w) _) _)) (hE.out.mono EEntry.stable (b_alloc (b_alloc (Below.refl _ w) _) _)) (hG.out.mono EStr.stable (b_alloc (b_alloc (Below.refl _ w) _) _)) (hF.out.mono EFlight.stable (b_alloc (b_alloc (Below.refl _ w) _) _))).mono ?_); rintro e1 w1 ⟨rfl, b1⟩)
         have hq_q_1 := hid (stays b1 (hold (heap_put w _ (w.heap.size) (by simp))))
         have hq_p_1 := hid (stays b1 (heap_put _ _ (w.heap.size + 1) (by simp)))
         have hb1 := hid (b_call (b_alloc (b_alloc (Below.refl _ w) _) _) b1)
         have r_R_1 := hid (hR.out.mono EBlob.stable (b_call (b_alloc (b_alloc (Below.refl _ w) _) _) b1))
         have r_E_1 := hid (hE.out.mono EEntry.stable (b_call (b_alloc (b_alloc (Below.refl _ w) _) _) b1))
         have r_G_1 := hid (hG.out.mono EStr.stable (b_call (b_alloc (b_alloc (Below.refl _ w) _) _) b1))
         have r_F_1 := hid (hF.out.mono EFlight.stable (b_call (b_alloc (b_alloc (Below.refl _ w) _) _) b1))
         clear b1
         obtain ⟨x_q_0, x_q_1, x_q_2, x_q_3, x_q_4, x_q_5, x_q_6, x_q_7⟩ := box8f hq_q_1.out
         go_wp2_with fail
         ((with_reducible refine (hcp.out _ r_R_1.out r_E_1.out r_G_1.out r_F_1.out).mono ?_); rintro e2 w2 ⟨v1, v2, v3, v4, rfl, k1, k2, k3, k4, b2⟩)
         clear x_q_0 x_q_1 x_q_2 x_q_3 x_q_4 x_q_5 x_q_6 x_q_7
         have hq_q_2 := hid (stays b2 hq_q_1.out)
         have hq_p_2 := hid (stays b2 hq_p_1.out)
         have hb2 := hid (b_call hb1.out b2)
         have r_R_2 := hid (r_R_1.out.mono EBlob.stable (b_call (Below.refl w1.heap.size w1) b2))
         have r_E_2 := hid (r_E_1.out.mono EEntry.stable (b_call (Below.refl w1.heap.size w1) b2))
         have r_G_2 := hid (r_G_1.out.mono EStr.stable (b_call (Below.refl w1.heap.size w1) b2))
         have r_F_2 := hid (r_F_1.out.mono EFlight.stable (b_call (Below.refl w1.heap.size w1) b2))
         have hsb : w.heap.size + 1 < w1.heap.size := heap_lt hq_p_1.out
         have hs12 := b2.size
         clear hq_q_1 hq_p_1 hb1 r_R_1 r_E_1 r_G_1 r_F_1 b2
         obtain ⟨b5, d5, rfl⟩ := OX.lenOf k1
         obtain ⟨b6, d6, rfl⟩ := OX.lenOf k2
         obtain ⟨b8, d8, rfl⟩ := OX.lenOf k4
         obtain ⟨b7, d7, rfl, -⟩ := id (OS.len_le k3)
         have rb2 := hid (k1.toR hre hf1.out)
         have re2 := hid (k2.toR hre2 hf2.out)
         replace k3 := hid k3
         replace k4 := hid k4
         clear k1 k2
         obtain ⟨x_q_0, x_q_1, x_q_2, x_q_3, x_q_4, x_q_5, x_q_6, x_q_7⟩ := box8f hq_q_2.out
         have l_q := heap_lt hq_q_2.out
         go_wp2_with fail
         ((with_reducible refine (hfind.out _ (r_E_2.out.mono EEntry.stable (b_alloc (Below.refl w2.heap.size w2) _))).mono ?_); rintro e3 w3 ⟨rfl, b3⟩)
         clear x_q_0 x_q_1 x_q_2 x_q_3 x_q_4 x_q_5 x_q_6 x_q_7 l_q
         have hq_o_3 := hid (stays b3 (heap_alloc_new w2 _))
         have hq_q_3 := hid (stays b3 (hold hq_q_2.out))
         have hq_p_3 := hid (stays b3 (hold hq_p_2.out))
         have hb3 := hid (b_call (b_alloc hb2.out _) b3)
         have r_R_3 := hid (r_R_2.out.mono EBlob.stable (b_call (b_alloc (Below.refl w2.heap.size w2) _) b3))
         have r_E_3 := hid (r_E_2.out.mono EEntry.stable (b_call (b_alloc (Below.refl w2.heap.size w2) _) b3))
         have r_G_3 := hid (r_G_2.out.mono EStr.stable (b_call (b_alloc (Below.refl w2.heap.size w2) _) b3))
         have r_F_3 := hid (r_F_2.out.mono EFlight.stable (b_call (b_alloc (Below.refl w2.heap.size w2) _) b3))
         have hc3 := hid (b_call (b_alloc (Below.refl w2.heap.size w2) _) b3)
         clear hq_q_2 hq_p_2 hb2 r_R_2 r_E_2 r_G_2 r_F_2 b3
         obtain ⟨x_q_0, x_q_1, x_q_2, x_q_3, x_q_4, x_q_5, x_q_6, x_q_7⟩ := box8f hq_q_3.out
         go_wp2_with fail
         ((with_reducible refine (hget.out _ r_R_3.out r_E_3.out).mono ?_); rintro e4 w4 ⟨_, pv, rfl, ⟨A1, D1, rfl, rA, rD⟩, rP, b4⟩)
         clear x_q_0 x_q_1 x_q_2 x_q_3 x_q_4 x_q_5 x_q_6 x_q_7
         have hq_o_4 := hid (stays b4 hq_o_3.out)
         have hq_q_4 := hid (stays b4 hq_q_3.out)
         have hq_p_4 := hid (stays b4 hq_p_3.out)
         have hb4 := hid (b_call hb3.out b4)
         have r_R_4 := hid (r_R_3.out.mono EBlob.stable (b_call (Below.refl w3.heap.size w3) b4))
         have r_E_4 := hid (r_E_3.out.mono EEntry.stable (b_call (Below.refl w3.heap.size w3) b4))
         have r_G_4 := hid (r_G_3.out.mono EStr.stable (b_call (Below.refl w3.heap.size w3) b4))
         have r_F_4 := hid (r_F_3.out.mono EFlight.stable (b_call (Below.refl w3.heap.size w3) b4))
         have r_A_4 := hid rA
         have r_X_4 := hid rD
         have r_P_4 := hid rP
         have hc4 := hid (b_call hc3.out b4)
         clear hq_o_3 hq_q_3 hq_p_3 hb3 r_R_3 r_E_3 r_G_3 r_F_3 rA rD rP b4
         obtain ⟨a5, c5, rfl, -⟩ := id r_A_4.out
         obtain ⟨a6, c6, rfl, -⟩ := id r_X_4.out
         obtain ⟨a7, c7, rfl, -⟩ := id r_P_4.out
         have hso : w2.heap.size < w4.heap.size := heap_lt hq_o_4.out
         obtain ⟨x_q_0, x_q_1, x_q_2, x_q_3, x_q_4, x_q_5, x_q_6, x_q_7⟩ := box8f hq_q_4.out
         go_upto_region 10 with fail
         have hx5 := hid (heap_alloc_new w4 (Obj.cells #[.slice a5 B.length c5, .slice a6 E.length c6, .int .i64 r1, .int .i64 t1] 29))
         have hp5 := hid (alloc_keep (o := Obj.cells #[.slice a5 B.length c5, .slice a6 E.length c6, .int .i64 r1, .int .i64 t1] 29) hq_p_4.out)
         have ho5 := hid (alloc_keep (o := Obj.cells #[.slice a5 B.length c5, .slice a6 E.length c6, .int .i64 r1, .int .i64 t1] 29) hq_o_4.out)
         have hb5 := hid (b_alloc hb4.out (Obj.cells #[.slice a5 B.length c5, .slice a6 E.length c6, .int .i64 r1, .int .i64 t1] 29))
         have hc5 := hid (b_alloc hc4.out (Obj.cells #[.slice a5 B.length c5, .slice a6 E.length c6, .int .i64 r1, .int .i64 t1] 29))
         have rb5 := hid (RS.al EBlob.stable r_A_4.out (Obj.cells #[.slice a5 B.length c5, .slice a6 E.length c6, .int .i64 r1, .int .i64 t1] 29))
         have re5 := hid (RS.al EEntry.stable r_X_4.out (Obj.cells #[.slice a5 B.length c5, .slice a6 E.length c6, .int .i64 r1, .int .i64 t1] 29))
         have rp5 := hid (RS.al EPart.stable r_P_4.out (Obj.cells #[.slice a5 B.length c5, .slice a6 E.length c6, .int .i64 r1, .int .i64 t1] 29))
         generalize w4.alloc (Obj.cells #[.slice a5 B.length c5, .slice a6 E.length c6, .int .i64 r1, .int .i64 t1] 29) = w5 at *
         clear x_q_0 x_q_1 x_q_2 x_q_3 x_q_4 x_q_5 x_q_6 x_q_7 hq_q_4 hq_p_4 hq_o_4 hb4 hc4 r_R_4 r_E_4 r_G_4 r_F_4 r_A_4 r_X_4 r_P_4
         obtain ⟨x0, x1, x2, x3⟩ := box4f hx5.out
         obtain ⟨o0, o1, o2, o3, o4, o5, o6, o7⟩ := box8f ho5.out
         have f0 := frozen_heap ho5.out 0
         have f1 := frozen_heap ho5.out 1
         have f2 := frozen_heap ho5.out 2
         have f3 := frozen_heap ho5.out 3
         go_upto_region 13 with fail
         have lb5 : LBox w5 w2.heap.size := ⟨_, _, _, _, _, _, _, _, _, _, _, _, _, _, _, _, _, ho5.out⟩
         have ho6 := hid (l8_3 (u := .int .i64 t1) (l8_2 (u := .int .i64 r1) (l8_1 (u := .slice a6 E.length c6) (l8_0 (u := .slice a5 B.length c5) (ho5.out)))))
         have hp6 := hid (box_other (q := w2.heap.size) (o := 3) (u := .int .i64 t1) (box_other (q := w2.heap.size) (o := 2) (u := .int .i64 r1) (box_other (q := w2.heap.size) (o := 1) (u := .slice a6 E.length c6) (box_other (q := w2.heap.size) (o := 0) (u := .slice a5 B.length c5) (hp5.out) qzexa_4) qzexa_4) qzexa_4) qzexa_4)
         have hb6 := hid (b_set (p := ⟨w2.heap.size, 3, none⟩) (b_set (p := ⟨w2.heap.size, 2, none⟩) (b_set (p := ⟨w2.heap.size, 1, none⟩) (b_set (p := ⟨w2.heap.size, 0, none⟩) (hb5.out) (show w.heap.size ≤ w2.heap.size by omega) (.slice a5 B.length c5)) (show w.heap.size ≤ w2.heap.size by omega) (.slice a6 E.length c6)) (show w.heap.size ≤ w2.heap.size by omega) (.int .i64 r1)) (show w.heap.size ≤ w2.heap.size by omega) (.int .i64 t1))
         have hc6 := hid (b_set (p := ⟨w2.heap.size, 3, none⟩) (b_set (p := ⟨w2.heap.size, 2, none⟩) (b_set (p := ⟨w2.heap.size, 1, none⟩) (b_set (p := ⟨w2.heap.size, 0, none⟩) (hc5.out) (Nat.le_refl _) (.slice a5 B.length c5)) (Nat.le_refl _) (.slice a6 E.length c6)) (Nat.le_refl _) (.int .i64 r1)) (Nat.le_refl _) (.int .i64 t1))
         have rb6 := hid (rs_l4 EBlob.writesL rb5.out lb5 a5 B.length c5 a6 E.length c6 r1 t1)
         have re6 := hid (rs_l4 EEntry.writesL re5.out lb5 a5 B.length c5 a6 E.length c6 r1 t1)
         have rp6 := hid (rs_l4 EPart.writesL rp5.out lb5 a5 B.length c5 a6 E.length c6 r1 t1)
         clear o0 o1 o2 o3 o4 o5 o6 o7 f0 f1 f2 f3 x0 x1 x2 x3 ho5 hp5 hb5 hc5 rb5 re5 rp5 hx5 lb5
         generalize ((((w5.setCell ⟨w2.heap.size, 0, none⟩ (.slice a5 B.length c5)).setCell ⟨w2.heap.size, 1, none⟩ (.slice a6 E.length c6)).setCell ⟨w2.heap.size, 2, none⟩ (.int .i64 r1)).setCell ⟨w2.heap.size, 3, none⟩ (.int .i64 t1)) = w6 at *
         have og6 := hid (OS.below k3.out hc6.out)
         have of6 := hid (OFlight.after k4.out hc6.out)
         obtain ⟨o0, o1, o2, o3, o4, o5, o6, o7⟩ := box8f ho6.out
         obtain ⟨z0, z1, z2, z3, z4, z5, z6, z7⟩ := box8f hp6.out
         have g0 := frozen_heap hp6.out 0
         have g1 := frozen_heap hp6.out 1
         have g2 := frozen_heap hp6.out 2
         have g3 := frozen_heap hp6.out 3
         have g4 := frozen_heap hp6.out 4
         have g5 := frozen_heap hp6.out 5
         have g6 := frozen_heap hp6.out 6
         have g7 := frozen_heap hp6.out 7
         go_wp2_with fail
         have hp9 := box8_set (u0 := .slice a5 B.length c5) (u1 := .slice a6 E.length c6) (u2 := .int .i64 r1) (u3 := .int .i64 t1) (u4 := .int .i64 ph) (u5 := .slice b7 gy.length d7) (u6 := .string pl) (u7 := .slice b8 fl.length d8) hp6.out
         have hb9 := b_box8 (q := w.heap.size + 1) hb6.out qzexa_4 (.slice a5 B.length c5) (.slice a6 E.length c6) (.int .i64 r1) (.int .i64 t1) (.int .i64 ph) (.slice b7 gy.length d7) (.string pl) (.slice b8 fl.length d8)
         have lb9 : LBox _ _ := ⟨_, _, _, _, _, _, _, _, _, _, _, _, _, _, _, _, _, hp6.out⟩
         have rl9 := rs_b8 EBlob.writesL rb6.out lb9 a5 B.length c5 a6 E.length c6 r1 t1 ph b7 gy.length d7 pl (.slice b8 fl.length d8)
         have re9 := rs_b8 EEntry.writesL re6.out lb9 a5 B.length c5 a6 E.length c6 r1 t1 ph b7 gy.length d7 pl (.slice b8 fl.length d8)
         have rp9 := rs_b8 EPart.writesL rp6.out lb9 a5 B.length c5 a6 E.length c6 r1 t1 ph b7 gy.length d7 pl (.slice b8 fl.length d8)
         have oto9 := OS.box8 (q := w.heap.size + 1) (u0 := .slice a5 B.length c5) (u1 := .slice a6 E.length c6) (u2 := .int .i64 r1) (u3 := .int .i64 t1) (u4 := .int .i64 ph) (u5 := .slice b7 gy.length d7) (u6 := .string pl) (u7 := .slice b8 fl.length d8) og6.out qzexa_4
         have ofo9 := OFlight.box8 (q := w.heap.size + 1) (u0 := .slice a5 B.length c5) (u1 := .slice a6 E.length c6) (u2 := .int .i64 r1) (u3 := .int .i64 t1) (u4 := .int .i64 ph) (u5 := .slice b7 gy.length d7) (u6 := .string pl) (u7 := .slice b8 fl.length d8) of6.out qzexa_4
         have ot9 := reads_str oto9 hgb.out hgs.out
         have of9 := ofo9.toR hff.out.1 hff.out.2
         obtain ⟨m0, m1, m2, m3, m4, m5, m6, m7⟩ := box8f hp9
         unfold box8 at *
         (try simp only [Exit.inBlock, Exit.then])
         refine bodyPost_ret qzexa_3 rfl ?_
         with_reducible exact ak_ok hd.out rl9 re9 ot9 of9 rp9 qzexa_4 qzexa_4 oto9 ofo9 hb9
       have hd := hid (ask_get (je := je) (GS := GS) (GP := GP) (JL := JL) (JB := JB) (S := ⟨bs, es, r, t⟩) (C := ⟨ph, gy, pl⟩) (fl := fl) hg0)
       have q1 : (ge != 0) = true := by simp [hg0]
       generalize hS : (if ge = 0 then GS else noStore) = S at hget
       clear hS
       obtain ⟨B, E, r1, t1⟩ := S
       generalize hP : (if ge = 0 then GP else []) = P at hget
       clear hP
       simp only at hget
       replace hget := hid hget
       replace hg0 := hid hg0
       go_enter Tryz.func153, Tryz.ntmps153
       go_wp2_with fail
       ((with_reducible refine (hch.out _ (hR.out.mono EBlob.stable (b_alloc (b_alloc (Below.refl _ w) _) _)) (hE.out.mono EEntry.stable (b_alloc (b_alloc (Below.refl _ w) _) _)) (hG.out.mono EStr.stable (b_alloc (b_alloc (Below.refl _ w) _) _)) (hF.out.mono EFlight.stable (b_alloc (b_alloc (Below.refl _ w) _) _))).mono ?_); rintro e1 w1 ⟨rfl, b1⟩)
       have hq_q_1 := hid (stays b1 (hold (heap_put w _ (w.heap.size) (by simp))))
       have hq_p_1 := hid (stays b1 (heap_put _ _ (w.heap.size + 1) (by simp)))
       have hb1 := hid (b_call (b_alloc (b_alloc (Below.refl _ w) _) _) b1)
       have r_R_1 := hid (hR.out.mono EBlob.stable (b_call (b_alloc (b_alloc (Below.refl _ w) _) _) b1))
       have r_E_1 := hid (hE.out.mono EEntry.stable (b_call (b_alloc (b_alloc (Below.refl _ w) _) _) b1))
       have r_G_1 := hid (hG.out.mono EStr.stable (b_call (b_alloc (b_alloc (Below.refl _ w) _) _) b1))
       have r_F_1 := hid (hF.out.mono EFlight.stable (b_call (b_alloc (b_alloc (Below.refl _ w) _) _) b1))
       clear b1
       obtain ⟨x_q_0, x_q_1, x_q_2, x_q_3, x_q_4, x_q_5, x_q_6, x_q_7⟩ := box8f hq_q_1.out
       go_wp2_with fail
       ((with_reducible refine (hcp.out _ r_R_1.out r_E_1.out r_G_1.out r_F_1.out).mono ?_); rintro e2 w2 ⟨v1, v2, v3, v4, rfl, k1, k2, k3, k4, b2⟩)
       clear x_q_0 x_q_1 x_q_2 x_q_3 x_q_4 x_q_5 x_q_6 x_q_7
       have hq_q_2 := hid (stays b2 hq_q_1.out)
       have hq_p_2 := hid (stays b2 hq_p_1.out)
       have hb2 := hid (b_call hb1.out b2)
       have r_R_2 := hid (r_R_1.out.mono EBlob.stable (b_call (Below.refl w1.heap.size w1) b2))
       have r_E_2 := hid (r_E_1.out.mono EEntry.stable (b_call (Below.refl w1.heap.size w1) b2))
       have r_G_2 := hid (r_G_1.out.mono EStr.stable (b_call (Below.refl w1.heap.size w1) b2))
       have r_F_2 := hid (r_F_1.out.mono EFlight.stable (b_call (Below.refl w1.heap.size w1) b2))
       have hsb : w.heap.size + 1 < w1.heap.size := heap_lt hq_p_1.out
       have hs12 := b2.size
       clear hq_q_1 hq_p_1 hb1 r_R_1 r_E_1 r_G_1 r_F_1 b2
       obtain ⟨b5, d5, rfl⟩ := OX.lenOf k1
       obtain ⟨b6, d6, rfl⟩ := OX.lenOf k2
       obtain ⟨b8, d8, rfl⟩ := OX.lenOf k4
       obtain ⟨b7, d7, rfl, -⟩ := id (OS.len_le k3)
       have rb2 := hid (k1.toR hre hf1.out)
       have re2 := hid (k2.toR hre2 hf2.out)
       replace k3 := hid k3
       replace k4 := hid k4
       clear k1 k2
       obtain ⟨x_q_0, x_q_1, x_q_2, x_q_3, x_q_4, x_q_5, x_q_6, x_q_7⟩ := box8f hq_q_2.out
       have l_q := heap_lt hq_q_2.out
       go_wp2_with fail
       ((with_reducible refine (hfind.out _ (r_E_2.out.mono EEntry.stable (b_alloc (Below.refl w2.heap.size w2) _))).mono ?_); rintro e3 w3 ⟨rfl, b3⟩)
       clear x_q_0 x_q_1 x_q_2 x_q_3 x_q_4 x_q_5 x_q_6 x_q_7 l_q
       have hq_o_3 := hid (stays b3 (heap_alloc_new w2 _))
       have hq_q_3 := hid (stays b3 (hold hq_q_2.out))
       have hq_p_3 := hid (stays b3 (hold hq_p_2.out))
       have hb3 := hid (b_call (b_alloc hb2.out _) b3)
       have r_R_3 := hid (r_R_2.out.mono EBlob.stable (b_call (b_alloc (Below.refl w2.heap.size w2) _) b3))
       have r_E_3 := hid (r_E_2.out.mono EEntry.stable (b_call (b_alloc (Below.refl w2.heap.size w2) _) b3))
       have r_G_3 := hid (r_G_2.out.mono EStr.stable (b_call (b_alloc (Below.refl w2.heap.size w2) _) b3))
       have r_F_3 := hid (r_F_2.out.mono EFlight.stable (b_call (b_alloc (Below.refl w2.heap.size w2) _) b3))
       have hc3 := hid (b_call (b_alloc (Below.refl w2.heap.size w2) _) b3)
       clear hq_q_2 hq_p_2 hb2 r_R_2 r_E_2 r_G_2 r_F_2 b3
       obtain ⟨x_q_0, x_q_1, x_q_2, x_q_3, x_q_4, x_q_5, x_q_6, x_q_7⟩ := box8f hq_q_3.out
       go_wp2_with fail
       ((with_reducible refine (hget.out _ r_R_3.out r_E_3.out).mono ?_); rintro e4 w4 ⟨_, pv, rfl, ⟨A1, D1, rfl, rA, rD⟩, rP, b4⟩)
       clear x_q_0 x_q_1 x_q_2 x_q_3 x_q_4 x_q_5 x_q_6 x_q_7
       have hq_o_4 := hid (stays b4 hq_o_3.out)
       have hq_q_4 := hid (stays b4 hq_q_3.out)
       have hq_p_4 := hid (stays b4 hq_p_3.out)
       have hb4 := hid (b_call hb3.out b4)
       have r_R_4 := hid (r_R_3.out.mono EBlob.stable (b_call (Below.refl w3.heap.size w3) b4))
       have r_E_4 := hid (r_E_3.out.mono EEntry.stable (b_call (Below.refl w3.heap.size w3) b4))
       have r_G_4 := hid (r_G_3.out.mono EStr.stable (b_call (Below.refl w3.heap.size w3) b4))
       have r_F_4 := hid (r_F_3.out.mono EFlight.stable (b_call (Below.refl w3.heap.size w3) b4))
       have r_A_4 := hid rA
       have r_X_4 := hid rD
       have r_P_4 := hid rP
       have hc4 := hid (b_call hc3.out b4)
       clear hq_o_3 hq_q_3 hq_p_3 hb3 r_R_3 r_E_3 r_G_3 r_F_3 rA rD rP b4
       obtain ⟨a5, c5, rfl, -⟩ := id r_A_4.out
       obtain ⟨a6, c6, rfl, -⟩ := id r_X_4.out
       obtain ⟨a7, c7, rfl, -⟩ := id r_P_4.out
       have hso : w2.heap.size < w4.heap.size := heap_lt hq_o_4.out
       obtain ⟨x_q_0, x_q_1, x_q_2, x_q_3, x_q_4, x_q_5, x_q_6, x_q_7⟩ := box8f hq_q_4.out
       go_upto_region 10 with fail
       have hx5 := hid (heap_alloc_new w4 (Obj.cells #[.slice a5 B.length c5, .slice a6 E.length c6, .int .i64 r1, .int .i64 t1] 29))
       have hp5 := hid (alloc_keep (o := Obj.cells #[.slice a5 B.length c5, .slice a6 E.length c6, .int .i64 r1, .int .i64 t1] 29) hq_p_4.out)
       have ho5 := hid (alloc_keep (o := Obj.cells #[.slice a5 B.length c5, .slice a6 E.length c6, .int .i64 r1, .int .i64 t1] 29) hq_o_4.out)
       have hb5 := hid (b_alloc hb4.out (Obj.cells #[.slice a5 B.length c5, .slice a6 E.length c6, .int .i64 r1, .int .i64 t1] 29))
       have hc5 := hid (b_alloc hc4.out (Obj.cells #[.slice a5 B.length c5, .slice a6 E.length c6, .int .i64 r1, .int .i64 t1] 29))
       have rb5 := hid (RS.al EBlob.stable r_A_4.out (Obj.cells #[.slice a5 B.length c5, .slice a6 E.length c6, .int .i64 r1, .int .i64 t1] 29))
       have re5 := hid (RS.al EEntry.stable r_X_4.out (Obj.cells #[.slice a5 B.length c5, .slice a6 E.length c6, .int .i64 r1, .int .i64 t1] 29))
       have rp5 := hid (RS.al EPart.stable r_P_4.out (Obj.cells #[.slice a5 B.length c5, .slice a6 E.length c6, .int .i64 r1, .int .i64 t1] 29))
       generalize w4.alloc (Obj.cells #[.slice a5 B.length c5, .slice a6 E.length c6, .int .i64 r1, .int .i64 t1] 29) = w5 at *
       clear x_q_0 x_q_1 x_q_2 x_q_3 x_q_4 x_q_5 x_q_6 x_q_7 hq_q_4 hq_p_4 hq_o_4 hb4 hc4 r_R_4 r_E_4 r_G_4 r_F_4 r_A_4 r_X_4 r_P_4
       obtain ⟨z0, z1, z2, z3, z4, z5, z6, z7⟩ := box8f hp5.out
       have g0 := frozen_heap hp5.out 0
       have g1 := frozen_heap hp5.out 1
       have g2 := frozen_heap hp5.out 2
       have g3 := frozen_heap hp5.out 3
       have g4 := frozen_heap hp5.out 4
       have g5 := frozen_heap hp5.out 5
       have g6 := frozen_heap hp5.out 6
       have g7 := frozen_heap hp5.out 7
       go_wp2_with fail
       have hp9 := box8_set (u0 := .slice none 0 0) (u1 := .slice none 0 0) (u2 := .int .i64 0) (u3 := .int .i64 0) (u4 := .int .i64 0) (u5 := .slice none 0 0) (u6 := .string ⟨#[]⟩) (u7 := .slice none 0 0) hp5.out
       have hb9 := b_box8 (q := w.heap.size + 1) hb5.out qzexa_4 (.slice none 0 0) (.slice none 0 0) (.int .i64 0) (.int .i64 0) (.int .i64 0) (.slice none 0 0) (.string ⟨#[]⟩) (.slice none 0 0)
       exact qzexa_2
   | false =>
     clear hget hb
     by_cases hj : je = 0
     · subst hj
       have hd := hid (ask_joined (bad := bad) (ge := ge) (GS := GS) (GP := GP) (JL := JL) (JB := JB) (S := ⟨bs, es, r, t⟩) (C := ⟨ph, gy, pl⟩) (fl := fl))
       go_enter Tryz.func153, Tryz.ntmps153
       go_wp2_with fail
       ((with_reducible refine (hch.out _ (hR.out.mono EBlob.stable (b_alloc (b_alloc (Below.refl _ w) _) _)) (hE.out.mono EEntry.stable (b_alloc (b_alloc (Below.refl _ w) _) _)) (hG.out.mono EStr.stable (b_alloc (b_alloc (Below.refl _ w) _) _)) (hF.out.mono EFlight.stable (b_alloc (b_alloc (Below.refl _ w) _) _))).mono ?_); rintro e1 w1 ⟨rfl, b1⟩)
       have hq_q_1 := hid (stays b1 (hold (heap_put w _ (w.heap.size) (by simp))))
       have hq_p_1 := hid (stays b1 (heap_put _ _ (w.heap.size + 1) (by simp)))
       have hb1 := hid (b_call (b_alloc (b_alloc (Below.refl _ w) _) _) b1)
       have r_R_1 := hid (hR.out.mono EBlob.stable (b_call (b_alloc (b_alloc (Below.refl _ w) _) _) b1))
       have r_E_1 := hid (hE.out.mono EEntry.stable (b_call (b_alloc (b_alloc (Below.refl _ w) _) _) b1))
       have r_G_1 := hid (hG.out.mono EStr.stable (b_call (b_alloc (b_alloc (Below.refl _ w) _) _) b1))
       have r_F_1 := hid (hF.out.mono EFlight.stable (b_call (b_alloc (b_alloc (Below.refl _ w) _) _) b1))
       clear b1
       obtain ⟨x_q_0, x_q_1, x_q_2, x_q_3, x_q_4, x_q_5, x_q_6, x_q_7⟩ := box8f hq_q_1.out
       go_wp2_with fail
       ((with_reducible refine (hcp.out _ r_R_1.out r_E_1.out r_G_1.out r_F_1.out).mono ?_); rintro e2 w2 ⟨v1, v2, v3, v4, rfl, k1, k2, k3, k4, b2⟩)
       clear x_q_0 x_q_1 x_q_2 x_q_3 x_q_4 x_q_5 x_q_6 x_q_7
       have hq_q_2 := hid (stays b2 hq_q_1.out)
       have hq_p_2 := hid (stays b2 hq_p_1.out)
       have hb2 := hid (b_call hb1.out b2)
       have r_R_2 := hid (r_R_1.out.mono EBlob.stable (b_call (Below.refl w1.heap.size w1) b2))
       have r_E_2 := hid (r_E_1.out.mono EEntry.stable (b_call (Below.refl w1.heap.size w1) b2))
       have r_G_2 := hid (r_G_1.out.mono EStr.stable (b_call (Below.refl w1.heap.size w1) b2))
       have r_F_2 := hid (r_F_1.out.mono EFlight.stable (b_call (Below.refl w1.heap.size w1) b2))
       have hsb : w.heap.size + 1 < w1.heap.size := heap_lt hq_p_1.out
       have hs12 := b2.size
       clear hq_q_1 hq_p_1 hb1 r_R_1 r_E_1 r_G_1 r_F_1 b2
       obtain ⟨b5, d5, rfl⟩ := OX.lenOf k1
       obtain ⟨b6, d6, rfl⟩ := OX.lenOf k2
       obtain ⟨b8, d8, rfl⟩ := OX.lenOf k4
       obtain ⟨b7, d7, rfl, -⟩ := id (OS.len_le k3)
       have rb2 := hid (k1.toR hre hf1.out)
       have re2 := hid (k2.toR hre2 hf2.out)
       replace k3 := hid k3
       replace k4 := hid k4
       clear k1 k2
       obtain ⟨x_q_0, x_q_1, x_q_2, x_q_3, x_q_4, x_q_5, x_q_6, x_q_7⟩ := box8f hq_q_2.out
       have l_q := heap_lt hq_q_2.out
       go_wp2_with fail
       ((with_reducible refine (hfind.out _ (r_E_2.out.mono EEntry.stable (b_alloc (Below.refl w2.heap.size w2) _))).mono ?_); rintro e3 w3 ⟨rfl, b3⟩)
       clear x_q_0 x_q_1 x_q_2 x_q_3 x_q_4 x_q_5 x_q_6 x_q_7 l_q
       have hq_o_3 := hid (stays b3 (heap_alloc_new w2 _))
       have hq_q_3 := hid (stays b3 (hold hq_q_2.out))
       have hq_p_3 := hid (stays b3 (hold hq_p_2.out))
       have hb3 := hid (b_call (b_alloc hb2.out _) b3)
       have r_R_3 := hid (r_R_2.out.mono EBlob.stable (b_call (b_alloc (Below.refl w2.heap.size w2) _) b3))
       have r_E_3 := hid (r_E_2.out.mono EEntry.stable (b_call (b_alloc (Below.refl w2.heap.size w2) _) b3))
       have r_G_3 := hid (r_G_2.out.mono EStr.stable (b_call (b_alloc (Below.refl w2.heap.size w2) _) b3))
       have r_F_3 := hid (r_F_2.out.mono EFlight.stable (b_call (b_alloc (Below.refl w2.heap.size w2) _) b3))
       have hc3 := hid (b_call (b_alloc (Below.refl w2.heap.size w2) _) b3)
       clear hq_q_2 hq_p_2 hb2 r_R_2 r_E_2 r_G_2 r_F_2 b3
       obtain ⟨x_q_0, x_q_1, x_q_2, x_q_3, x_q_4, x_q_5, x_q_6, x_q_7⟩ := box8f hq_q_3.out
       go_wp2_with fail
       ((with_reducible refine (hjoin.out _ r_F_3.out).mono ?_); rintro e4 w4 ⟨v9, rfl, rJ, oJ, b4⟩)
       clear x_q_0 x_q_1 x_q_2 x_q_3 x_q_4 x_q_5 x_q_6 x_q_7
       have hq_o_4 := hid (stays b4 hq_o_3.out)
       have hq_q_4 := hid (stays b4 hq_q_3.out)
       have hq_p_4 := hid (stays b4 hq_p_3.out)
       have hb4 := hid (b_call hb3.out b4)
       have r_R_4 := hid (r_R_3.out.mono EBlob.stable (b_call (Below.refl w3.heap.size w3) b4))
       have r_E_4 := hid (r_E_3.out.mono EEntry.stable (b_call (Below.refl w3.heap.size w3) b4))
       have r_G_4 := hid (r_G_3.out.mono EStr.stable (b_call (Below.refl w3.heap.size w3) b4))
       have r_F_4 := hid (r_F_3.out.mono EFlight.stable (b_call (Below.refl w3.heap.size w3) b4))
       have r_J_4 := hid rJ
       have hc4 := hid (b_call hc3.out b4)
       have hso : w2.heap.size < w3.heap.size := heap_lt hq_o_3.out
       replace oJ : Hid (OFlight w4 w3.heap.size _ JL) := hid oJ
       clear hq_o_3 hq_q_3 hq_p_3 hb3 r_R_3 r_E_3 r_G_3 r_F_3 rJ b4
       obtain ⟨a9, c9, rfl, -⟩ := id r_J_4.out
       obtain ⟨x_q_0, x_q_1, x_q_2, x_q_3, x_q_4, x_q_5, x_q_6, x_q_7⟩ := box8f hq_q_4.out
       obtain ⟨x_o_0, x_o_1, x_o_2, x_o_3, x_o_4, x_o_5, x_o_6, x_o_7⟩ := box8f hq_o_4.out
       have l_o := heap_lt hq_o_4.out
       have g_o_0 := frozen_heap hq_o_4.out 0
       have g_o_1 := frozen_heap hq_o_4.out 1
       have g_o_2 := frozen_heap hq_o_4.out 2
       have g_o_3 := frozen_heap hq_o_4.out 3
       have g_o_4 := frozen_heap hq_o_4.out 4
       have g_o_5 := frozen_heap hq_o_4.out 5
       have g_o_6 := frozen_heap hq_o_4.out 6
       have g_o_7 := frozen_heap hq_o_4.out 7
       go_upto_region 18 with fail
       have ho5 := hid (l8_7 (u := .slice a9 JL.length c9) hq_o_4.out)
       have hp5 := hid (box_other (q := w2.heap.size) (o := 7) (u := .slice a9 JL.length c9) hq_p_4.out qzexa_4)
       have hb5 := hid (b_set (p := ⟨w2.heap.size, 7, none⟩) hb4.out (show w.heap.size ≤ w2.heap.size by omega) (.slice a9 JL.length c9))
       have hc5 := hid (b_set (p := ⟨w2.heap.size, 7, none⟩) hc4.out (Nat.le_refl _) (.slice a9 JL.length c9))
       have of5 := hid (OFlight.set (u := .slice a9 JL.length c9) (o := 7) oJ.out hso)
       have bf := hid (And.intro (rf_bound r_J_4.out) (fit_F r_J_4.out))
       clear x_q_0 x_q_1 x_q_2 x_q_3 x_q_4 x_q_5 x_q_6 x_q_7 x_o_0 x_o_1 x_o_2 x_o_3 x_o_4 x_o_5 x_o_6 x_o_7 l_o g_o_0 g_o_1 g_o_2 g_o_3 g_o_4 g_o_5 g_o_6 g_o_7 hq_q_4 hq_p_4 hq_o_4 hb4 hc4 r_R_4 r_E_4 r_G_4 r_F_4 r_J_4 oJ
       generalize (w4.setCell ⟨w2.heap.size, 7, none⟩ (.slice a9 JL.length c9)) = w5 at *
       have rb5 := hid (rb2.out.mono EBlob.stable hc5.out)
       have re5 := hid (re2.out.mono EEntry.stable hc5.out)
       have og5 := hid (OS.below k3.out hc5.out)
       obtain ⟨o0, o1, o2, o3, o4, o5, o6, o7⟩ := box8f ho5.out
       obtain ⟨z0, z1, z2, z3, z4, z5, z6, z7⟩ := box8f hp5.out
       have g0 := frozen_heap hp5.out 0
       have g1 := frozen_heap hp5.out 1
       have g2 := frozen_heap hp5.out 2
       have g3 := frozen_heap hp5.out 3
       have g4 := frozen_heap hp5.out 4
       have g5 := frozen_heap hp5.out 5
       have g6 := frozen_heap hp5.out 6
       have g7 := frozen_heap hp5.out 7
       go_wp2_with fail
       have hp9 := box8_set (u0 := .slice b5 bs.length d5) (u1 := .slice b6 es.length d6) (u2 := .int .i64 r) (u3 := .int .i64 t) (u4 := .int .i64 ph) (u5 := .slice b7 gy.length d7) (u6 := .string pl) (u7 := .slice a9 JL.length c9) hp5.out
       have hb9 := b_box8 (q := w.heap.size + 1) hb5.out qzexa_4 (.slice b5 bs.length d5) (.slice b6 es.length d6) (.int .i64 r) (.int .i64 t) (.int .i64 ph) (.slice b7 gy.length d7) (.string pl) (.slice a9 JL.length c9)
       have lb9 : LBox _ _ := ⟨_, _, _, _, _, _, _, _, _, _, _, _, _, _, _, _, _, hp5.out⟩
       have rl9 := rs_b8 EBlob.writesL rb5.out lb9 b5 bs.length d5 b6 es.length d6 r t ph b7 gy.length d7 pl (.slice a9 JL.length c9)
       have re9 := rs_b8 EEntry.writesL re5.out lb9 b5 bs.length d5 b6 es.length d6 r t ph b7 gy.length d7 pl (.slice a9 JL.length c9)
       have oto9 := OS.box8 (q := w.heap.size + 1) (u0 := .slice b5 bs.length d5) (u1 := .slice b6 es.length d6) (u2 := .int .i64 r) (u3 := .int .i64 t) (u4 := .int .i64 ph) (u5 := .slice b7 gy.length d7) (u6 := .string pl) (u7 := .slice a9 JL.length c9) og5.out qzexa_4
       have ofo9 := OFlight.box8 (q := w.heap.size + 1) (u0 := .slice b5 bs.length d5) (u1 := .slice b6 es.length d6) (u2 := .int .i64 r) (u3 := .int .i64 t) (u4 := .int .i64 ph) (u5 := .slice b7 gy.length d7) (u6 := .string pl) (u7 := .slice a9 JL.length c9) of5.out qzexa_4
       have ot9 := reads_str oto9 hgb.out hgs.out
       have of9 := ofo9.toR bf.out.1 bf.out.2
       obtain ⟨m0, m1, m2, m3, m4, m5, m6, m7⟩ := box8f hp9
       unfold box8 at *
       (try simp only [Exit.inBlock, Exit.then])
       refine bodyPost_ret qzexa_3 rfl ?_
       with_reducible exact ak_ok hd.out rl9 re9 ot9 of9 RS.nil qzexa_4 qzexa_4 oto9 ofo9 hb9
     have hd := hid (ask_join (bad := bad) (ge := ge) (GS := GS) (GP := GP) (JL := JL) (JB := JB) (S := ⟨bs, es, r, t⟩) (C := ⟨ph, gy, pl⟩) (fl := fl) hj)
     have q1 : (je != 0) = true := by simp [hj]
     replace hj := hid hj
     go_enter Tryz.func153, Tryz.ntmps153
     go_wp2_with fail
     ((with_reducible refine (hch.out _ (hR.out.mono EBlob.stable (b_alloc (b_alloc (Below.refl _ w) _) _)) (hE.out.mono EEntry.stable (b_alloc (b_alloc (Below.refl _ w) _) _)) (hG.out.mono EStr.stable (b_alloc (b_alloc (Below.refl _ w) _) _)) (hF.out.mono EFlight.stable (b_alloc (b_alloc (Below.refl _ w) _) _))).mono ?_); rintro e1 w1 ⟨rfl, b1⟩)
     have hq_q_1 := hid (stays b1 (hold (heap_put w _ (w.heap.size) (by simp))))
     have hq_p_1 := hid (stays b1 (heap_put _ _ (w.heap.size + 1) (by simp)))
     have hb1 := hid (b_call (b_alloc (b_alloc (Below.refl _ w) _) _) b1)
     have r_R_1 := hid (hR.out.mono EBlob.stable (b_call (b_alloc (b_alloc (Below.refl _ w) _) _) b1))
     have r_E_1 := hid (hE.out.mono EEntry.stable (b_call (b_alloc (b_alloc (Below.refl _ w) _) _) b1))
     have r_G_1 := hid (hG.out.mono EStr.stable (b_call (b_alloc (b_alloc (Below.refl _ w) _) _) b1))
     have r_F_1 := hid (hF.out.mono EFlight.stable (b_call (b_alloc (b_alloc (Below.refl _ w) _) _) b1))
     clear b1
     obtain ⟨x_q_0, x_q_1, x_q_2, x_q_3, x_q_4, x_q_5, x_q_6, x_q_7⟩ := box8f hq_q_1.out
     go_wp2_with fail
     ((with_reducible refine (hcp.out _ r_R_1.out r_E_1.out r_G_1.out r_F_1.out).mono ?_); rintro e2 w2 ⟨v1, v2, v3, v4, rfl, k1, k2, k3, k4, b2⟩)
     clear x_q_0 x_q_1 x_q_2 x_q_3 x_q_4 x_q_5 x_q_6 x_q_7
     have hq_q_2 := hid (stays b2 hq_q_1.out)
     have hq_p_2 := hid (stays b2 hq_p_1.out)
     have hb2 := hid (b_call hb1.out b2)
     have r_R_2 := hid (r_R_1.out.mono EBlob.stable (b_call (Below.refl w1.heap.size w1) b2))
     have r_E_2 := hid (r_E_1.out.mono EEntry.stable (b_call (Below.refl w1.heap.size w1) b2))
     have r_G_2 := hid (r_G_1.out.mono EStr.stable (b_call (Below.refl w1.heap.size w1) b2))
     have r_F_2 := hid (r_F_1.out.mono EFlight.stable (b_call (Below.refl w1.heap.size w1) b2))
     have hsb : w.heap.size + 1 < w1.heap.size := heap_lt hq_p_1.out
     have hs12 := b2.size
     clear hq_q_1 hq_p_1 hb1 r_R_1 r_E_1 r_G_1 r_F_1 b2
     obtain ⟨b5, d5, rfl⟩ := OX.lenOf k1
     obtain ⟨b6, d6, rfl⟩ := OX.lenOf k2
     obtain ⟨b8, d8, rfl⟩ := OX.lenOf k4
     obtain ⟨b7, d7, rfl, -⟩ := id (OS.len_le k3)
     have rb2 := hid (k1.toR hre hf1.out)
     have re2 := hid (k2.toR hre2 hf2.out)
     replace k3 := hid k3
     replace k4 := hid k4
     clear k1 k2
     obtain ⟨x_q_0, x_q_1, x_q_2, x_q_3, x_q_4, x_q_5, x_q_6, x_q_7⟩ := box8f hq_q_2.out
     have l_q := heap_lt hq_q_2.out
     go_wp2_with fail
     ((with_reducible refine (hfind.out _ (r_E_2.out.mono EEntry.stable (b_alloc (Below.refl w2.heap.size w2) _))).mono ?_); rintro e3 w3 ⟨rfl, b3⟩)
     clear x_q_0 x_q_1 x_q_2 x_q_3 x_q_4 x_q_5 x_q_6 x_q_7 l_q
     have hq_o_3 := hid (stays b3 (heap_alloc_new w2 _))
     have hq_q_3 := hid (stays b3 (hold hq_q_2.out))
     have hq_p_3 := hid (stays b3 (hold hq_p_2.out))
     have hb3 := hid (b_call (b_alloc hb2.out _) b3)
     have r_R_3 := hid (r_R_2.out.mono EBlob.stable (b_call (b_alloc (Below.refl w2.heap.size w2) _) b3))
     have r_E_3 := hid (r_E_2.out.mono EEntry.stable (b_call (b_alloc (Below.refl w2.heap.size w2) _) b3))
     have r_G_3 := hid (r_G_2.out.mono EStr.stable (b_call (b_alloc (Below.refl w2.heap.size w2) _) b3))
     have r_F_3 := hid (r_F_2.out.mono EFlight.stable (b_call (b_alloc (Below.refl w2.heap.size w2) _) b3))
     have hc3 := hid (b_call (b_alloc (Below.refl w2.heap.size w2) _) b3)
     clear hq_q_2 hq_p_2 hb2 r_R_2 r_E_2 r_G_2 r_F_2 b3
     obtain ⟨x_q_0, x_q_1, x_q_2, x_q_3, x_q_4, x_q_5, x_q_6, x_q_7⟩ := box8f hq_q_3.out
     go_wp2_with fail
     ((with_reducible refine (hjoin.out _ r_F_3.out).mono ?_); rintro e4 w4 ⟨v9, rfl, rJ, oJ, b4⟩)
     clear x_q_0 x_q_1 x_q_2 x_q_3 x_q_4 x_q_5 x_q_6 x_q_7
     have hq_o_4 := hid (stays b4 hq_o_3.out)
     have hq_q_4 := hid (stays b4 hq_q_3.out)
     have hq_p_4 := hid (stays b4 hq_p_3.out)
     have hb4 := hid (b_call hb3.out b4)
     have r_R_4 := hid (r_R_3.out.mono EBlob.stable (b_call (Below.refl w3.heap.size w3) b4))
     have r_E_4 := hid (r_E_3.out.mono EEntry.stable (b_call (Below.refl w3.heap.size w3) b4))
     have r_G_4 := hid (r_G_3.out.mono EStr.stable (b_call (Below.refl w3.heap.size w3) b4))
     have r_F_4 := hid (r_F_3.out.mono EFlight.stable (b_call (Below.refl w3.heap.size w3) b4))
     have r_J_4 := hid rJ
     have hc4 := hid (b_call hc3.out b4)
     have hso : w2.heap.size < w3.heap.size := heap_lt hq_o_3.out
     replace oJ : Hid (OFlight w4 w3.heap.size _ JL) := hid oJ
     clear hq_o_3 hq_q_3 hq_p_3 hb3 r_R_3 r_E_3 r_G_3 r_F_3 rJ b4
     obtain ⟨a9, c9, rfl, -⟩ := id r_J_4.out
     obtain ⟨x_q_0, x_q_1, x_q_2, x_q_3, x_q_4, x_q_5, x_q_6, x_q_7⟩ := box8f hq_q_4.out
     obtain ⟨x_p_0, x_p_1, x_p_2, x_p_3, x_p_4, x_p_5, x_p_6, x_p_7⟩ := box8f hq_p_4.out
     have l_p := heap_lt hq_p_4.out
     have g_p_0 := frozen_heap hq_p_4.out 0
     have g_p_1 := frozen_heap hq_p_4.out 1
     have g_p_2 := frozen_heap hq_p_4.out 2
     have g_p_3 := frozen_heap hq_p_4.out 3
     have g_p_4 := frozen_heap hq_p_4.out 4
     have g_p_5 := frozen_heap hq_p_4.out 5
     have g_p_6 := frozen_heap hq_p_4.out 6
     have g_p_7 := frozen_heap hq_p_4.out 7
     go_wp2_with fail
     have hp9 := box8_set (u0 := .slice none 0 0) (u1 := .slice none 0 0) (u2 := .int .i64 0) (u3 := .int .i64 0) (u4 := .int .i64 0) (u5 := .slice none 0 0) (u6 := .string ⟨#[]⟩) (u7 := .slice none 0 0) hq_p_4.out
     have hb9 := b_box8 (q := w.heap.size + 1) hb4.out qzexa_4 (.slice none 0 0) (.slice none 0 0) (.int .i64 0) (.int .i64 0) (.int .i64 0) (.slice none 0 0) (.string ⟨#[]⟩) (.slice none 0 0)
     exact qzexa_2
 have ht : (z != 0) = true := by simp [hz]
 have hd := hid (ask_bad (f := f) (bad := bad) (ge := ge) (GS := GS) (GP := GP) (je := je) (JL := JL) (JB := JB) (S := ⟨bs, es, r, t⟩) (C := ⟨ph, gy, pl⟩) (fl := fl) hz)
 replace hz := hid hz
 clear hget hfind hcp hjoin hf hb
 go_enter Tryz.func153, Tryz.ntmps153
 go_wp2_with fail
 ((with_reducible refine (hch.out _ (hR.out.mono EBlob.stable (b_alloc (b_alloc (Below.refl _ w) _) _)) (hE.out.mono EEntry.stable (b_alloc (b_alloc (Below.refl _ w) _) _)) (hG.out.mono EStr.stable (b_alloc (b_alloc (Below.refl _ w) _) _)) (hF.out.mono EFlight.stable (b_alloc (b_alloc (Below.refl _ w) _) _))).mono ?_); rintro e1 w1 ⟨rfl, b1⟩)
 have hq_q_1 := hid (stays b1 (hold (heap_put w _ (w.heap.size) (by simp))))
 have hq_p_1 := hid (stays b1 (heap_put _ _ (w.heap.size + 1) (by simp)))
 have hb1 := hid (b_call (b_alloc (b_alloc (Below.refl _ w) _) _) b1)
 have r_R_1 := hid (hR.out.mono EBlob.stable (b_call (b_alloc (b_alloc (Below.refl _ w) _) _) b1))
 have r_E_1 := hid (hE.out.mono EEntry.stable (b_call (b_alloc (b_alloc (Below.refl _ w) _) _) b1))
 have r_G_1 := hid (hG.out.mono EStr.stable (b_call (b_alloc (b_alloc (Below.refl _ w) _) _) b1))
 have r_F_1 := hid (hF.out.mono EFlight.stable (b_call (b_alloc (b_alloc (Below.refl _ w) _) _) b1))
 clear b1
 obtain ⟨x_q_0, x_q_1, x_q_2, x_q_3, x_q_4, x_q_5, x_q_6, x_q_7⟩ := box8f hq_q_1.out
 obtain ⟨x_p_0, x_p_1, x_p_2, x_p_3, x_p_4, x_p_5, x_p_6, x_p_7⟩ := box8f hq_p_1.out
 have l_p := heap_lt hq_p_1.out
 have g_p_0 := frozen_heap hq_p_1.out 0
 have g_p_1 := frozen_heap hq_p_1.out 1
 have g_p_2 := frozen_heap hq_p_1.out 2
 have g_p_3 := frozen_heap hq_p_1.out 3
 have g_p_4 := frozen_heap hq_p_1.out 4
 have g_p_5 := frozen_heap hq_p_1.out 5
 have g_p_6 := frozen_heap hq_p_1.out 6
 have g_p_7 := frozen_heap hq_p_1.out 7
 go_wp2_with fail
 have hp9 := box8_set (u0 := .slice none 0 0) (u1 := .slice none 0 0) (u2 := .int .i64 0) (u3 := .int .i64 0) (u4 := .int .i64 0) (u5 := .slice none 0 0) (u6 := .string ⟨#[]⟩) (u7 := .slice none 0 0) hq_p_1.out
 have hb9 := b_box8 (q := w.heap.size + 1) hb1.out qzexa_4 (.slice none 0 0) (.slice none 0 0) (.int .i64 0) (.int .i64 0) (.int .i64 0) (.slice none 0 0) (.string ⟨#[]⟩) (.slice none 0 0)
 exact qzexa_2
end Go.Proofs.YtpkpgehiplhkpaaGreat
