/-
  The law MarkBegins: its walk. Printed by gen_mbw.py.
-/
import Derived.Test.YtojebioolflbkaaGreatMbX
import Derived.Test.YtojebioolflbkaaGreatCon
import Derived.Test.YtojebioolflbkaaGreatRti
import Derived.Test.YtojebioolflbkaaGreatRtr
namespace Go.Proofs.YtojebioolflbkaaGreat
open Go.RowKit

theorem mark_Begin (v u : Value) (bs : List Blob) (es : List Entry) (r t : Int) (w : World) (h : RBl w v bs) (g : RE w u es) :
    Calls Tryz.prog 11 #[.agg #[v, u, .int .i64 r, .int .i64 t]] w (CoRes (begOut (storeFault bs es r t) bs es r t) w) :=
  mark_Begin' v u bs es r t w h g _ (fun w h g => store_Check v u bs es r t w h g) (fun hz w h g => reach_Roots v u bs es r t w h g (by have := (store_small hz).2.2; omega))
theorem ref_MarkBegun (v u : Value) (bs : List Blob) (es : List Entry) (r t : Int) (w : World) (h : RBl w v bs) (g : RE w u es) :
    Calls Tryz.prog 13 #[.agg #[v, u, .int .i64 r, .int .i64 t]] w (CoRes (begOut (storeFault bs es r t) bs es r t) w) :=
  ref_MarkBegun' v u bs es r t w h g _ (fun w h g => ref_StoreFault v u bs es r t w h g) (fun hz w h g => ref_ReachRoots v u bs es r t w h g (by have := (store_small hz).2.2; omega))

set_option maxRecDepth 100000 in
set_option maxHeartbeats 2000000 in
theorem MarkBegins_walk' (v u vg vm : Value) (bs : List Blob) (es : List Entry) (r t : Int) (gy mo : List ByteArray) (w : World) (h : RBl w v bs) (g : RE w u es) (hg : RT w vg gy) (hm : RT w vm mo) (hl : (gy.length + mo.length) * 16 ≤ 140737488351232) :
    Calls Tryz.prog 3 #[.agg #[v, u, .int .i64 r, .int .i64 t], vg, vm] w fun e w' => e = .returned (.bool true) ∧ Below w.heap.size w w' := by
  have hsz : ∀ s ∈ gy ++ mo, s.size ≤ 140737488351232 := fun s h => (List.mem_append.1 h).elim (rt_sizes hg s) (rt_sizes hm s)
  have f1 := hid fun w (h : RBl w v bs) (g : RE w u es) => mark_Begin v u bs es r t w h g
  have f2 := hid fun w (h : RBl w v bs) (g : RE w u es) => ref_MarkBegun v u bs es r t w h g
  have f3 := hid fun w (h : RT w vg gy) (g : RT w vm mo) => mark_Add vg vm gy mo w h g hl hsz
  have f4 := hid fun w (h : RT w vg gy) (g : RT w vm mo) => ref_MarkAdded vg vm gy mo w h g hl hsz
  have hR := hid h
  have hE := hid g
  have hY := hid hg
  have hM := hid hm
  obtain ⟨a, c, rfl, -⟩ := h
  obtain ⟨a2, c2, rfl, -⟩ := g
  obtain ⟨ga, gc, rfl, -⟩ := hg
  obtain ⟨ma, mc, rfl, -⟩ := hm
  unfold CoRes VS at f1 f2
  unfold AddPost at f3 f4
  generalize addedL gy mo = AL at *
  generalize begOut (storeFault bs es r t) bs es r t = S1 at *
  obtain ⟨err, ⟨B1, E1, r1, t1⟩, ⟨p1, G1, s1⟩⟩ := S1
  simp only at f1 f2
  clear hsz
  go_enter Tryz.func3, Tryz.ntmps3
  go_wp2_with fail
  ((with_reducible refine (f1.out _ (hR.out.mono EBlob.stable (b_alloc (Below.refl w.heap.size w) (Obj.cells #[.slice a bs.length c, .slice a2 es.length c2, .int .i64 r, .int .i64 t] 25))) (hE.out.mono EEntry.stable (b_alloc (Below.refl w.heap.size w) (Obj.cells #[.slice a bs.length c, .slice a2 es.length c2, .int .i64 r, .int .i64 t] 25)))).mono ?_); rintro e1 w1 ⟨_, _, rfl, ⟨A1, D1, rfl, ra1, rd1⟩, rg1, b1⟩)
  have hq_q_1 := hid (stays b1 (heap_alloc_new w (Obj.cells #[.slice a bs.length c, .slice a2 es.length c2, .int .i64 r, .int .i64 t] 25)))
  have hb1 := hid (b_call (b_alloc (Below.refl w.heap.size w) (Obj.cells #[.slice a bs.length c, .slice a2 es.length c2, .int .i64 r, .int .i64 t] 25)) b1)
  have r_R_1 := hid (hR.out.mono EBlob.stable (b_call (b_alloc (Below.refl w.heap.size w) (Obj.cells #[.slice a bs.length c, .slice a2 es.length c2, .int .i64 r, .int .i64 t] 25)) b1))
  have r_E_1 := hid (hE.out.mono EEntry.stable (b_call (b_alloc (Below.refl w.heap.size w) (Obj.cells #[.slice a bs.length c, .slice a2 es.length c2, .int .i64 r, .int .i64 t] 25)) b1))
  have r_Y_1 := hid (hY.out.mono EStr.stable (b_call (b_alloc (Below.refl w.heap.size w) (Obj.cells #[.slice a bs.length c, .slice a2 es.length c2, .int .i64 r, .int .i64 t] 25)) b1))
  have r_M_1 := hid (hM.out.mono EStr.stable (b_call (b_alloc (Below.refl w.heap.size w) (Obj.cells #[.slice a bs.length c, .slice a2 es.length c2, .int .i64 r, .int .i64 t] 25)) b1))
  have r_a1_1 := hid ra1
  have r_d1_1 := hid rd1
  have r_g1_1 := hid rg1
  clear ra1 rd1 rg1 b1
  obtain ⟨a_1, c_1, rfl, -⟩ := id r_a1_1.out
  obtain ⟨e_1, d_1, rfl, -⟩ := id r_d1_1.out
  obtain ⟨g_1, h_1, rfl, -⟩ := id r_g1_1.out
  obtain ⟨x_q_0, x_q_1, x_q_2, x_q_3⟩ := box4f hq_q_1.out
  have l_q := heap_lt hq_q_1.out
  go_wp2_with fail
  ((with_reducible refine (f3.out _ (r_Y_1.out.mono EStr.stable (b_alloc (b_alloc (Below.refl w1.heap.size w1) (Obj.cells #[.slice a_1 B1.length c_1, .slice e_1 E1.length d_1, .int .i64 r1, .int .i64 t1] 25)) (Obj.cells #[.int .i64 p1, .slice g_1 G1.length h_1, .string s1] 28))) (r_M_1.out.mono EStr.stable (b_alloc (b_alloc (Below.refl w1.heap.size w1) (Obj.cells #[.slice a_1 B1.length c_1, .slice e_1 E1.length d_1, .int .i64 r1, .int .i64 t1] 25)) (Obj.cells #[.int .i64 p1, .slice g_1 G1.length h_1, .string s1] 28)))).mono ?_); rintro e2 w2 ⟨v1, rfl, rl1, b2⟩)
  clear x_q_0 x_q_1 x_q_2 x_q_3 l_q
  have hq_x1_2 := hid (stays b2 ((heap_alloc_old (w1.alloc (Obj.cells #[.slice a_1 B1.length c_1, .slice e_1 E1.length d_1, .int .i64 r1, .int .i64 t1] 25)) (Obj.cells #[.int .i64 p1, .slice g_1 G1.length h_1, .string s1] 28) (heap_lt (heap_put w1 (Obj.cells #[.slice a_1 B1.length c_1, .slice e_1 E1.length d_1, .int .i64 r1, .int .i64 t1] 25) (w1.heap.size) (by simp)))).trans (heap_put w1 (Obj.cells #[.slice a_1 B1.length c_1, .slice e_1 E1.length d_1, .int .i64 r1, .int .i64 t1] 25) (w1.heap.size) (by simp))))
  have hq_n1_2 := hid (stays b2 (heap_put (w1.alloc (Obj.cells #[.slice a_1 B1.length c_1, .slice e_1 E1.length d_1, .int .i64 r1, .int .i64 t1] 25)) (Obj.cells #[.int .i64 p1, .slice g_1 G1.length h_1, .string s1] 28) (w1.heap.size + 1) (by simp)))
  have hq_q_2 := hid (stays b2 ((heap_alloc_old (w1.alloc (Obj.cells #[.slice a_1 B1.length c_1, .slice e_1 E1.length d_1, .int .i64 r1, .int .i64 t1] 25)) (Obj.cells #[.int .i64 p1, .slice g_1 G1.length h_1, .string s1] 28) (heap_lt ((heap_alloc_old w1 (Obj.cells #[.slice a_1 B1.length c_1, .slice e_1 E1.length d_1, .int .i64 r1, .int .i64 t1] 25) (heap_lt hq_q_1.out)).trans hq_q_1.out))).trans ((heap_alloc_old w1 (Obj.cells #[.slice a_1 B1.length c_1, .slice e_1 E1.length d_1, .int .i64 r1, .int .i64 t1] 25) (heap_lt hq_q_1.out)).trans hq_q_1.out)))
  have hb2 := hid (b_call (b_alloc (b_alloc hb1.out (Obj.cells #[.slice a_1 B1.length c_1, .slice e_1 E1.length d_1, .int .i64 r1, .int .i64 t1] 25)) (Obj.cells #[.int .i64 p1, .slice g_1 G1.length h_1, .string s1] 28)) b2)
  have r_R_2 := hid (r_R_1.out.mono EBlob.stable (b_call (b_alloc (b_alloc (Below.refl w1.heap.size w1) (Obj.cells #[.slice a_1 B1.length c_1, .slice e_1 E1.length d_1, .int .i64 r1, .int .i64 t1] 25)) (Obj.cells #[.int .i64 p1, .slice g_1 G1.length h_1, .string s1] 28)) b2))
  have r_E_2 := hid (r_E_1.out.mono EEntry.stable (b_call (b_alloc (b_alloc (Below.refl w1.heap.size w1) (Obj.cells #[.slice a_1 B1.length c_1, .slice e_1 E1.length d_1, .int .i64 r1, .int .i64 t1] 25)) (Obj.cells #[.int .i64 p1, .slice g_1 G1.length h_1, .string s1] 28)) b2))
  have r_Y_2 := hid (r_Y_1.out.mono EStr.stable (b_call (b_alloc (b_alloc (Below.refl w1.heap.size w1) (Obj.cells #[.slice a_1 B1.length c_1, .slice e_1 E1.length d_1, .int .i64 r1, .int .i64 t1] 25)) (Obj.cells #[.int .i64 p1, .slice g_1 G1.length h_1, .string s1] 28)) b2))
  have r_M_2 := hid (r_M_1.out.mono EStr.stable (b_call (b_alloc (b_alloc (Below.refl w1.heap.size w1) (Obj.cells #[.slice a_1 B1.length c_1, .slice e_1 E1.length d_1, .int .i64 r1, .int .i64 t1] 25)) (Obj.cells #[.int .i64 p1, .slice g_1 G1.length h_1, .string s1] 28)) b2))
  have r_a1_2 := hid (r_a1_1.out.mono EBlob.stable (b_call (b_alloc (b_alloc (Below.refl w1.heap.size w1) (Obj.cells #[.slice a_1 B1.length c_1, .slice e_1 E1.length d_1, .int .i64 r1, .int .i64 t1] 25)) (Obj.cells #[.int .i64 p1, .slice g_1 G1.length h_1, .string s1] 28)) b2))
  have r_d1_2 := hid (r_d1_1.out.mono EEntry.stable (b_call (b_alloc (b_alloc (Below.refl w1.heap.size w1) (Obj.cells #[.slice a_1 B1.length c_1, .slice e_1 E1.length d_1, .int .i64 r1, .int .i64 t1] 25)) (Obj.cells #[.int .i64 p1, .slice g_1 G1.length h_1, .string s1] 28)) b2))
  have r_g1_2 := hid (r_g1_1.out.mono EStr.stable (b_call (b_alloc (b_alloc (Below.refl w1.heap.size w1) (Obj.cells #[.slice a_1 B1.length c_1, .slice e_1 E1.length d_1, .int .i64 r1, .int .i64 t1] 25)) (Obj.cells #[.int .i64 p1, .slice g_1 G1.length h_1, .string s1] 28)) b2))
  have r_l1_2 := hid rl1
  clear hq_q_1 hb1 r_R_1 r_E_1 r_Y_1 r_M_1 r_a1_1 r_d1_1 r_g1_1 rl1 b2
  obtain ⟨x_x1_0, x_x1_1, x_x1_2, x_x1_3⟩ := box4f hq_x1_2.out
  have l_x1 := heap_lt hq_x1_2.out
  obtain ⟨x_n1_0, x_n1_1, x_n1_2, -⟩ := box3f hq_n1_2.out
  have l_n1 := heap_lt hq_n1_2.out
  obtain ⟨x_q_0, x_q_1, x_q_2, x_q_3⟩ := box4f hq_q_2.out
  have l_q := heap_lt hq_q_2.out
  go_wp2_with fail
  ((with_reducible refine (f2.out _ r_R_2.out r_E_2.out).mono ?_); rintro e3 w3 ⟨_, _, rfl, ⟨A2, D2, rfl, ra2, rd2⟩, rg2, b3⟩)
  clear x_x1_0 x_x1_1 x_x1_2 x_x1_3 l_x1 x_n1_0 x_n1_1 x_n1_2 l_n1 x_q_0 x_q_1 x_q_2 x_q_3 l_q
  have hq_x1_3 := hid (stays b3 hq_x1_2.out)
  have hq_n1_3 := hid (stays b3 hq_n1_2.out)
  have hq_q_3 := hid (stays b3 hq_q_2.out)
  have hb3 := hid (b_call hb2.out b3)
  have r_R_3 := hid (r_R_2.out.mono EBlob.stable (b_call (Below.refl w2.heap.size w2) b3))
  have r_E_3 := hid (r_E_2.out.mono EEntry.stable (b_call (Below.refl w2.heap.size w2) b3))
  have r_Y_3 := hid (r_Y_2.out.mono EStr.stable (b_call (Below.refl w2.heap.size w2) b3))
  have r_M_3 := hid (r_M_2.out.mono EStr.stable (b_call (Below.refl w2.heap.size w2) b3))
  have r_a1_3 := hid (r_a1_2.out.mono EBlob.stable (b_call (Below.refl w2.heap.size w2) b3))
  have r_d1_3 := hid (r_d1_2.out.mono EEntry.stable (b_call (Below.refl w2.heap.size w2) b3))
  have r_g1_3 := hid (r_g1_2.out.mono EStr.stable (b_call (Below.refl w2.heap.size w2) b3))
  have r_l1_3 := hid (r_l1_2.out.mono EStr.stable (b_call (Below.refl w2.heap.size w2) b3))
  have r_a2_3 := hid ra2
  have r_d2_3 := hid rd2
  have r_g2_3 := hid rg2
  clear hq_x1_2 hq_n1_2 hq_q_2 hb2 r_R_2 r_E_2 r_Y_2 r_M_2 r_a1_2 r_d1_2 r_g1_2 r_l1_2 ra2 rd2 rg2 b3
  obtain ⟨a_2, c_2, rfl, -⟩ := id r_a2_3.out
  obtain ⟨e_2, d_2, rfl, -⟩ := id r_d2_3.out
  obtain ⟨g_2, h_2, rfl, -⟩ := id r_g2_3.out
  obtain ⟨x_x1_0, x_x1_1, x_x1_2, x_x1_3⟩ := box4f hq_x1_3.out
  have l_x1 := heap_lt hq_x1_3.out
  obtain ⟨x_n1_0, x_n1_1, x_n1_2, -⟩ := box3f hq_n1_3.out
  have l_n1 := heap_lt hq_n1_3.out
  obtain ⟨x_q_0, x_q_1, x_q_2, x_q_3⟩ := box4f hq_q_3.out
  have l_q := heap_lt hq_q_3.out
  go_wp2_with fail
  ((with_reducible refine (f4.out _ (r_Y_3.out.mono EStr.stable (b_alloc (b_alloc (Below.refl w3.heap.size w3) (Obj.cells #[.slice a_2 B1.length c_2, .slice e_2 E1.length d_2, .int .i64 r1, .int .i64 t1] 25)) (Obj.cells #[.int .i64 p1, .slice g_2 G1.length h_2, .string s1] 28))) (r_M_3.out.mono EStr.stable (b_alloc (b_alloc (Below.refl w3.heap.size w3) (Obj.cells #[.slice a_2 B1.length c_2, .slice e_2 E1.length d_2, .int .i64 r1, .int .i64 t1] 25)) (Obj.cells #[.int .i64 p1, .slice g_2 G1.length h_2, .string s1] 28)))).mono ?_); rintro e4 w4 ⟨v2, rfl, rl2, b4⟩)
  clear x_x1_0 x_x1_1 x_x1_2 x_x1_3 l_x1 x_n1_0 x_n1_1 x_n1_2 l_n1 x_q_0 x_q_1 x_q_2 x_q_3 l_q
  have hq_x2_4 := hid (stays b4 ((heap_alloc_old (w3.alloc (Obj.cells #[.slice a_2 B1.length c_2, .slice e_2 E1.length d_2, .int .i64 r1, .int .i64 t1] 25)) (Obj.cells #[.int .i64 p1, .slice g_2 G1.length h_2, .string s1] 28) (heap_lt (heap_put w3 (Obj.cells #[.slice a_2 B1.length c_2, .slice e_2 E1.length d_2, .int .i64 r1, .int .i64 t1] 25) (w3.heap.size) (by simp)))).trans (heap_put w3 (Obj.cells #[.slice a_2 B1.length c_2, .slice e_2 E1.length d_2, .int .i64 r1, .int .i64 t1] 25) (w3.heap.size) (by simp))))
  have hq_n2_4 := hid (stays b4 (heap_put (w3.alloc (Obj.cells #[.slice a_2 B1.length c_2, .slice e_2 E1.length d_2, .int .i64 r1, .int .i64 t1] 25)) (Obj.cells #[.int .i64 p1, .slice g_2 G1.length h_2, .string s1] 28) (w3.heap.size + 1) (by simp)))
  have hq_x1_4 := hid (stays b4 ((heap_alloc_old (w3.alloc (Obj.cells #[.slice a_2 B1.length c_2, .slice e_2 E1.length d_2, .int .i64 r1, .int .i64 t1] 25)) (Obj.cells #[.int .i64 p1, .slice g_2 G1.length h_2, .string s1] 28) (heap_lt ((heap_alloc_old w3 (Obj.cells #[.slice a_2 B1.length c_2, .slice e_2 E1.length d_2, .int .i64 r1, .int .i64 t1] 25) (heap_lt hq_x1_3.out)).trans hq_x1_3.out))).trans ((heap_alloc_old w3 (Obj.cells #[.slice a_2 B1.length c_2, .slice e_2 E1.length d_2, .int .i64 r1, .int .i64 t1] 25) (heap_lt hq_x1_3.out)).trans hq_x1_3.out)))
  have hq_n1_4 := hid (stays b4 ((heap_alloc_old (w3.alloc (Obj.cells #[.slice a_2 B1.length c_2, .slice e_2 E1.length d_2, .int .i64 r1, .int .i64 t1] 25)) (Obj.cells #[.int .i64 p1, .slice g_2 G1.length h_2, .string s1] 28) (heap_lt ((heap_alloc_old w3 (Obj.cells #[.slice a_2 B1.length c_2, .slice e_2 E1.length d_2, .int .i64 r1, .int .i64 t1] 25) (heap_lt hq_n1_3.out)).trans hq_n1_3.out))).trans ((heap_alloc_old w3 (Obj.cells #[.slice a_2 B1.length c_2, .slice e_2 E1.length d_2, .int .i64 r1, .int .i64 t1] 25) (heap_lt hq_n1_3.out)).trans hq_n1_3.out)))
  have hq_q_4 := hid (stays b4 ((heap_alloc_old (w3.alloc (Obj.cells #[.slice a_2 B1.length c_2, .slice e_2 E1.length d_2, .int .i64 r1, .int .i64 t1] 25)) (Obj.cells #[.int .i64 p1, .slice g_2 G1.length h_2, .string s1] 28) (heap_lt ((heap_alloc_old w3 (Obj.cells #[.slice a_2 B1.length c_2, .slice e_2 E1.length d_2, .int .i64 r1, .int .i64 t1] 25) (heap_lt hq_q_3.out)).trans hq_q_3.out))).trans ((heap_alloc_old w3 (Obj.cells #[.slice a_2 B1.length c_2, .slice e_2 E1.length d_2, .int .i64 r1, .int .i64 t1] 25) (heap_lt hq_q_3.out)).trans hq_q_3.out)))
  have hb4 := hid (b_call (b_alloc (b_alloc hb3.out (Obj.cells #[.slice a_2 B1.length c_2, .slice e_2 E1.length d_2, .int .i64 r1, .int .i64 t1] 25)) (Obj.cells #[.int .i64 p1, .slice g_2 G1.length h_2, .string s1] 28)) b4)
  have r_R_4 := hid (r_R_3.out.mono EBlob.stable (b_call (b_alloc (b_alloc (Below.refl w3.heap.size w3) (Obj.cells #[.slice a_2 B1.length c_2, .slice e_2 E1.length d_2, .int .i64 r1, .int .i64 t1] 25)) (Obj.cells #[.int .i64 p1, .slice g_2 G1.length h_2, .string s1] 28)) b4))
  have r_E_4 := hid (r_E_3.out.mono EEntry.stable (b_call (b_alloc (b_alloc (Below.refl w3.heap.size w3) (Obj.cells #[.slice a_2 B1.length c_2, .slice e_2 E1.length d_2, .int .i64 r1, .int .i64 t1] 25)) (Obj.cells #[.int .i64 p1, .slice g_2 G1.length h_2, .string s1] 28)) b4))
  have r_Y_4 := hid (r_Y_3.out.mono EStr.stable (b_call (b_alloc (b_alloc (Below.refl w3.heap.size w3) (Obj.cells #[.slice a_2 B1.length c_2, .slice e_2 E1.length d_2, .int .i64 r1, .int .i64 t1] 25)) (Obj.cells #[.int .i64 p1, .slice g_2 G1.length h_2, .string s1] 28)) b4))
  have r_M_4 := hid (r_M_3.out.mono EStr.stable (b_call (b_alloc (b_alloc (Below.refl w3.heap.size w3) (Obj.cells #[.slice a_2 B1.length c_2, .slice e_2 E1.length d_2, .int .i64 r1, .int .i64 t1] 25)) (Obj.cells #[.int .i64 p1, .slice g_2 G1.length h_2, .string s1] 28)) b4))
  have r_a1_4 := hid (r_a1_3.out.mono EBlob.stable (b_call (b_alloc (b_alloc (Below.refl w3.heap.size w3) (Obj.cells #[.slice a_2 B1.length c_2, .slice e_2 E1.length d_2, .int .i64 r1, .int .i64 t1] 25)) (Obj.cells #[.int .i64 p1, .slice g_2 G1.length h_2, .string s1] 28)) b4))
  have r_d1_4 := hid (r_d1_3.out.mono EEntry.stable (b_call (b_alloc (b_alloc (Below.refl w3.heap.size w3) (Obj.cells #[.slice a_2 B1.length c_2, .slice e_2 E1.length d_2, .int .i64 r1, .int .i64 t1] 25)) (Obj.cells #[.int .i64 p1, .slice g_2 G1.length h_2, .string s1] 28)) b4))
  have r_g1_4 := hid (r_g1_3.out.mono EStr.stable (b_call (b_alloc (b_alloc (Below.refl w3.heap.size w3) (Obj.cells #[.slice a_2 B1.length c_2, .slice e_2 E1.length d_2, .int .i64 r1, .int .i64 t1] 25)) (Obj.cells #[.int .i64 p1, .slice g_2 G1.length h_2, .string s1] 28)) b4))
  have r_l1_4 := hid (r_l1_3.out.mono EStr.stable (b_call (b_alloc (b_alloc (Below.refl w3.heap.size w3) (Obj.cells #[.slice a_2 B1.length c_2, .slice e_2 E1.length d_2, .int .i64 r1, .int .i64 t1] 25)) (Obj.cells #[.int .i64 p1, .slice g_2 G1.length h_2, .string s1] 28)) b4))
  have r_a2_4 := hid (r_a2_3.out.mono EBlob.stable (b_call (b_alloc (b_alloc (Below.refl w3.heap.size w3) (Obj.cells #[.slice a_2 B1.length c_2, .slice e_2 E1.length d_2, .int .i64 r1, .int .i64 t1] 25)) (Obj.cells #[.int .i64 p1, .slice g_2 G1.length h_2, .string s1] 28)) b4))
  have r_d2_4 := hid (r_d2_3.out.mono EEntry.stable (b_call (b_alloc (b_alloc (Below.refl w3.heap.size w3) (Obj.cells #[.slice a_2 B1.length c_2, .slice e_2 E1.length d_2, .int .i64 r1, .int .i64 t1] 25)) (Obj.cells #[.int .i64 p1, .slice g_2 G1.length h_2, .string s1] 28)) b4))
  have r_g2_4 := hid (r_g2_3.out.mono EStr.stable (b_call (b_alloc (b_alloc (Below.refl w3.heap.size w3) (Obj.cells #[.slice a_2 B1.length c_2, .slice e_2 E1.length d_2, .int .i64 r1, .int .i64 t1] 25)) (Obj.cells #[.int .i64 p1, .slice g_2 G1.length h_2, .string s1] 28)) b4))
  have r_l2_4 := hid rl2
  clear hq_x1_3 hq_n1_3 hq_q_3 hb3 r_R_3 r_E_3 r_Y_3 r_M_3 r_a1_3 r_d1_3 r_g1_3 r_l1_3 r_a2_3 r_d2_3 r_g2_3 rl2 b4
  obtain ⟨x_x2_0, x_x2_1, x_x2_2, x_x2_3⟩ := box4f hq_x2_4.out
  have l_x2 := heap_lt hq_x2_4.out
  obtain ⟨x_n2_0, x_n2_1, x_n2_2, -⟩ := box3f hq_n2_4.out
  have l_n2 := heap_lt hq_n2_4.out
  obtain ⟨x_x1_0, x_x1_1, x_x1_2, x_x1_3⟩ := box4f hq_x1_4.out
  have l_x1 := heap_lt hq_x1_4.out
  obtain ⟨x_n1_0, x_n1_1, x_n1_2, -⟩ := box3f hq_n1_4.out
  have l_n1 := heap_lt hq_n1_4.out
  obtain ⟨x_q_0, x_q_1, x_q_2, x_q_3⟩ := box4f hq_q_4.out
  have l_q := heap_lt hq_q_4.out
  go_wp2_with fail
  ((with_reducible refine (law_sameStore_yes _ _ _ _ B1 E1 r1 t1 _ r_a1_4.out r_d1_4.out r_a2_4.out r_d2_4.out).mono ?_); rintro e5 w5 ⟨rfl, b5⟩)
  clear x_x2_0 x_x2_1 x_x2_2 x_x2_3 l_x2 x_n2_0 x_n2_1 x_n2_2 l_n2 x_x1_0 x_x1_1 x_x1_2 x_x1_3 l_x1 x_n1_0 x_n1_1 x_n1_2 l_n1 x_q_0 x_q_1 x_q_2 x_q_3 l_q
  have hq_x2_5 := hid (stays b5 hq_x2_4.out)
  have hq_n2_5 := hid (stays b5 hq_n2_4.out)
  have hq_x1_5 := hid (stays b5 hq_x1_4.out)
  have hq_n1_5 := hid (stays b5 hq_n1_4.out)
  have hq_q_5 := hid (stays b5 hq_q_4.out)
  have hb5 := hid (b_call hb4.out b5)
  have r_R_5 := hid (r_R_4.out.mono EBlob.stable (b_call (Below.refl w4.heap.size w4) b5))
  have r_E_5 := hid (r_E_4.out.mono EEntry.stable (b_call (Below.refl w4.heap.size w4) b5))
  have r_Y_5 := hid (r_Y_4.out.mono EStr.stable (b_call (Below.refl w4.heap.size w4) b5))
  have r_M_5 := hid (r_M_4.out.mono EStr.stable (b_call (Below.refl w4.heap.size w4) b5))
  have r_a1_5 := hid (r_a1_4.out.mono EBlob.stable (b_call (Below.refl w4.heap.size w4) b5))
  have r_d1_5 := hid (r_d1_4.out.mono EEntry.stable (b_call (Below.refl w4.heap.size w4) b5))
  have r_g1_5 := hid (r_g1_4.out.mono EStr.stable (b_call (Below.refl w4.heap.size w4) b5))
  have r_l1_5 := hid (r_l1_4.out.mono EStr.stable (b_call (Below.refl w4.heap.size w4) b5))
  have r_a2_5 := hid (r_a2_4.out.mono EBlob.stable (b_call (Below.refl w4.heap.size w4) b5))
  have r_d2_5 := hid (r_d2_4.out.mono EEntry.stable (b_call (Below.refl w4.heap.size w4) b5))
  have r_g2_5 := hid (r_g2_4.out.mono EStr.stable (b_call (Below.refl w4.heap.size w4) b5))
  have r_l2_5 := hid (r_l2_4.out.mono EStr.stable (b_call (Below.refl w4.heap.size w4) b5))
  clear hq_x2_4 hq_n2_4 hq_x1_4 hq_n1_4 hq_q_4 hb4 r_R_4 r_E_4 r_Y_4 r_M_4 r_a1_4 r_d1_4 r_g1_4 r_l1_4 r_a2_4 r_d2_4 r_g2_4 r_l2_4 b5
  obtain ⟨x_n1_0, x_n1_1, x_n1_2, -⟩ := box3f hq_n1_5.out
  obtain ⟨x_n2_0, x_n2_1, x_n2_2, -⟩ := box3f hq_n2_5.out
  go_wp2_with fail
  ((with_reducible refine (law_sameCollector_yes p1 _ _ s1 _ G1 r_g1_5.out r_g2_5.out).mono ?_); rintro e6 w6 ⟨rfl, b6⟩)
  clear x_n1_0 x_n1_1 x_n1_2 x_n2_0 x_n2_1 x_n2_2
  have hq_x2_6 := hid (stays b6 hq_x2_5.out)
  have hq_n2_6 := hid (stays b6 hq_n2_5.out)
  have hq_x1_6 := hid (stays b6 hq_x1_5.out)
  have hq_n1_6 := hid (stays b6 hq_n1_5.out)
  have hq_q_6 := hid (stays b6 hq_q_5.out)
  have hb6 := hid (b_call hb5.out b6)
  have r_R_6 := hid (r_R_5.out.mono EBlob.stable (b_call (Below.refl w5.heap.size w5) b6))
  have r_E_6 := hid (r_E_5.out.mono EEntry.stable (b_call (Below.refl w5.heap.size w5) b6))
  have r_Y_6 := hid (r_Y_5.out.mono EStr.stable (b_call (Below.refl w5.heap.size w5) b6))
  have r_M_6 := hid (r_M_5.out.mono EStr.stable (b_call (Below.refl w5.heap.size w5) b6))
  have r_a1_6 := hid (r_a1_5.out.mono EBlob.stable (b_call (Below.refl w5.heap.size w5) b6))
  have r_d1_6 := hid (r_d1_5.out.mono EEntry.stable (b_call (Below.refl w5.heap.size w5) b6))
  have r_g1_6 := hid (r_g1_5.out.mono EStr.stable (b_call (Below.refl w5.heap.size w5) b6))
  have r_l1_6 := hid (r_l1_5.out.mono EStr.stable (b_call (Below.refl w5.heap.size w5) b6))
  have r_a2_6 := hid (r_a2_5.out.mono EBlob.stable (b_call (Below.refl w5.heap.size w5) b6))
  have r_d2_6 := hid (r_d2_5.out.mono EEntry.stable (b_call (Below.refl w5.heap.size w5) b6))
  have r_g2_6 := hid (r_g2_5.out.mono EStr.stable (b_call (Below.refl w5.heap.size w5) b6))
  have r_l2_6 := hid (r_l2_5.out.mono EStr.stable (b_call (Below.refl w5.heap.size w5) b6))
  clear hq_x2_5 hq_n2_5 hq_x1_5 hq_n1_5 hq_q_5 hb5 r_R_5 r_E_5 r_Y_5 r_M_5 r_a1_5 r_d1_5 r_g1_5 r_l1_5 r_a2_5 r_d2_5 r_g2_5 r_l2_5 b6
  go_wp2_with fail
  ((with_reducible refine (law_sameTexts_yes _ _ _ AL r_l1_6.out r_l2_6.out).mono ?_); rintro e7 w7 ⟨rfl, b7⟩)
  have hq_x2_7 := hid (stays b7 hq_x2_6.out)
  have hq_n2_7 := hid (stays b7 hq_n2_6.out)
  have hq_x1_7 := hid (stays b7 hq_x1_6.out)
  have hq_n1_7 := hid (stays b7 hq_n1_6.out)
  have hq_q_7 := hid (stays b7 hq_q_6.out)
  have hb7 := hid (b_call hb6.out b7)
  have r_R_7 := hid (r_R_6.out.mono EBlob.stable (b_call (Below.refl w6.heap.size w6) b7))
  have r_E_7 := hid (r_E_6.out.mono EEntry.stable (b_call (Below.refl w6.heap.size w6) b7))
  have r_Y_7 := hid (r_Y_6.out.mono EStr.stable (b_call (Below.refl w6.heap.size w6) b7))
  have r_M_7 := hid (r_M_6.out.mono EStr.stable (b_call (Below.refl w6.heap.size w6) b7))
  have r_a1_7 := hid (r_a1_6.out.mono EBlob.stable (b_call (Below.refl w6.heap.size w6) b7))
  have r_d1_7 := hid (r_d1_6.out.mono EEntry.stable (b_call (Below.refl w6.heap.size w6) b7))
  have r_g1_7 := hid (r_g1_6.out.mono EStr.stable (b_call (Below.refl w6.heap.size w6) b7))
  have r_l1_7 := hid (r_l1_6.out.mono EStr.stable (b_call (Below.refl w6.heap.size w6) b7))
  have r_a2_7 := hid (r_a2_6.out.mono EBlob.stable (b_call (Below.refl w6.heap.size w6) b7))
  have r_d2_7 := hid (r_d2_6.out.mono EEntry.stable (b_call (Below.refl w6.heap.size w6) b7))
  have r_g2_7 := hid (r_g2_6.out.mono EStr.stable (b_call (Below.refl w6.heap.size w6) b7))
  have r_l2_7 := hid (r_l2_6.out.mono EStr.stable (b_call (Below.refl w6.heap.size w6) b7))
  clear hq_x2_6 hq_n2_6 hq_x1_6 hq_n1_6 hq_q_6 hb6 r_R_6 r_E_6 r_Y_6 r_M_6 r_a1_6 r_d1_6 r_g1_6 r_l1_6 r_a2_6 r_d2_6 r_g2_6 r_l2_6 b7
  go_wp2_with fail
  go_ret
  exact ⟨rfl, hb7.out⟩
theorem MarkBegins_walk (w : World) (cs : Array Value) (x : Store) (vg : Value) (gy : List ByteArray) (vm : Value) (mo : List ByteArray) (hx : VStore w cs.toList x) (hg : RT w vg gy) (hm : RT w vm mo) (hl : gy.length + mo.length ≤ 2097152) :
    Calls Tryz.prog 3 #[.agg cs, vg, vm] w fun e w' => e = .returned (.bool true) ∧ Below w.heap.size w w' := by
  obtain ⟨bv, ev, hc, hp, he, -⟩ := hx
  obtain rfl : cs = #[bv, ev, .int .i64 x.room, .int .i64 x.clock] := by
    cases cs
    simp only at hc
    rw [hc]
  exact MarkBegins_walk' bv ev vg vm x.blobs x.entries x.room x.clock gy mo w hp he hg hm (by omega)
end Go.Proofs.YtojebioolflbkaaGreat
