/-
  The law StoreHolds: its walk. Printed by gen_hlw.py.
-/
import Derived.Test.YtcbopanekmpllaaHldB
import Derived.Test.YtcbopanekmpllaaHldE
namespace Go.Proofs.Ytcbopanekmpllaa
open Go.RowKit

set_option maxRecDepth 100000 in
set_option maxHeartbeats 1000000 in
theorem StoreHolds_walk' (v u : Value) (bs : List Blob) (es : List Entry) (r t : Int) (s : ByteArray) (up : Bool) (w : World) (h : RBl w v bs) (g : RE w u es) (z : Int)
    (c1 : ∀ w, RBl w v bs → RE w u es → Calls Try.prog 111 #[.agg #[v, u, .int .i64 r, .int .i64 t]] w fun e w' => e = .returned (.int .i64 z) ∧ Below w.heap.size w w')
    (c2 : ∀ w, RBl w v bs → RE w u es → Calls Try.prog 115 #[.agg #[v, u, .int .i64 r, .int .i64 t]] w fun e w' => e = .returned (.int .i64 z) ∧ Below w.heap.size w w') :
    Calls Try.prog 9 #[.agg #[v, u, .int .i64 r, .int .i64 t], .string s, .bool up] w fun e w' => e = .returned (.bool true) ∧ Below w.heap.size w w' := by
  have f1 := hid fun w (h : RBl w v bs) (g : RE w u es) => store_HoldBlob v u bs es r t s up w h g z c1
  have f2 := hid fun w (h : RBl w v bs) (g : RE w u es) => store_Hold v u bs es r t s up w h g z c1
  have f3 := hid fun w (h : RBl w v bs) (g : RE w u es) => ref_StoreHoldBlob v u bs es r t s up w h g z c2
  have f4 := hid fun w (h : RBl w v bs) (g : RE w u es) => ref_StoreHold v u bs es r t s up w h g z c2
  have hR := hid h
  have hE := hid g
  obtain ⟨a, c, rfl, -⟩ := h
  obtain ⟨a2, c2', rfl, -⟩ := g
  unfold StRes VS at f1 f2 f3 f4
  clear c1 c2
  generalize holdE (fun x : Blob => x.digest) (fun x => x.pins) z s up bs = ee at *
  generalize holdE (fun x : Entry => x.key) (fun x => x.pins) z s up es = ef at *
  generalize (if ee = 0 then (⟨heldB s up bs, es, r, t⟩ : Store) else noStore) = S1 at *
  generalize (if ef = 0 then (⟨bs, heldE s up es, r, t⟩ : Store) else noStore) = S2 at *
  obtain ⟨B1, E1, r1, t1⟩ := S1
  obtain ⟨B2, E2, r2, t2⟩ := S2
  simp only at f1 f2 f3 f4
  go_enter Try.func9, Try.ntmps9
  go_wp2_with fail
  ((with_reducible refine (f1.out _ (hR.out.mono EBlob.stable (b_alloc (Below.refl w.heap.size w) (Obj.cells #[.slice a bs.length c, .slice a2 es.length c2', .int .i64 r, .int .i64 t] 49))) (hE.out.mono EEntry.stable (b_alloc (Below.refl w.heap.size w) (Obj.cells #[.slice a bs.length c, .slice a2 es.length c2', .int .i64 r, .int .i64 t] 49)))).mono ?_); rintro e1 w1 ⟨_, rfl, ⟨A1, D1, rfl, ra1, rd1⟩, b1⟩)
  have hq_q_1 := hid (stays b1 (heap_alloc_new w (Obj.cells #[.slice a bs.length c, .slice a2 es.length c2', .int .i64 r, .int .i64 t] 49)))
  have hb1 := hid (b_call (b_alloc (Below.refl w.heap.size w) (Obj.cells #[.slice a bs.length c, .slice a2 es.length c2', .int .i64 r, .int .i64 t] 49)) b1)
  have r_R_1 := hid (hR.out.mono EBlob.stable (b_call (b_alloc (Below.refl w.heap.size w) (Obj.cells #[.slice a bs.length c, .slice a2 es.length c2', .int .i64 r, .int .i64 t] 49)) b1))
  have r_E_1 := hid (hE.out.mono EEntry.stable (b_call (b_alloc (Below.refl w.heap.size w) (Obj.cells #[.slice a bs.length c, .slice a2 es.length c2', .int .i64 r, .int .i64 t] 49)) b1))
  have r_a1_1 := hid ra1
  have r_d1_1 := hid rd1
  clear ra1 rd1 b1
  obtain ⟨a_1, c_1, rfl, -⟩ := id r_a1_1.out
  obtain ⟨e_1, d_1, rfl, -⟩ := id r_d1_1.out
  obtain ⟨x_q_0, x_q_1, x_q_2, x_q_3⟩ := box4f hq_q_1.out
  have l_q := heap_lt hq_q_1.out
  go_wp2_with fail
  ((with_reducible refine (f2.out _ (r_R_1.out.mono EBlob.stable (b_alloc (Below.refl w1.heap.size w1) (Obj.cells #[.slice a_1 B1.length c_1, .slice e_1 E1.length d_1, .int .i64 r1, .int .i64 t1] 49))) (r_E_1.out.mono EEntry.stable (b_alloc (Below.refl w1.heap.size w1) (Obj.cells #[.slice a_1 B1.length c_1, .slice e_1 E1.length d_1, .int .i64 r1, .int .i64 t1] 49)))).mono ?_); rintro e2 w2 ⟨_, rfl, ⟨A2, D2, rfl, ra2, rd2⟩, b2⟩)
  clear x_q_0 x_q_1 x_q_2 x_q_3 l_q
  have hq_x1_2 := hid (stays b2 (heap_alloc_new w1 (Obj.cells #[.slice a_1 B1.length c_1, .slice e_1 E1.length d_1, .int .i64 r1, .int .i64 t1] 49)))
  have hq_q_2 := hid (stays b2 ((heap_alloc_old w1 (Obj.cells #[.slice a_1 B1.length c_1, .slice e_1 E1.length d_1, .int .i64 r1, .int .i64 t1] 49) (heap_lt hq_q_1.out)).trans hq_q_1.out))
  have hb2 := hid (b_call (b_alloc hb1.out (Obj.cells #[.slice a_1 B1.length c_1, .slice e_1 E1.length d_1, .int .i64 r1, .int .i64 t1] 49)) b2)
  have r_R_2 := hid (r_R_1.out.mono EBlob.stable (b_call (b_alloc (Below.refl w1.heap.size w1) (Obj.cells #[.slice a_1 B1.length c_1, .slice e_1 E1.length d_1, .int .i64 r1, .int .i64 t1] 49)) b2))
  have r_E_2 := hid (r_E_1.out.mono EEntry.stable (b_call (b_alloc (Below.refl w1.heap.size w1) (Obj.cells #[.slice a_1 B1.length c_1, .slice e_1 E1.length d_1, .int .i64 r1, .int .i64 t1] 49)) b2))
  have r_a1_2 := hid (r_a1_1.out.mono EBlob.stable (b_call (b_alloc (Below.refl w1.heap.size w1) (Obj.cells #[.slice a_1 B1.length c_1, .slice e_1 E1.length d_1, .int .i64 r1, .int .i64 t1] 49)) b2))
  have r_d1_2 := hid (r_d1_1.out.mono EEntry.stable (b_call (b_alloc (Below.refl w1.heap.size w1) (Obj.cells #[.slice a_1 B1.length c_1, .slice e_1 E1.length d_1, .int .i64 r1, .int .i64 t1] 49)) b2))
  have r_a2_2 := hid ra2
  have r_d2_2 := hid rd2
  clear hq_q_1 hb1 r_R_1 r_E_1 r_a1_1 r_d1_1 ra2 rd2 b2
  obtain ⟨a_2, c_2, rfl, -⟩ := id r_a2_2.out
  obtain ⟨e_2, d_2, rfl, -⟩ := id r_d2_2.out
  obtain ⟨x_x1_0, x_x1_1, x_x1_2, x_x1_3⟩ := box4f hq_x1_2.out
  have l_x1 := heap_lt hq_x1_2.out
  obtain ⟨x_q_0, x_q_1, x_q_2, x_q_3⟩ := box4f hq_q_2.out
  have l_q := heap_lt hq_q_2.out
  go_wp2_with fail
  ((with_reducible refine (f3.out _ (r_R_2.out.mono EBlob.stable (b_alloc (Below.refl w2.heap.size w2) (Obj.cells #[.slice a_2 B2.length c_2, .slice e_2 E2.length d_2, .int .i64 r2, .int .i64 t2] 49))) (r_E_2.out.mono EEntry.stable (b_alloc (Below.refl w2.heap.size w2) (Obj.cells #[.slice a_2 B2.length c_2, .slice e_2 E2.length d_2, .int .i64 r2, .int .i64 t2] 49)))).mono ?_); rintro e3 w3 ⟨_, rfl, ⟨A3, D3, rfl, ra3, rd3⟩, b3⟩)
  clear x_x1_0 x_x1_1 x_x1_2 x_x1_3 l_x1 x_q_0 x_q_1 x_q_2 x_q_3 l_q
  have hq_x2_3 := hid (stays b3 (heap_alloc_new w2 (Obj.cells #[.slice a_2 B2.length c_2, .slice e_2 E2.length d_2, .int .i64 r2, .int .i64 t2] 49)))
  have hq_x1_3 := hid (stays b3 ((heap_alloc_old w2 (Obj.cells #[.slice a_2 B2.length c_2, .slice e_2 E2.length d_2, .int .i64 r2, .int .i64 t2] 49) (heap_lt hq_x1_2.out)).trans hq_x1_2.out))
  have hq_q_3 := hid (stays b3 ((heap_alloc_old w2 (Obj.cells #[.slice a_2 B2.length c_2, .slice e_2 E2.length d_2, .int .i64 r2, .int .i64 t2] 49) (heap_lt hq_q_2.out)).trans hq_q_2.out))
  have hb3 := hid (b_call (b_alloc hb2.out (Obj.cells #[.slice a_2 B2.length c_2, .slice e_2 E2.length d_2, .int .i64 r2, .int .i64 t2] 49)) b3)
  have r_R_3 := hid (r_R_2.out.mono EBlob.stable (b_call (b_alloc (Below.refl w2.heap.size w2) (Obj.cells #[.slice a_2 B2.length c_2, .slice e_2 E2.length d_2, .int .i64 r2, .int .i64 t2] 49)) b3))
  have r_E_3 := hid (r_E_2.out.mono EEntry.stable (b_call (b_alloc (Below.refl w2.heap.size w2) (Obj.cells #[.slice a_2 B2.length c_2, .slice e_2 E2.length d_2, .int .i64 r2, .int .i64 t2] 49)) b3))
  have r_a1_3 := hid (r_a1_2.out.mono EBlob.stable (b_call (b_alloc (Below.refl w2.heap.size w2) (Obj.cells #[.slice a_2 B2.length c_2, .slice e_2 E2.length d_2, .int .i64 r2, .int .i64 t2] 49)) b3))
  have r_d1_3 := hid (r_d1_2.out.mono EEntry.stable (b_call (b_alloc (Below.refl w2.heap.size w2) (Obj.cells #[.slice a_2 B2.length c_2, .slice e_2 E2.length d_2, .int .i64 r2, .int .i64 t2] 49)) b3))
  have r_a2_3 := hid (r_a2_2.out.mono EBlob.stable (b_call (b_alloc (Below.refl w2.heap.size w2) (Obj.cells #[.slice a_2 B2.length c_2, .slice e_2 E2.length d_2, .int .i64 r2, .int .i64 t2] 49)) b3))
  have r_d2_3 := hid (r_d2_2.out.mono EEntry.stable (b_call (b_alloc (Below.refl w2.heap.size w2) (Obj.cells #[.slice a_2 B2.length c_2, .slice e_2 E2.length d_2, .int .i64 r2, .int .i64 t2] 49)) b3))
  have r_a3_3 := hid ra3
  have r_d3_3 := hid rd3
  clear hq_x1_2 hq_q_2 hb2 r_R_2 r_E_2 r_a1_2 r_d1_2 r_a2_2 r_d2_2 ra3 rd3 b3
  obtain ⟨a_3, c_3, rfl, -⟩ := id r_a3_3.out
  obtain ⟨e_3, d_3, rfl, -⟩ := id r_d3_3.out
  obtain ⟨x_x2_0, x_x2_1, x_x2_2, x_x2_3⟩ := box4f hq_x2_3.out
  have l_x2 := heap_lt hq_x2_3.out
  obtain ⟨x_x1_0, x_x1_1, x_x1_2, x_x1_3⟩ := box4f hq_x1_3.out
  have l_x1 := heap_lt hq_x1_3.out
  obtain ⟨x_q_0, x_q_1, x_q_2, x_q_3⟩ := box4f hq_q_3.out
  have l_q := heap_lt hq_q_3.out
  go_wp2_with fail
  ((with_reducible refine (f4.out _ (r_R_3.out.mono EBlob.stable (b_alloc (Below.refl w3.heap.size w3) (Obj.cells #[.slice a_3 B1.length c_3, .slice e_3 E1.length d_3, .int .i64 r1, .int .i64 t1] 49))) (r_E_3.out.mono EEntry.stable (b_alloc (Below.refl w3.heap.size w3) (Obj.cells #[.slice a_3 B1.length c_3, .slice e_3 E1.length d_3, .int .i64 r1, .int .i64 t1] 49)))).mono ?_); rintro e4 w4 ⟨_, rfl, ⟨A4, D4, rfl, ra4, rd4⟩, b4⟩)
  clear x_x2_0 x_x2_1 x_x2_2 x_x2_3 l_x2 x_x1_0 x_x1_1 x_x1_2 x_x1_3 l_x1 x_q_0 x_q_1 x_q_2 x_q_3 l_q
  have hq_x3_4 := hid (stays b4 (heap_alloc_new w3 (Obj.cells #[.slice a_3 B1.length c_3, .slice e_3 E1.length d_3, .int .i64 r1, .int .i64 t1] 49)))
  have hq_x2_4 := hid (stays b4 ((heap_alloc_old w3 (Obj.cells #[.slice a_3 B1.length c_3, .slice e_3 E1.length d_3, .int .i64 r1, .int .i64 t1] 49) (heap_lt hq_x2_3.out)).trans hq_x2_3.out))
  have hq_x1_4 := hid (stays b4 ((heap_alloc_old w3 (Obj.cells #[.slice a_3 B1.length c_3, .slice e_3 E1.length d_3, .int .i64 r1, .int .i64 t1] 49) (heap_lt hq_x1_3.out)).trans hq_x1_3.out))
  have hq_q_4 := hid (stays b4 ((heap_alloc_old w3 (Obj.cells #[.slice a_3 B1.length c_3, .slice e_3 E1.length d_3, .int .i64 r1, .int .i64 t1] 49) (heap_lt hq_q_3.out)).trans hq_q_3.out))
  have hb4 := hid (b_call (b_alloc hb3.out (Obj.cells #[.slice a_3 B1.length c_3, .slice e_3 E1.length d_3, .int .i64 r1, .int .i64 t1] 49)) b4)
  have r_R_4 := hid (r_R_3.out.mono EBlob.stable (b_call (b_alloc (Below.refl w3.heap.size w3) (Obj.cells #[.slice a_3 B1.length c_3, .slice e_3 E1.length d_3, .int .i64 r1, .int .i64 t1] 49)) b4))
  have r_E_4 := hid (r_E_3.out.mono EEntry.stable (b_call (b_alloc (Below.refl w3.heap.size w3) (Obj.cells #[.slice a_3 B1.length c_3, .slice e_3 E1.length d_3, .int .i64 r1, .int .i64 t1] 49)) b4))
  have r_a1_4 := hid (r_a1_3.out.mono EBlob.stable (b_call (b_alloc (Below.refl w3.heap.size w3) (Obj.cells #[.slice a_3 B1.length c_3, .slice e_3 E1.length d_3, .int .i64 r1, .int .i64 t1] 49)) b4))
  have r_d1_4 := hid (r_d1_3.out.mono EEntry.stable (b_call (b_alloc (Below.refl w3.heap.size w3) (Obj.cells #[.slice a_3 B1.length c_3, .slice e_3 E1.length d_3, .int .i64 r1, .int .i64 t1] 49)) b4))
  have r_a2_4 := hid (r_a2_3.out.mono EBlob.stable (b_call (b_alloc (Below.refl w3.heap.size w3) (Obj.cells #[.slice a_3 B1.length c_3, .slice e_3 E1.length d_3, .int .i64 r1, .int .i64 t1] 49)) b4))
  have r_d2_4 := hid (r_d2_3.out.mono EEntry.stable (b_call (b_alloc (Below.refl w3.heap.size w3) (Obj.cells #[.slice a_3 B1.length c_3, .slice e_3 E1.length d_3, .int .i64 r1, .int .i64 t1] 49)) b4))
  have r_a3_4 := hid (r_a3_3.out.mono EBlob.stable (b_call (b_alloc (Below.refl w3.heap.size w3) (Obj.cells #[.slice a_3 B1.length c_3, .slice e_3 E1.length d_3, .int .i64 r1, .int .i64 t1] 49)) b4))
  have r_d3_4 := hid (r_d3_3.out.mono EEntry.stable (b_call (b_alloc (Below.refl w3.heap.size w3) (Obj.cells #[.slice a_3 B1.length c_3, .slice e_3 E1.length d_3, .int .i64 r1, .int .i64 t1] 49)) b4))
  have r_a4_4 := hid ra4
  have r_d4_4 := hid rd4
  clear hq_x2_3 hq_x1_3 hq_q_3 hb3 r_R_3 r_E_3 r_a1_3 r_d1_3 r_a2_3 r_d2_3 r_a3_3 r_d3_3 ra4 rd4 b4
  obtain ⟨a_4, c_4, rfl, -⟩ := id r_a4_4.out
  obtain ⟨e_4, d_4, rfl, -⟩ := id r_d4_4.out
  obtain ⟨x_x3_0, x_x3_1, x_x3_2, x_x3_3⟩ := box4f hq_x3_4.out
  have l_x3 := heap_lt hq_x3_4.out
  obtain ⟨x_x2_0, x_x2_1, x_x2_2, x_x2_3⟩ := box4f hq_x2_4.out
  have l_x2 := heap_lt hq_x2_4.out
  obtain ⟨x_x1_0, x_x1_1, x_x1_2, x_x1_3⟩ := box4f hq_x1_4.out
  have l_x1 := heap_lt hq_x1_4.out
  obtain ⟨x_q_0, x_q_1, x_q_2, x_q_3⟩ := box4f hq_q_4.out
  have l_q := heap_lt hq_q_4.out
  go_wp2_with fail
  ((with_reducible refine (law_sameStore_yes _ _ _ _ B1 E1 r1 t1 _ (r_a1_4.out.mono EBlob.stable (b_alloc (Below.refl w4.heap.size w4) (Obj.cells #[.slice a_4 B2.length c_4, .slice e_4 E2.length d_4, .int .i64 r2, .int .i64 t2] 49))) (r_d1_4.out.mono EEntry.stable (b_alloc (Below.refl w4.heap.size w4) (Obj.cells #[.slice a_4 B2.length c_4, .slice e_4 E2.length d_4, .int .i64 r2, .int .i64 t2] 49))) (r_a3_4.out.mono EBlob.stable (b_alloc (Below.refl w4.heap.size w4) (Obj.cells #[.slice a_4 B2.length c_4, .slice e_4 E2.length d_4, .int .i64 r2, .int .i64 t2] 49))) (r_d3_4.out.mono EEntry.stable (b_alloc (Below.refl w4.heap.size w4) (Obj.cells #[.slice a_4 B2.length c_4, .slice e_4 E2.length d_4, .int .i64 r2, .int .i64 t2] 49)))).mono ?_); rintro e5 w5 ⟨rfl, b5⟩)
  clear x_x3_0 x_x3_1 x_x3_2 x_x3_3 l_x3 x_x2_0 x_x2_1 x_x2_2 x_x2_3 l_x2 x_x1_0 x_x1_1 x_x1_2 x_x1_3 l_x1 x_q_0 x_q_1 x_q_2 x_q_3 l_q
  have hq_x4_5 := hid (stays b5 (heap_alloc_new w4 (Obj.cells #[.slice a_4 B2.length c_4, .slice e_4 E2.length d_4, .int .i64 r2, .int .i64 t2] 49)))
  have hq_x3_5 := hid (stays b5 ((heap_alloc_old w4 (Obj.cells #[.slice a_4 B2.length c_4, .slice e_4 E2.length d_4, .int .i64 r2, .int .i64 t2] 49) (heap_lt hq_x3_4.out)).trans hq_x3_4.out))
  have hq_x2_5 := hid (stays b5 ((heap_alloc_old w4 (Obj.cells #[.slice a_4 B2.length c_4, .slice e_4 E2.length d_4, .int .i64 r2, .int .i64 t2] 49) (heap_lt hq_x2_4.out)).trans hq_x2_4.out))
  have hq_x1_5 := hid (stays b5 ((heap_alloc_old w4 (Obj.cells #[.slice a_4 B2.length c_4, .slice e_4 E2.length d_4, .int .i64 r2, .int .i64 t2] 49) (heap_lt hq_x1_4.out)).trans hq_x1_4.out))
  have hq_q_5 := hid (stays b5 ((heap_alloc_old w4 (Obj.cells #[.slice a_4 B2.length c_4, .slice e_4 E2.length d_4, .int .i64 r2, .int .i64 t2] 49) (heap_lt hq_q_4.out)).trans hq_q_4.out))
  have hb5 := hid (b_call (b_alloc hb4.out (Obj.cells #[.slice a_4 B2.length c_4, .slice e_4 E2.length d_4, .int .i64 r2, .int .i64 t2] 49)) b5)
  have r_R_5 := hid (r_R_4.out.mono EBlob.stable (b_call (b_alloc (Below.refl w4.heap.size w4) (Obj.cells #[.slice a_4 B2.length c_4, .slice e_4 E2.length d_4, .int .i64 r2, .int .i64 t2] 49)) b5))
  have r_E_5 := hid (r_E_4.out.mono EEntry.stable (b_call (b_alloc (Below.refl w4.heap.size w4) (Obj.cells #[.slice a_4 B2.length c_4, .slice e_4 E2.length d_4, .int .i64 r2, .int .i64 t2] 49)) b5))
  have r_a1_5 := hid (r_a1_4.out.mono EBlob.stable (b_call (b_alloc (Below.refl w4.heap.size w4) (Obj.cells #[.slice a_4 B2.length c_4, .slice e_4 E2.length d_4, .int .i64 r2, .int .i64 t2] 49)) b5))
  have r_d1_5 := hid (r_d1_4.out.mono EEntry.stable (b_call (b_alloc (Below.refl w4.heap.size w4) (Obj.cells #[.slice a_4 B2.length c_4, .slice e_4 E2.length d_4, .int .i64 r2, .int .i64 t2] 49)) b5))
  have r_a2_5 := hid (r_a2_4.out.mono EBlob.stable (b_call (b_alloc (Below.refl w4.heap.size w4) (Obj.cells #[.slice a_4 B2.length c_4, .slice e_4 E2.length d_4, .int .i64 r2, .int .i64 t2] 49)) b5))
  have r_d2_5 := hid (r_d2_4.out.mono EEntry.stable (b_call (b_alloc (Below.refl w4.heap.size w4) (Obj.cells #[.slice a_4 B2.length c_4, .slice e_4 E2.length d_4, .int .i64 r2, .int .i64 t2] 49)) b5))
  have r_a3_5 := hid (r_a3_4.out.mono EBlob.stable (b_call (b_alloc (Below.refl w4.heap.size w4) (Obj.cells #[.slice a_4 B2.length c_4, .slice e_4 E2.length d_4, .int .i64 r2, .int .i64 t2] 49)) b5))
  have r_d3_5 := hid (r_d3_4.out.mono EEntry.stable (b_call (b_alloc (Below.refl w4.heap.size w4) (Obj.cells #[.slice a_4 B2.length c_4, .slice e_4 E2.length d_4, .int .i64 r2, .int .i64 t2] 49)) b5))
  have r_a4_5 := hid (r_a4_4.out.mono EBlob.stable (b_call (b_alloc (Below.refl w4.heap.size w4) (Obj.cells #[.slice a_4 B2.length c_4, .slice e_4 E2.length d_4, .int .i64 r2, .int .i64 t2] 49)) b5))
  have r_d4_5 := hid (r_d4_4.out.mono EEntry.stable (b_call (b_alloc (Below.refl w4.heap.size w4) (Obj.cells #[.slice a_4 B2.length c_4, .slice e_4 E2.length d_4, .int .i64 r2, .int .i64 t2] 49)) b5))
  clear hq_x3_4 hq_x2_4 hq_x1_4 hq_q_4 hb4 r_R_4 r_E_4 r_a1_4 r_d1_4 r_a2_4 r_d2_4 r_a3_4 r_d3_4 r_a4_4 r_d4_4 b5
  obtain ⟨x_x2_0, x_x2_1, x_x2_2, x_x2_3⟩ := box4f hq_x2_5.out
  have l_x2 := heap_lt hq_x2_5.out
  obtain ⟨x_x4_0, x_x4_1, x_x4_2, x_x4_3⟩ := box4f hq_x4_5.out
  have l_x4 := heap_lt hq_x4_5.out
  go_wp2_with fail
  ((with_reducible refine (law_sameStore_yes _ _ _ _ B2 E2 r2 t2 _ r_a2_5.out r_d2_5.out r_a4_5.out r_d4_5.out).mono ?_); rintro e6 w6 ⟨rfl, b6⟩)
  clear x_x2_0 x_x2_1 x_x2_2 x_x2_3 l_x2 x_x4_0 x_x4_1 x_x4_2 x_x4_3 l_x4
  have hq_x4_6 := hid (stays b6 hq_x4_5.out)
  have hq_x3_6 := hid (stays b6 hq_x3_5.out)
  have hq_x2_6 := hid (stays b6 hq_x2_5.out)
  have hq_x1_6 := hid (stays b6 hq_x1_5.out)
  have hq_q_6 := hid (stays b6 hq_q_5.out)
  have hb6 := hid (b_call hb5.out b6)
  have r_R_6 := hid (r_R_5.out.mono EBlob.stable (b_call (Below.refl w5.heap.size w5) b6))
  have r_E_6 := hid (r_E_5.out.mono EEntry.stable (b_call (Below.refl w5.heap.size w5) b6))
  have r_a1_6 := hid (r_a1_5.out.mono EBlob.stable (b_call (Below.refl w5.heap.size w5) b6))
  have r_d1_6 := hid (r_d1_5.out.mono EEntry.stable (b_call (Below.refl w5.heap.size w5) b6))
  have r_a2_6 := hid (r_a2_5.out.mono EBlob.stable (b_call (Below.refl w5.heap.size w5) b6))
  have r_d2_6 := hid (r_d2_5.out.mono EEntry.stable (b_call (Below.refl w5.heap.size w5) b6))
  have r_a3_6 := hid (r_a3_5.out.mono EBlob.stable (b_call (Below.refl w5.heap.size w5) b6))
  have r_d3_6 := hid (r_d3_5.out.mono EEntry.stable (b_call (Below.refl w5.heap.size w5) b6))
  have r_a4_6 := hid (r_a4_5.out.mono EBlob.stable (b_call (Below.refl w5.heap.size w5) b6))
  have r_d4_6 := hid (r_d4_5.out.mono EEntry.stable (b_call (Below.refl w5.heap.size w5) b6))
  clear hq_x4_5 hq_x3_5 hq_x2_5 hq_x1_5 hq_q_5 hb5 r_R_5 r_E_5 r_a1_5 r_d1_5 r_a2_5 r_d2_5 r_a3_5 r_d3_5 r_a4_5 r_d4_5 b6
  go_wp2_with fail
  go_ret
  exact ⟨rfl, hb6.out⟩
theorem StoreHolds_walk (w : World) (cs : Array Value) (x : Store) (s : ByteArray) (up : Bool) (hx : VStore w cs.toList x) (_ : s.size ≤ 140737488351232) :
    Calls Try.prog 9 #[.agg cs, .string s, .bool up] w fun e w' => e = .returned (.bool true) ∧ Below w.heap.size w w' := by
  obtain ⟨bv, ev, hc, hp, hs, -⟩ := hx
  obtain rfl : cs = #[bv, ev, .int .i64 x.room, .int .i64 x.clock] := by
    cases cs
    simp only at hc
    rw [hc]
  exact StoreHolds_walk' bv ev x.blobs x.entries x.room x.clock s up w hp hs _ (fun w h g => store_Check bv ev x.blobs x.entries x.room x.clock w h g) (fun w h g => ref_StoreFault bv ev x.blobs x.entries x.room x.clock w h g)
end Go.Proofs.Ytcbopanekmpllaa
