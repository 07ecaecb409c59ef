/-
  store.Get and the reference's StoreGet over all arguments; the law StoreGets: its walk. Printed by gen_gtw.py.
-/
import Derived.Test.YtcbopanekmpllaaGti
import Derived.Test.YtcbopanekmpllaaGtr
namespace Go.Proofs.Ytcbopanekmpllaa
open Go.RowKit

theorem store_Get (v u : Value) (bs : List Blob) (es : List Entry) (r t : Int) (s : ByteArray) (w : World) (h : RBl w v bs) (g : RE w u es) :
    Calls Try.prog 27 #[.agg #[v, u, .int .i64 r, .int .i64 t], .string s] w (GtRes (gtE (storeFault bs es r t) s t es) ⟨bs, gtL s t es, r, t + 1⟩ (gtP s es) w) :=
  store_Get' v u bs es r t s w h g _ (fun w h g => store_Check v u bs es r t w h g) clock_of
theorem ref_StoreGet (v u : Value) (bs : List Blob) (es : List Entry) (r t : Int) (s : ByteArray) (w : World) (h : RBl w v bs) (g : RE w u es) :
    Calls Try.prog 28 #[.agg #[v, u, .int .i64 r, .int .i64 t], .string s] w (GtRes (gtE (storeFault bs es r t) s t es) ⟨bs, gtL s t es, r, t + 1⟩ (gtP s es) w) :=
  ref_StoreGet' v u bs es r t s w h g _ (fun w h g => ref_StoreFault v u bs es r t w h g) clock_of

set_option maxRecDepth 100000 in
set_option maxHeartbeats 1000000 in
theorem StoreGets_walk' (v u : Value) (bs : List Blob) (es : List Entry) (r t : Int) (s : ByteArray) (w : World) (h : RBl w v bs) (g : RE w u es) :
    Calls Try.prog 7 #[.agg #[v, u, .int .i64 r, .int .i64 t], .string s] w fun e w' => e = .returned (.bool true) ∧ Below w.heap.size w w' := by
  have f1 := hid fun w (h : RBl w v bs) (g : RE w u es) => store_Get v u bs es r t s w h g
  have f2 := hid fun w (h : RBl w v bs) (g : RE w u es) => ref_StoreGet v u bs es r t s w h g
  have hR := hid h
  have hE := hid g
  obtain ⟨a, c, rfl, -⟩ := h
  obtain ⟨a2, c2', rfl, -⟩ := g
  unfold GtRes VS at f1 f2
  generalize gtE (storeFault bs es r t) s t es = ee at *
  generalize (if ee = 0 then (⟨bs, gtL s t es, r, t + 1⟩ : Store) else noStore) = S1 at *
  generalize (if ee = 0 then gtP s es else []) = PL at *
  obtain ⟨B1, E1, r1, t1⟩ := S1
  simp only at f1 f2
  go_enter Try.func7, Try.ntmps7
  go_wp2_with fail
  ((with_reducible refine (f1.out _ (hR.out.mono EBlob.stable (b_alloc (Below.refl w.heap.size w) (Obj.cells #[.slice a bs.length c, .slice a2 es.length c2', .int .i64 r, .int .i64 t] 49))) (hE.out.mono EEntry.stable (b_alloc (Below.refl w.heap.size w) (Obj.cells #[.slice a bs.length c, .slice a2 es.length c2', .int .i64 r, .int .i64 t] 49)))).mono ?_); rintro e1 w1 ⟨_, pv1, rfl, ⟨A1, D1, rfl, ra1, rd1⟩, rp1, b1⟩)
  have hq_q_1 := hid (stays b1 (heap_alloc_new w (Obj.cells #[.slice a bs.length c, .slice a2 es.length c2', .int .i64 r, .int .i64 t] 49)))
  have hb1 := hid (b_call (b_alloc (Below.refl w.heap.size w) (Obj.cells #[.slice a bs.length c, .slice a2 es.length c2', .int .i64 r, .int .i64 t] 49)) b1)
  have r_R_1 := hid (hR.out.mono EBlob.stable (b_call (b_alloc (Below.refl w.heap.size w) (Obj.cells #[.slice a bs.length c, .slice a2 es.length c2', .int .i64 r, .int .i64 t] 49)) b1))
  have r_E_1 := hid (hE.out.mono EEntry.stable (b_call (b_alloc (Below.refl w.heap.size w) (Obj.cells #[.slice a bs.length c, .slice a2 es.length c2', .int .i64 r, .int .i64 t] 49)) b1))
  have r_a1_1 := hid ra1
  have r_d1_1 := hid rd1
  have r_p1_1 := hid rp1
  clear ra1 rd1 rp1 b1
  obtain ⟨a_1, c_1, rfl, -⟩ := id r_a1_1.out
  obtain ⟨e_1, d_1, rfl, -⟩ := id r_d1_1.out
  obtain ⟨x_q_0, x_q_1, x_q_2, x_q_3⟩ := box4f hq_q_1.out
  have l_q := heap_lt hq_q_1.out
  go_wp2_with fail
  ((with_reducible refine (f2.out _ (r_R_1.out.mono EBlob.stable (b_alloc (Below.refl w1.heap.size w1) (Obj.cells #[.slice a_1 B1.length c_1, .slice e_1 E1.length d_1, .int .i64 r1, .int .i64 t1] 49))) (r_E_1.out.mono EEntry.stable (b_alloc (Below.refl w1.heap.size w1) (Obj.cells #[.slice a_1 B1.length c_1, .slice e_1 E1.length d_1, .int .i64 r1, .int .i64 t1] 49)))).mono ?_); rintro e2 w2 ⟨_, pv2, rfl, ⟨A2, D2, rfl, ra2, rd2⟩, rp2, b2⟩)
  clear x_q_0 x_q_1 x_q_2 x_q_3 l_q
  have hq_x1_2 := hid (stays b2 (heap_alloc_new w1 (Obj.cells #[.slice a_1 B1.length c_1, .slice e_1 E1.length d_1, .int .i64 r1, .int .i64 t1] 49)))
  have hq_q_2 := hid (stays b2 ((heap_alloc_old w1 (Obj.cells #[.slice a_1 B1.length c_1, .slice e_1 E1.length d_1, .int .i64 r1, .int .i64 t1] 49) (heap_lt hq_q_1.out)).trans hq_q_1.out))
  have hb2 := hid (b_call (b_alloc hb1.out (Obj.cells #[.slice a_1 B1.length c_1, .slice e_1 E1.length d_1, .int .i64 r1, .int .i64 t1] 49)) b2)
  have r_R_2 := hid (r_R_1.out.mono EBlob.stable (b_call (b_alloc (Below.refl w1.heap.size w1) (Obj.cells #[.slice a_1 B1.length c_1, .slice e_1 E1.length d_1, .int .i64 r1, .int .i64 t1] 49)) b2))
  have r_E_2 := hid (r_E_1.out.mono EEntry.stable (b_call (b_alloc (Below.refl w1.heap.size w1) (Obj.cells #[.slice a_1 B1.length c_1, .slice e_1 E1.length d_1, .int .i64 r1, .int .i64 t1] 49)) b2))
  have r_a1_2 := hid (r_a1_1.out.mono EBlob.stable (b_call (b_alloc (Below.refl w1.heap.size w1) (Obj.cells #[.slice a_1 B1.length c_1, .slice e_1 E1.length d_1, .int .i64 r1, .int .i64 t1] 49)) b2))
  have r_d1_2 := hid (r_d1_1.out.mono EEntry.stable (b_call (b_alloc (Below.refl w1.heap.size w1) (Obj.cells #[.slice a_1 B1.length c_1, .slice e_1 E1.length d_1, .int .i64 r1, .int .i64 t1] 49)) b2))
  have r_p1_2 := hid (r_p1_1.out.mono EPart.stable (b_call (b_alloc (Below.refl w1.heap.size w1) (Obj.cells #[.slice a_1 B1.length c_1, .slice e_1 E1.length d_1, .int .i64 r1, .int .i64 t1] 49)) b2))
  have r_a2_2 := hid ra2
  have r_d2_2 := hid rd2
  have r_p2_2 := hid rp2
  clear hq_q_1 hb1 r_R_1 r_E_1 r_a1_1 r_d1_1 r_p1_1 ra2 rd2 rp2 b2
  obtain ⟨a_2, c_2, rfl, -⟩ := id r_a2_2.out
  obtain ⟨e_2, d_2, rfl, -⟩ := id r_d2_2.out
  obtain ⟨x_x1_0, x_x1_1, x_x1_2, x_x1_3⟩ := box4f hq_x1_2.out
  have l_x1 := heap_lt hq_x1_2.out
  obtain ⟨x_q_0, x_q_1, x_q_2, x_q_3⟩ := box4f hq_q_2.out
  have l_q := heap_lt hq_q_2.out
  go_wp2_with fail
  ((with_reducible refine (law_sameStore_yes _ _ _ _ B1 E1 r1 t1 _ (r_a1_2.out.mono EBlob.stable (b_alloc (Below.refl w2.heap.size w2) (Obj.cells #[.slice a_2 B1.length c_2, .slice e_2 E1.length d_2, .int .i64 r1, .int .i64 t1] 49))) (r_d1_2.out.mono EEntry.stable (b_alloc (Below.refl w2.heap.size w2) (Obj.cells #[.slice a_2 B1.length c_2, .slice e_2 E1.length d_2, .int .i64 r1, .int .i64 t1] 49))) (r_a2_2.out.mono EBlob.stable (b_alloc (Below.refl w2.heap.size w2) (Obj.cells #[.slice a_2 B1.length c_2, .slice e_2 E1.length d_2, .int .i64 r1, .int .i64 t1] 49))) (r_d2_2.out.mono EEntry.stable (b_alloc (Below.refl w2.heap.size w2) (Obj.cells #[.slice a_2 B1.length c_2, .slice e_2 E1.length d_2, .int .i64 r1, .int .i64 t1] 49)))).mono ?_); rintro e3 w3 ⟨rfl, b3⟩)
  clear x_x1_0 x_x1_1 x_x1_2 x_x1_3 l_x1 x_q_0 x_q_1 x_q_2 x_q_3 l_q
  have hq_x2_3 := hid (stays b3 (heap_alloc_new w2 (Obj.cells #[.slice a_2 B1.length c_2, .slice e_2 E1.length d_2, .int .i64 r1, .int .i64 t1] 49)))
  have hq_x1_3 := hid (stays b3 ((heap_alloc_old w2 (Obj.cells #[.slice a_2 B1.length c_2, .slice e_2 E1.length d_2, .int .i64 r1, .int .i64 t1] 49) (heap_lt hq_x1_2.out)).trans hq_x1_2.out))
  have hq_q_3 := hid (stays b3 ((heap_alloc_old w2 (Obj.cells #[.slice a_2 B1.length c_2, .slice e_2 E1.length d_2, .int .i64 r1, .int .i64 t1] 49) (heap_lt hq_q_2.out)).trans hq_q_2.out))
  have hb3 := hid (b_call (b_alloc hb2.out (Obj.cells #[.slice a_2 B1.length c_2, .slice e_2 E1.length d_2, .int .i64 r1, .int .i64 t1] 49)) b3)
  have r_R_3 := hid (r_R_2.out.mono EBlob.stable (b_call (b_alloc (Below.refl w2.heap.size w2) (Obj.cells #[.slice a_2 B1.length c_2, .slice e_2 E1.length d_2, .int .i64 r1, .int .i64 t1] 49)) b3))
  have r_E_3 := hid (r_E_2.out.mono EEntry.stable (b_call (b_alloc (Below.refl w2.heap.size w2) (Obj.cells #[.slice a_2 B1.length c_2, .slice e_2 E1.length d_2, .int .i64 r1, .int .i64 t1] 49)) b3))
  have r_a1_3 := hid (r_a1_2.out.mono EBlob.stable (b_call (b_alloc (Below.refl w2.heap.size w2) (Obj.cells #[.slice a_2 B1.length c_2, .slice e_2 E1.length d_2, .int .i64 r1, .int .i64 t1] 49)) b3))
  have r_d1_3 := hid (r_d1_2.out.mono EEntry.stable (b_call (b_alloc (Below.refl w2.heap.size w2) (Obj.cells #[.slice a_2 B1.length c_2, .slice e_2 E1.length d_2, .int .i64 r1, .int .i64 t1] 49)) b3))
  have r_p1_3 := hid (r_p1_2.out.mono EPart.stable (b_call (b_alloc (Below.refl w2.heap.size w2) (Obj.cells #[.slice a_2 B1.length c_2, .slice e_2 E1.length d_2, .int .i64 r1, .int .i64 t1] 49)) b3))
  have r_a2_3 := hid (r_a2_2.out.mono EBlob.stable (b_call (b_alloc (Below.refl w2.heap.size w2) (Obj.cells #[.slice a_2 B1.length c_2, .slice e_2 E1.length d_2, .int .i64 r1, .int .i64 t1] 49)) b3))
  have r_d2_3 := hid (r_d2_2.out.mono EEntry.stable (b_call (b_alloc (Below.refl w2.heap.size w2) (Obj.cells #[.slice a_2 B1.length c_2, .slice e_2 E1.length d_2, .int .i64 r1, .int .i64 t1] 49)) b3))
  have r_p2_3 := hid (r_p2_2.out.mono EPart.stable (b_call (b_alloc (Below.refl w2.heap.size w2) (Obj.cells #[.slice a_2 B1.length c_2, .slice e_2 E1.length d_2, .int .i64 r1, .int .i64 t1] 49)) b3))
  clear hq_x1_2 hq_q_2 hb2 r_R_2 r_E_2 r_a1_2 r_d1_2 r_p1_2 r_a2_2 r_d2_2 r_p2_2 b3
  go_wp2_with fail
  ((with_reducible refine (law_sameParts_yes _ _ _ PL r_p1_3.out r_p2_3.out).mono ?_); rintro e4 w4 ⟨rfl, b4⟩)
  have hq_x2_4 := hid (stays b4 hq_x2_3.out)
  have hq_x1_4 := hid (stays b4 hq_x1_3.out)
  have hq_q_4 := hid (stays b4 hq_q_3.out)
  have hb4 := hid (b_call hb3.out b4)
  have r_R_4 := hid (r_R_3.out.mono EBlob.stable (b_call (Below.refl w3.heap.size w3) b4))
  have r_E_4 := hid (r_E_3.out.mono EEntry.stable (b_call (Below.refl w3.heap.size w3) b4))
  have r_a1_4 := hid (r_a1_3.out.mono EBlob.stable (b_call (Below.refl w3.heap.size w3) b4))
  have r_d1_4 := hid (r_d1_3.out.mono EEntry.stable (b_call (Below.refl w3.heap.size w3) b4))
  have r_p1_4 := hid (r_p1_3.out.mono EPart.stable (b_call (Below.refl w3.heap.size w3) b4))
  have r_a2_4 := hid (r_a2_3.out.mono EBlob.stable (b_call (Below.refl w3.heap.size w3) b4))
  have r_d2_4 := hid (r_d2_3.out.mono EEntry.stable (b_call (Below.refl w3.heap.size w3) b4))
  have r_p2_4 := hid (r_p2_3.out.mono EPart.stable (b_call (Below.refl w3.heap.size w3) b4))
  clear hq_x2_3 hq_x1_3 hq_q_3 hb3 r_R_3 r_E_3 r_a1_3 r_d1_3 r_p1_3 r_a2_3 r_d2_3 r_p2_3 b4
  go_wp2_with fail
  go_ret
  exact ⟨rfl, hb4.out⟩
theorem StoreGets_walk (w : World) (cs : Array Value) (x : Store) (s : ByteArray) (hx : VStore w cs.toList x) (_ : s.size ≤ 140737488351232) :
    Calls Try.prog 7 #[.agg cs, .string s] w fun e w' => e = .returned (.bool true) ∧ Below w.heap.size w w' := by
  obtain ⟨bv, ev, hc, hp, he, -⟩ := hx
  obtain rfl : cs = #[bv, ev, .int .i64 x.room, .int .i64 x.clock] := by
    cases cs
    simp only at hc
    rw [hc]
  exact StoreGets_walk' bv ev x.blobs x.entries x.room x.clock s w hp he
end Go.Proofs.Ytcbopanekmpllaa
