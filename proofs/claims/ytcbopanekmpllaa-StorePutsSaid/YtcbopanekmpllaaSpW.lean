/-
  The law StorePuts: its walk. Printed by gen_spw.py.
-/
import Derived.Test.YtcbopanekmpllaaSpc
namespace Go.Proofs.Ytcbopanekmpllaa
open Go.RowKit

set_option maxRecDepth 100000 in
set_option maxHeartbeats 1000000 in
theorem StorePuts_walk' (v u b : Value) (bs : List Blob) (es : List Entry) (r t : Int) (s : ByteArray) (ps : List Part) (w : World) (h : RBl w v bs) (g : RE w u es) (gp : RP w b ps) (hs : s.size ≤ 140737488351232) :
    Calls Try.prog 11 #[.agg #[v, u, .int .i64 r, .int .i64 t], .string s, b] w fun e w' => e = .returned (.bool true) ∧ Below w.heap.size w w' := by
  have f1 := hid fun w (h : RBl w v bs) (g : RE w u es) (gp : RP w b ps) => store_Put v u b bs es r t s ps w h g gp hs
  have f2 := hid fun w (h : RBl w v bs) (g : RE w u es) (gp : RP w b ps) => ref_StorePut v u b bs es r t s ps w h g gp hs
  have hR := hid h
  have hE := hid g
  have hP := hid gp
  obtain ⟨a, c, rfl, -⟩ := h
  obtain ⟨a2, c2', rfl, -⟩ := g
  unfold StRes VS at f1 f2
  generalize spsE bs es r t s ps = ee at *
  generalize (if ee = 0 then (⟨bs, putL (spX s ps t) es, r, t + 1⟩ : Store) else noStore) = S1 at *
  obtain ⟨B1, E1, r1, t1⟩ := S1
  simp only at f1 f2
  go_enter Try.func11, Try.ntmps11
  go_wp2_with fail
  ((with_reducible refine (f1.out _ (hR.out.mono EBlob.stable (b_alloc (Below.refl w.heap.size w) (Obj.cells #[.slice a bs.length c, .slice a2 es.length c2', .int .i64 r, .int .i64 t] 49))) (hE.out.mono EEntry.stable (b_alloc (Below.refl w.heap.size w) (Obj.cells #[.slice a bs.length c, .slice a2 es.length c2', .int .i64 r, .int .i64 t] 49))) (hP.out.mono EPart.stable (b_alloc (Below.refl w.heap.size w) (Obj.cells #[.slice a bs.length c, .slice a2 es.length c2', .int .i64 r, .int .i64 t] 49)))).mono ?_); rintro e1 w1 ⟨_, rfl, ⟨A1, D1, rfl, ra1, rd1⟩, b1⟩)
  have hq_q_1 := hid (stays b1 (heap_alloc_new w (Obj.cells #[.slice a bs.length c, .slice a2 es.length c2', .int .i64 r, .int .i64 t] 49)))
  have hb1 := hid (b_call (b_alloc (Below.refl w.heap.size w) (Obj.cells #[.slice a bs.length c, .slice a2 es.length c2', .int .i64 r, .int .i64 t] 49)) b1)
  have r_R_1 := hid (hR.out.mono EBlob.stable (b_call (b_alloc (Below.refl w.heap.size w) (Obj.cells #[.slice a bs.length c, .slice a2 es.length c2', .int .i64 r, .int .i64 t] 49)) b1))
  have r_E_1 := hid (hE.out.mono EEntry.stable (b_call (b_alloc (Below.refl w.heap.size w) (Obj.cells #[.slice a bs.length c, .slice a2 es.length c2', .int .i64 r, .int .i64 t] 49)) b1))
  have r_P_1 := hid (hP.out.mono EPart.stable (b_call (b_alloc (Below.refl w.heap.size w) (Obj.cells #[.slice a bs.length c, .slice a2 es.length c2', .int .i64 r, .int .i64 t] 49)) b1))
  have r_a1_1 := hid ra1
  have r_d1_1 := hid rd1
  clear ra1 rd1 b1
  obtain ⟨a_1, c_1, rfl, -⟩ := id r_a1_1.out
  obtain ⟨e_1, d_1, rfl, -⟩ := id r_d1_1.out
  obtain ⟨x_q_0, x_q_1, x_q_2, x_q_3⟩ := box4f hq_q_1.out
  have l_q := heap_lt hq_q_1.out
  go_wp2_with fail
  ((with_reducible refine (f2.out _ (r_R_1.out.mono EBlob.stable (b_alloc (Below.refl w1.heap.size w1) (Obj.cells #[.slice a_1 B1.length c_1, .slice e_1 E1.length d_1, .int .i64 r1, .int .i64 t1] 49))) (r_E_1.out.mono EEntry.stable (b_alloc (Below.refl w1.heap.size w1) (Obj.cells #[.slice a_1 B1.length c_1, .slice e_1 E1.length d_1, .int .i64 r1, .int .i64 t1] 49))) (r_P_1.out.mono EPart.stable (b_alloc (Below.refl w1.heap.size w1) (Obj.cells #[.slice a_1 B1.length c_1, .slice e_1 E1.length d_1, .int .i64 r1, .int .i64 t1] 49)))).mono ?_); rintro e2 w2 ⟨_, rfl, ⟨A2, D2, rfl, ra2, rd2⟩, b2⟩)
  clear x_q_0 x_q_1 x_q_2 x_q_3 l_q
  have hq_x1_2 := hid (stays b2 (heap_alloc_new w1 (Obj.cells #[.slice a_1 B1.length c_1, .slice e_1 E1.length d_1, .int .i64 r1, .int .i64 t1] 49)))
  have hq_q_2 := hid (stays b2 ((heap_alloc_old w1 (Obj.cells #[.slice a_1 B1.length c_1, .slice e_1 E1.length d_1, .int .i64 r1, .int .i64 t1] 49) (heap_lt hq_q_1.out)).trans hq_q_1.out))
  have hb2 := hid (b_call (b_alloc hb1.out (Obj.cells #[.slice a_1 B1.length c_1, .slice e_1 E1.length d_1, .int .i64 r1, .int .i64 t1] 49)) b2)
  have r_R_2 := hid (r_R_1.out.mono EBlob.stable (b_call (b_alloc (Below.refl w1.heap.size w1) (Obj.cells #[.slice a_1 B1.length c_1, .slice e_1 E1.length d_1, .int .i64 r1, .int .i64 t1] 49)) b2))
  have r_E_2 := hid (r_E_1.out.mono EEntry.stable (b_call (b_alloc (Below.refl w1.heap.size w1) (Obj.cells #[.slice a_1 B1.length c_1, .slice e_1 E1.length d_1, .int .i64 r1, .int .i64 t1] 49)) b2))
  have r_P_2 := hid (r_P_1.out.mono EPart.stable (b_call (b_alloc (Below.refl w1.heap.size w1) (Obj.cells #[.slice a_1 B1.length c_1, .slice e_1 E1.length d_1, .int .i64 r1, .int .i64 t1] 49)) b2))
  have r_a1_2 := hid (r_a1_1.out.mono EBlob.stable (b_call (b_alloc (Below.refl w1.heap.size w1) (Obj.cells #[.slice a_1 B1.length c_1, .slice e_1 E1.length d_1, .int .i64 r1, .int .i64 t1] 49)) b2))
  have r_d1_2 := hid (r_d1_1.out.mono EEntry.stable (b_call (b_alloc (Below.refl w1.heap.size w1) (Obj.cells #[.slice a_1 B1.length c_1, .slice e_1 E1.length d_1, .int .i64 r1, .int .i64 t1] 49)) b2))
  have r_a2_2 := hid ra2
  have r_d2_2 := hid rd2
  clear hq_q_1 hb1 r_R_1 r_E_1 r_P_1 r_a1_1 r_d1_1 ra2 rd2 b2
  obtain ⟨a_2, c_2, rfl, -⟩ := id r_a2_2.out
  obtain ⟨e_2, d_2, rfl, -⟩ := id r_d2_2.out
  obtain ⟨x_x1_0, x_x1_1, x_x1_2, x_x1_3⟩ := box4f hq_x1_2.out
  have l_x1 := heap_lt hq_x1_2.out
  obtain ⟨x_q_0, x_q_1, x_q_2, x_q_3⟩ := box4f hq_q_2.out
  have l_q := heap_lt hq_q_2.out
  go_wp2_with fail
  ((with_reducible refine (law_sameStore_yes _ _ _ _ B1 E1 r1 t1 _ (r_a1_2.out.mono EBlob.stable (b_alloc (Below.refl w2.heap.size w2) (Obj.cells #[.slice a_2 B1.length c_2, .slice e_2 E1.length d_2, .int .i64 r1, .int .i64 t1] 49))) (r_d1_2.out.mono EEntry.stable (b_alloc (Below.refl w2.heap.size w2) (Obj.cells #[.slice a_2 B1.length c_2, .slice e_2 E1.length d_2, .int .i64 r1, .int .i64 t1] 49))) (r_a2_2.out.mono EBlob.stable (b_alloc (Below.refl w2.heap.size w2) (Obj.cells #[.slice a_2 B1.length c_2, .slice e_2 E1.length d_2, .int .i64 r1, .int .i64 t1] 49))) (r_d2_2.out.mono EEntry.stable (b_alloc (Below.refl w2.heap.size w2) (Obj.cells #[.slice a_2 B1.length c_2, .slice e_2 E1.length d_2, .int .i64 r1, .int .i64 t1] 49)))).mono ?_); rintro e3 w3 ⟨rfl, b3⟩)
  clear x_x1_0 x_x1_1 x_x1_2 x_x1_3 l_x1 x_q_0 x_q_1 x_q_2 x_q_3 l_q
  have hq_x2_3 := hid (stays b3 (heap_alloc_new w2 (Obj.cells #[.slice a_2 B1.length c_2, .slice e_2 E1.length d_2, .int .i64 r1, .int .i64 t1] 49)))
  have hq_x1_3 := hid (stays b3 ((heap_alloc_old w2 (Obj.cells #[.slice a_2 B1.length c_2, .slice e_2 E1.length d_2, .int .i64 r1, .int .i64 t1] 49) (heap_lt hq_x1_2.out)).trans hq_x1_2.out))
  have hq_q_3 := hid (stays b3 ((heap_alloc_old w2 (Obj.cells #[.slice a_2 B1.length c_2, .slice e_2 E1.length d_2, .int .i64 r1, .int .i64 t1] 49) (heap_lt hq_q_2.out)).trans hq_q_2.out))
  have hb3 := hid (b_call (b_alloc hb2.out (Obj.cells #[.slice a_2 B1.length c_2, .slice e_2 E1.length d_2, .int .i64 r1, .int .i64 t1] 49)) b3)
  have r_R_3 := hid (r_R_2.out.mono EBlob.stable (b_call (b_alloc (Below.refl w2.heap.size w2) (Obj.cells #[.slice a_2 B1.length c_2, .slice e_2 E1.length d_2, .int .i64 r1, .int .i64 t1] 49)) b3))
  have r_E_3 := hid (r_E_2.out.mono EEntry.stable (b_call (b_alloc (Below.refl w2.heap.size w2) (Obj.cells #[.slice a_2 B1.length c_2, .slice e_2 E1.length d_2, .int .i64 r1, .int .i64 t1] 49)) b3))
  have r_P_3 := hid (r_P_2.out.mono EPart.stable (b_call (b_alloc (Below.refl w2.heap.size w2) (Obj.cells #[.slice a_2 B1.length c_2, .slice e_2 E1.length d_2, .int .i64 r1, .int .i64 t1] 49)) b3))
  have r_a1_3 := hid (r_a1_2.out.mono EBlob.stable (b_call (b_alloc (Below.refl w2.heap.size w2) (Obj.cells #[.slice a_2 B1.length c_2, .slice e_2 E1.length d_2, .int .i64 r1, .int .i64 t1] 49)) b3))
  have r_d1_3 := hid (r_d1_2.out.mono EEntry.stable (b_call (b_alloc (Below.refl w2.heap.size w2) (Obj.cells #[.slice a_2 B1.length c_2, .slice e_2 E1.length d_2, .int .i64 r1, .int .i64 t1] 49)) b3))
  have r_a2_3 := hid (r_a2_2.out.mono EBlob.stable (b_call (b_alloc (Below.refl w2.heap.size w2) (Obj.cells #[.slice a_2 B1.length c_2, .slice e_2 E1.length d_2, .int .i64 r1, .int .i64 t1] 49)) b3))
  have r_d2_3 := hid (r_d2_2.out.mono EEntry.stable (b_call (b_alloc (Below.refl w2.heap.size w2) (Obj.cells #[.slice a_2 B1.length c_2, .slice e_2 E1.length d_2, .int .i64 r1, .int .i64 t1] 49)) b3))
  clear hq_x1_2 hq_q_2 hb2 r_R_2 r_E_2 r_P_2 r_a1_2 r_d1_2 r_a2_2 r_d2_2 b3
  go_wp2_with fail
  go_ret
  exact ⟨rfl, hb3.out⟩
theorem StorePuts_walk (w : World) (cs : Array Value) (x : Store) (s : ByteArray) (b : Value) (ps : List Part) (hx : VStore w cs.toList x) (hs : s.size ≤ 140737488351232) (gp : RP w b ps) :
    Calls Try.prog 11 #[.agg cs, .string s, b] w fun e w' => e = .returned (.bool true) ∧ Below w.heap.size w w' := by
  obtain ⟨bv, ev, hc, hp, he, -⟩ := hx
  obtain rfl : cs = #[bv, ev, .int .i64 x.room, .int .i64 x.clock] := by
    cases cs
    simp only at hc
    rw [hc]
  exact StorePuts_walk' bv ev b x.blobs x.entries x.room x.clock s ps w hp he gp hs
end Go.Proofs.Ytcbopanekmpllaa
