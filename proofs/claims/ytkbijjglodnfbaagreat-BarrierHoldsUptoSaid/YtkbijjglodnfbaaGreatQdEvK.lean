/-
  evict.Run and the reference's Evicted over all arguments; the law EvictRuns: its walk. Printed by gen_evw.py.
-/
import Derived.Test.YtkbijjglodnfbaaGreatQdEvJ
namespace Go.Proofs.YtkbijjglodnfbaaGreat
open Go.RowKit

theorem evict_Run (v u : Value) (bs : List Blob) (es : List Entry) (r t m : Int) (w : World) (h : RBl w v bs) (g : RE w u es) :
    Calls Tryz.prog 20 #[.agg #[v, u, .int .i64 r, .int .i64 t], .int .i64 m] w (EvPost (evO (storeFault bs es r t) bs es r m) r t w) :=
  evict_Run' v u bs es r t m w h g _ store_small (fun w h g => store_Check v u bs es r t w h g)
theorem ref_Evicted (v u : Value) (bs : List Blob) (es : List Entry) (r t m : Int) (w : World) (h : RBl w v bs) (g : RE w u es) :
    Calls Tryz.prog 21 #[.agg #[v, u, .int .i64 r, .int .i64 t], .int .i64 m] w (EvPost (evO (storeFault bs es r t) bs es r m) r t w) :=
  ref_Evicted' v u bs es r t m w h g _ store_small (fun w h g => ref_StoreFault v u bs es r t w h g)

set_option maxRecDepth 100000 in
set_option maxHeartbeats 1000000 in
theorem EvictRuns_walk' (v u : Value) (bs : List Blob) (es : List Entry) (r t : Int) (m : Int) (w : World) (h : RBl w v bs) (g : RE w u es) :
    Calls Tryz.prog 5 #[.agg #[v, u, .int .i64 r, .int .i64 t], .int .i64 m] w fun e w' => e = .returned (.bool true) ∧ Below w.heap.size w w' := by
  have f1 := hid fun w (h : RBl w v bs) (g : RE w u es) => evict_Run v u bs es r t m w h g
  have f2 := hid fun w (h : RBl w v bs) (g : RE w u es) => ref_Evicted v u bs es r t m w h g
  have hR := hid h
  have hE := hid g
  unfold EvPost VS at f1 f2
  generalize evO (storeFault bs es r t) bs es r m = O at *
  obtain ⟨z, B0, E0, TL⟩ := O
  simp only at f1 f2
  generalize (if z = 0 then (⟨B0, E0, r, t⟩ : Store) else noStore) = S at *
  obtain ⟨B1, E1, r1, t1⟩ := S
  simp only at f1 f2
  obtain ⟨a, c, rfl, -⟩ := h
  obtain ⟨a2, c2, rfl, -⟩ := g
  go_enter Tryz.func5, Tryz.ntmps5
  go_wp2_with fail
  ((with_reducible refine (f1.out _ (hR.out.mono EBlob.stable (b_alloc (Below.refl w.heap.size w) _)) (hE.out.mono EEntry.stable (b_alloc (Below.refl w.heap.size w) _))).mono ?_); rintro e1 w1 ⟨_, pv1, rfl, ⟨A1, D1, rfl, ra1, rd1⟩, rp1, b1⟩)
  have hq_q_1 := hid (stays b1 (heap_alloc_new w _))
  have hb1 := hid (b_call (b_alloc (Below.refl w.heap.size w) _) b1)
  have r_R_1 := hid (hR.out.mono EBlob.stable (b_call (b_alloc (Below.refl w.heap.size w) _) b1))
  have r_E_1 := hid (hE.out.mono EEntry.stable (b_call (b_alloc (Below.refl w.heap.size w) _) b1))
  have r_a1_1 := hid ra1
  have r_d1_1 := hid rd1
  have r_p1_1 := hid rp1
  clear ra1 rd1 rp1 b1
  obtain ⟨a_1, c_1, rfl, -⟩ := id r_a1_1.out
  obtain ⟨e_1, d_1, rfl, -⟩ := id r_d1_1.out
  obtain ⟨g_1, k_1, rfl, -⟩ := id r_p1_1.out
  obtain ⟨x_q_0, x_q_1, x_q_2, x_q_3⟩ := box4f hq_q_1.out
  have l_q := heap_lt hq_q_1.out
  go_wp2_with fail
  ((with_reducible refine (f2.out _ (r_R_1.out.mono EBlob.stable (b_alloc (Below.refl w1.heap.size w1) _)) (r_E_1.out.mono EEntry.stable (b_alloc (Below.refl w1.heap.size w1) _))).mono ?_); rintro e2 w2 ⟨_, pv2, rfl, ⟨A2, D2, rfl, ra2, rd2⟩, rp2, b2⟩)
  clear x_q_0 x_q_1 x_q_2 x_q_3 l_q
  have hq_x1_2 := hid (stays b2 (heap_alloc_new w1 _))
  have hq_q_2 := hid (stays b2 (hold hq_q_1.out))
  have hb2 := hid (b_call (b_alloc hb1.out _) b2)
  have r_R_2 := hid (r_R_1.out.mono EBlob.stable (b_call (b_alloc (Below.refl w1.heap.size w1) _) b2))
  have r_E_2 := hid (r_E_1.out.mono EEntry.stable (b_call (b_alloc (Below.refl w1.heap.size w1) _) b2))
  have r_a1_2 := hid (r_a1_1.out.mono EBlob.stable (b_call (b_alloc (Below.refl w1.heap.size w1) _) b2))
  have r_d1_2 := hid (r_d1_1.out.mono EEntry.stable (b_call (b_alloc (Below.refl w1.heap.size w1) _) b2))
  have r_p1_2 := hid (r_p1_1.out.mono EStr.stable (b_call (b_alloc (Below.refl w1.heap.size w1) _) b2))
  have r_a2_2 := hid ra2
  have r_d2_2 := hid rd2
  have r_p2_2 := hid rp2
  clear hq_q_1 hb1 r_R_1 r_E_1 r_a1_1 r_d1_1 r_p1_1 ra2 rd2 rp2 b2
  obtain ⟨a_2, c_2, rfl, -⟩ := id r_a2_2.out
  obtain ⟨e_2, d_2, rfl, -⟩ := id r_d2_2.out
  obtain ⟨g_2, k_2, rfl, -⟩ := id r_p2_2.out
  obtain ⟨x_x1_0, x_x1_1, x_x1_2, x_x1_3⟩ := box4f hq_x1_2.out
  have l_x1 := heap_lt hq_x1_2.out
  obtain ⟨x_q_0, x_q_1, x_q_2, x_q_3⟩ := box4f hq_q_2.out
  have l_q := heap_lt hq_q_2.out
  go_wp2_with fail
  ((with_reducible refine (law_sameStore_yes _ _ _ _ B1 E1 r1 t1 _ (r_a1_2.out.mono EBlob.stable (b_alloc (Below.refl w2.heap.size w2) _)) (r_d1_2.out.mono EEntry.stable (b_alloc (Below.refl w2.heap.size w2) _)) (r_a2_2.out.mono EBlob.stable (b_alloc (Below.refl w2.heap.size w2) _)) (r_d2_2.out.mono EEntry.stable (b_alloc (Below.refl w2.heap.size w2) _))).mono ?_); rintro e3 w3 ⟨rfl, b3⟩)
  clear x_x1_0 x_x1_1 x_x1_2 x_x1_3 l_x1 x_q_0 x_q_1 x_q_2 x_q_3 l_q
  have hq_x2_3 := hid (stays b3 (heap_alloc_new w2 _))
  have hq_x1_3 := hid (stays b3 (hold hq_x1_2.out))
  have hq_q_3 := hid (stays b3 (hold hq_q_2.out))
  have hb3 := hid (b_call (b_alloc hb2.out _) b3)
  have r_R_3 := hid (r_R_2.out.mono EBlob.stable (b_call (b_alloc (Below.refl w2.heap.size w2) _) b3))
  have r_E_3 := hid (r_E_2.out.mono EEntry.stable (b_call (b_alloc (Below.refl w2.heap.size w2) _) b3))
  have r_a1_3 := hid (r_a1_2.out.mono EBlob.stable (b_call (b_alloc (Below.refl w2.heap.size w2) _) b3))
  have r_d1_3 := hid (r_d1_2.out.mono EEntry.stable (b_call (b_alloc (Below.refl w2.heap.size w2) _) b3))
  have r_p1_3 := hid (r_p1_2.out.mono EStr.stable (b_call (b_alloc (Below.refl w2.heap.size w2) _) b3))
  have r_a2_3 := hid (r_a2_2.out.mono EBlob.stable (b_call (b_alloc (Below.refl w2.heap.size w2) _) b3))
  have r_d2_3 := hid (r_d2_2.out.mono EEntry.stable (b_call (b_alloc (Below.refl w2.heap.size w2) _) b3))
  have r_p2_3 := hid (r_p2_2.out.mono EStr.stable (b_call (b_alloc (Below.refl w2.heap.size w2) _) b3))
  clear hq_x1_2 hq_q_2 hb2 r_R_2 r_E_2 r_a1_2 r_d1_2 r_p1_2 r_a2_2 r_d2_2 r_p2_2 b3
  go_wp2_with fail
  ((with_reducible refine (law_sameTexts_yes _ _ _ TL r_p1_3.out r_p2_3.out).mono ?_); rintro e4 w4 ⟨rfl, b4⟩)
  have hq_x2_4 := hid (stays b4 hq_x2_3.out)
  have hq_x1_4 := hid (stays b4 hq_x1_3.out)
  have hq_q_4 := hid (stays b4 hq_q_3.out)
  have hb4 := hid (b_call hb3.out b4)
  have r_R_4 := hid (r_R_3.out.mono EBlob.stable (b_call (Below.refl w3.heap.size w3) b4))
  have r_E_4 := hid (r_E_3.out.mono EEntry.stable (b_call (Below.refl w3.heap.size w3) b4))
  have r_a1_4 := hid (r_a1_3.out.mono EBlob.stable (b_call (Below.refl w3.heap.size w3) b4))
  have r_d1_4 := hid (r_d1_3.out.mono EEntry.stable (b_call (Below.refl w3.heap.size w3) b4))
  have r_p1_4 := hid (r_p1_3.out.mono EStr.stable (b_call (Below.refl w3.heap.size w3) b4))
  have r_a2_4 := hid (r_a2_3.out.mono EBlob.stable (b_call (Below.refl w3.heap.size w3) b4))
  have r_d2_4 := hid (r_d2_3.out.mono EEntry.stable (b_call (Below.refl w3.heap.size w3) b4))
  have r_p2_4 := hid (r_p2_3.out.mono EStr.stable (b_call (Below.refl w3.heap.size w3) b4))
  clear hq_x2_3 hq_x1_3 hq_q_3 hb3 r_R_3 r_E_3 r_a1_3 r_d1_3 r_p1_3 r_a2_3 r_d2_3 r_p2_3 b4
  have q2 : (z == z) = true := by simp
  go_wp2_with fail
  go_ret
  exact ⟨rfl, hb4.out⟩
theorem EvictRuns_walk (w : World) (cs : Array Value) (x : Store) (m : Int) (hx : VStore w cs.toList x) (_ : (Lit.int .i64 m).wf = true) :
    Calls Tryz.prog 5 #[.agg cs, .int .i64 m] w fun e w' => e = .returned (.bool true) ∧ Below w.heap.size w w' := by
  obtain ⟨bv, ev, hc, hp, he, -⟩ := hx
  obtain rfl : cs = #[bv, ev, .int .i64 x.room, .int .i64 x.clock] := by
    cases cs
    simp only at hc
    rw [hc]
  exact EvictRuns_walk' bv ev x.blobs x.entries x.room x.clock m w hp he
end Go.Proofs.YtkbijjglodnfbaaGreat
