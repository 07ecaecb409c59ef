/-
  The law EvictWastes: its walk. Printed by gen_wstw.py.
-/
import Derived.Test.YtojebioolflbkaaGreatWst
namespace Go.Proofs.YtojebioolflbkaaGreat
open Go.RowKit

theorem store_bulk {bs : List Blob} {es : List Entry} {r t : Int} (h : storeFault bs es r t = 0) : bulkN bs es ≤ 8388608 := by have := (store_small h).2.2; omega
theorem reach_AllP (v u : Value) (bs : List Blob) (es : List Entry) (r t : Int) (w : World) (h : RBl w v bs) (g : RE w u es) (hN : bulkN bs es ≤ 8388608) : Calls Tryz.prog 49 #[.agg #[v, u, .int .i64 r, .int .i64 t]] w (AllPost bs (allOf bs es) w) :=
  (reach_All v u bs es r t w h g hN).mono fun _ _ h => h.all
theorem ref_ReachAllP (v u : Value) (bs : List Blob) (es : List Entry) (r t : Int) (w : World) (h : RBl w v bs) (g : RE w u es) (hN : bulkN bs es ≤ 8388608) : Calls Tryz.prog 52 #[.agg #[v, u, .int .i64 r, .int .i64 t]] w (AllPost bs (allOf bs es) w) :=
  (ref_ReachAll v u bs es r t w h g hN).mono fun _ _ h => h.all
theorem evict_Waste (v u : Value) (bs : List Blob) (es : List Entry) (r t : Int) (w : World) (h : RBl w v bs) (g : RE w u es) :
    Calls Tryz.prog 18 #[.agg #[v, u, .int .i64 r, .int .i64 t]] w (WastePost (storeFault bs es r t) (wasteIn (allOf bs es) bs) w) :=
  evict_Waste' v u bs es r t w h g _ _ (fun w h g => store_Check v u bs es r t w h g) (fun hz w h g => reach_AllP v u bs es r t w h g (store_bulk hz))
theorem ref_Wasted (v u : Value) (bs : List Blob) (es : List Entry) (r t : Int) (w : World) (h : RBl w v bs) (g : RE w u es) :
    Calls Tryz.prog 19 #[.agg #[v, u, .int .i64 r, .int .i64 t]] w (WastePost (storeFault bs es r t) (wasteIn (allOf bs es) bs) w) :=
  ref_Wasted' v u bs es r t w h g _ _ (fun w h g => ref_StoreFault v u bs es r t w h g) (fun hz w h g => ref_ReachAllP v u bs es r t w h g (store_bulk hz))

set_option maxRecDepth 100000 in
set_option maxHeartbeats 2000000 in
theorem EvictWastes_walk' (v u : Value) (bs : List Blob) (es : List Entry) (r t : Int) (w : World) (h : RBl w v bs) (g : RE w u es) :
    Calls Tryz.prog 4 #[.agg #[v, u, .int .i64 r, .int .i64 t]] w fun e w' => e = .returned (.bool true) ∧ Below w.heap.size w w' := by
  have f1 := hid fun w (h : RBl w v bs) (g : RE w u es) => evict_Waste v u bs es r t w h g
  have f2 := hid fun w (h : RBl w v bs) (g : RE w u es) => ref_Wasted v u bs es r t w h g
  have hR := hid h
  have hE := hid g
  obtain ⟨a, c, rfl, -⟩ := h
  obtain ⟨a2, c2, rfl, -⟩ := g
  unfold WastePost at f1 f2
  generalize storeFault bs es r t = z at *
  generalize (if z = 0 then wasteIn (allOf bs es) bs else []) = AL at *
  go_enter Tryz.func4, Tryz.ntmps4
  go_wp2_with fail
  ((with_reducible refine (f1.out _ (hR.out.mono EBlob.stable (b_alloc (Below.refl w.heap.size w) (Obj.cells #[.slice a bs.length c, .slice a2 es.length c2, .int .i64 r, .int .i64 t] 25))) (hE.out.mono EEntry.stable (b_alloc (Below.refl w.heap.size w) (Obj.cells #[.slice a bs.length c, .slice a2 es.length c2, .int .i64 r, .int .i64 t] 25)))).mono ?_); rintro e1 w1 ⟨v1, rfl, rl1, b1⟩)
  have hq_q_1 := hid (stays b1 (heap_alloc_new w (Obj.cells #[.slice a bs.length c, .slice a2 es.length c2, .int .i64 r, .int .i64 t] 25)))
  have hb1 := hid (b_call (b_alloc (Below.refl w.heap.size w) (Obj.cells #[.slice a bs.length c, .slice a2 es.length c2, .int .i64 r, .int .i64 t] 25)) b1)
  have r_R_1 := hid (hR.out.mono EBlob.stable (b_call (b_alloc (Below.refl w.heap.size w) (Obj.cells #[.slice a bs.length c, .slice a2 es.length c2, .int .i64 r, .int .i64 t] 25)) b1))
  have r_E_1 := hid (hE.out.mono EEntry.stable (b_call (b_alloc (Below.refl w.heap.size w) (Obj.cells #[.slice a bs.length c, .slice a2 es.length c2, .int .i64 r, .int .i64 t] 25)) b1))
  have r_l1_1 := hid rl1
  clear rl1 b1
  obtain ⟨x_q_0, x_q_1, x_q_2, x_q_3⟩ := box4f hq_q_1.out
  have l_q := heap_lt hq_q_1.out
  go_wp2_with fail
  ((with_reducible refine (f2.out _ r_R_1.out r_E_1.out).mono ?_); rintro e2 w2 ⟨v2, rfl, rl2, b2⟩)
  clear x_q_0 x_q_1 x_q_2 x_q_3 l_q
  have hq_q_2 := hid (stays b2 hq_q_1.out)
  have hb2 := hid (b_call hb1.out b2)
  have r_R_2 := hid (r_R_1.out.mono EBlob.stable (b_call (Below.refl w1.heap.size w1) b2))
  have r_E_2 := hid (r_E_1.out.mono EEntry.stable (b_call (Below.refl w1.heap.size w1) b2))
  have r_l1_2 := hid (r_l1_1.out.mono EStr.stable (b_call (Below.refl w1.heap.size w1) b2))
  have r_l2_2 := hid rl2
  clear hq_q_1 hb1 r_R_1 r_E_1 r_l1_1 rl2 b2
  go_wp2_with fail
  ((with_reducible refine (law_sameTexts_yes _ _ _ AL r_l1_2.out r_l2_2.out).mono ?_); rintro e3 w3 ⟨rfl, b3⟩)
  have hq_q_3 := hid (stays b3 hq_q_2.out)
  have hb3 := hid (b_call hb2.out b3)
  have r_R_3 := hid (r_R_2.out.mono EBlob.stable (b_call (Below.refl w2.heap.size w2) b3))
  have r_E_3 := hid (r_E_2.out.mono EEntry.stable (b_call (Below.refl w2.heap.size w2) b3))
  have r_l1_3 := hid (r_l1_2.out.mono EStr.stable (b_call (Below.refl w2.heap.size w2) b3))
  have r_l2_3 := hid (r_l2_2.out.mono EStr.stable (b_call (Below.refl w2.heap.size w2) b3))
  clear hq_q_2 hb2 r_R_2 r_E_2 r_l1_2 r_l2_2 b3
  go_wp2_with fail
  go_ret
  exact ⟨rfl, hb3.out⟩
theorem EvictWastes_walk (w : World) (cs : Array Value) (x : Store) (hx : VStore w cs.toList x) :
    Calls Tryz.prog 4 #[.agg cs] w fun e w' => e = .returned (.bool true) ∧ Below w.heap.size w w' := by
  obtain ⟨bv, ev, hc, hp, he, -⟩ := hx
  obtain rfl : cs = #[bv, ev, .int .i64 x.room, .int .i64 x.clock] := by
    cases cs
    simp only at hc
    rw [hc]
  exact EvictWastes_walk' bv ev x.blobs x.entries x.room x.clock w hp he
end Go.Proofs.YtojebioolflbkaaGreat
