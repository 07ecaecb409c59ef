/-
  reach.All and the reference's ReachAll; the law ReachAlls: its walk.
-/
import Derived.Test.YtojebioolflbkaaGreatRti
import Derived.Test.YtojebioolflbkaaGreatRtr
import Derived.Test.YtojebioolflbkaaGreatSkf
import Derived.Deep.RegionHeld3
namespace Go.Proofs.YtojebioolflbkaaGreat
open Go.RowKit Go.Maps

set_option maxRecDepth 100000 in
set_option maxHeartbeats 4000000 in
theorem reach_All (v u : Value) (bs : List Blob) (es : List Entry) (r t : Int) (w : World) (h : RBl w v bs) (g : RE w u es) (hN : bulkN bs es ≤ 8388608) :
    Calls Tryz.prog 49 #[.agg #[v, u, .int .i64 r, .int .i64 t]] w (FromPost bs (rootsL bs es) w) := by
  have f1 := hid (fun w (h : RBl w v bs) (g : RE w u es) => reach_Roots v u bs es r t w h g hN)
  have f2 := hid (fun x w (h : RBl w v bs) (g : RT w x (rootsL bs es)) => reach_From v x bs (rootsL bs es) w h g)
  have hR := hid h
  have hE := hid g
  unfold FromPost
  unfold RootsPost at f1
  unfold FromPost at f2
  generalize rootsL bs es = RL at *
  obtain ⟨a, c, rfl, -⟩ := h
  obtain ⟨a2, c2, rfl, -⟩ := g
  obtain ⟨w1, hw1⟩ : ∃ w1 : World, w1 = w.alloc (Obj.cells #[.slice a bs.length c, .slice a2 es.length c2, .int .i64 r, .int .i64 t] 25) := ⟨_, rfl⟩
  have hb1 := hid (show Below w.heap.size w w1 by rw [hw1]; exact b_alloc (Below.refl _ _) _)
  have hq1 := hid (show w1.heap[w.heap.size]? = some (.cells #[.slice a bs.length c, .slice a2 es.length c2, .int .i64 r, .int .i64 t] 25 (0, 0)) by rw [hw1]; exact heap_alloc_new w _)
  have hl1 := heap_lt hq1.out
  go_enter Tryz.func49, Tryz.ntmps49
  go_wp2_with fail
  rw [← hw1]
  clear hw1
  have hS := box4f hq1.out
  go_region_held3 (fun w' => w'.cell? ⟨w.heap.size, 0, none⟩ = some (.slice a bs.length c) ∧ w'.cell? ⟨w.heap.size, 1, none⟩ = some (.slice a2 es.length c2) ∧ w'.cell? ⟨w.heap.size, 2, none⟩ = some (.int .i64 r) ∧ w'.cell? ⟨w.heap.size, 3, none⟩ = some (.int .i64 t))
    (first | go_keep | exact hS3 | exact hS2 | exact hS | fail)
    ((first
      | ((with_reducible refine (f1.out w1.drew (hR.out.mono EBlob.stable (hb1.out.drew)) (hE.out.mono EEntry.stable (hb1.out.drew))).mono ?_)
         rintro e w2 ⟨v2, rfl, rT, -, b2⟩
         have hb2 : Below w.heap.size w w2 := b_call hb1.out.drew b2
         have hq2 := (b2.block w.heap.size hl1).trans hq1.out
         have hS2 := box4f hq2
         obtain ⟨a3, c3, rfl, -⟩ := id rT)
      | ((with_reducible refine (f2.out _ w2 (hR.out.mono EBlob.stable hb2) rT).mono ?_)
         rintro e w3 ⟨v3, L, rfl, hC, hl, hsz, r3, o3, b3⟩
         have hb3 : Below w.heap.size w w3 := b_call hb2 b3
         have hq3 := (b3.block w.heap.size (heap_lt hq2)).trans hq2
         have hS3 := box4f hq3)
      | fail))
  replace hb3 := hid hb3
  have o4 := hid (OS.mono o3 hb2.size)
  replace hC := hid hC
  replace hsz := hid hsz
  replace r3 := hid r3
  clear hS hS2 hS3 hb2 hq2 hq3 b2 b3 hb1 hq1 hl1 f1 f2 o3
  go_wp2_with fail
  go_ret
  exact ⟨v3, L, rfl, hC.out, hl, hsz.out, r3.out, o4.out, hb3.out⟩
set_option maxRecDepth 100000 in
set_option maxHeartbeats 4000000 in
theorem ref_ReachAll (v u : Value) (bs : List Blob) (es : List Entry) (r t : Int) (w : World) (h : RBl w v bs) (g : RE w u es) (hN : bulkN bs es ≤ 8388608) :
    Calls Tryz.prog 52 #[.agg #[v, u, .int .i64 r, .int .i64 t]] w (FromPost bs (rootsL bs es) w) := by
  have f1 := hid (fun w (h : RBl w v bs) (g : RE w u es) => ref_ReachRoots v u bs es r t w h g hN)
  have f2 := hid (fun x w (h : RBl w v bs) (g : RT w x (rootsL bs es)) => ref_ReachFrom v x bs (rootsL bs es) w h g)
  have hR := hid h
  have hE := hid g
  unfold FromPost
  unfold RootsPost at f1
  unfold FromPost at f2
  generalize rootsL bs es = RL at *
  obtain ⟨a, c, rfl, -⟩ := h
  obtain ⟨a2, c2, rfl, -⟩ := g
  obtain ⟨w1, hw1⟩ : ∃ w1 : World, w1 = w.alloc (Obj.cells #[.slice a bs.length c, .slice a2 es.length c2, .int .i64 r, .int .i64 t] 25) := ⟨_, rfl⟩
  have hb1 := hid (show Below w.heap.size w w1 by rw [hw1]; exact b_alloc (Below.refl _ _) _)
  have hq1 := hid (show w1.heap[w.heap.size]? = some (.cells #[.slice a bs.length c, .slice a2 es.length c2, .int .i64 r, .int .i64 t] 25 (0, 0)) by rw [hw1]; exact heap_alloc_new w _)
  have hl1 := heap_lt hq1.out
  go_enter Tryz.func52, Tryz.ntmps52
  go_wp2_with fail
  rw [← hw1]
  clear hw1
  have hS := box4f hq1.out
  go_region_held3 (fun w' => w'.cell? ⟨w.heap.size, 0, none⟩ = some (.slice a bs.length c) ∧ w'.cell? ⟨w.heap.size, 1, none⟩ = some (.slice a2 es.length c2) ∧ w'.cell? ⟨w.heap.size, 2, none⟩ = some (.int .i64 r) ∧ w'.cell? ⟨w.heap.size, 3, none⟩ = some (.int .i64 t))
    (first | go_keep | exact hS3 | exact hS2 | exact hS | fail)
    ((first
      | ((with_reducible refine (f1.out w1.drew (hR.out.mono EBlob.stable (hb1.out.drew)) (hE.out.mono EEntry.stable (hb1.out.drew))).mono ?_)
         rintro e w2 ⟨v2, rfl, rT, -, b2⟩
         have hb2 : Below w.heap.size w w2 := b_call hb1.out.drew b2
         have hq2 := (b2.block w.heap.size hl1).trans hq1.out
         have hS2 := box4f hq2
         obtain ⟨a3, c3, rfl, -⟩ := id rT)
      | ((with_reducible refine (f2.out _ w2 (hR.out.mono EBlob.stable hb2) rT).mono ?_)
         rintro e w3 ⟨v3, L, rfl, hC, hl, hsz, r3, o3, b3⟩
         have hb3 : Below w.heap.size w w3 := b_call hb2 b3
         have hq3 := (b3.block w.heap.size (heap_lt hq2)).trans hq2
         have hS3 := box4f hq3)
      | fail))
  replace hb3 := hid hb3
  have o4 := hid (OS.mono o3 hb2.size)
  replace hC := hid hC
  replace hsz := hid hsz
  replace r3 := hid r3
  clear hS hS2 hS3 hb2 hq2 hq3 b2 b3 hb1 hq1 hl1 f1 f2 o3
  go_wp2_with fail
  go_ret
  exact ⟨v3, L, rfl, hC.out, hl, hsz.out, r3.out, o4.out, hb3.out⟩

end Go.Proofs.YtojebioolflbkaaGreat
