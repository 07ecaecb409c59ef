/-
  reach.All and the reference's ReachAll; the law ReachAlls: its walk.
-/
import Derived.Test.YtojebioolflbkaaRti
import Derived.Test.YtojebioolflbkaaRtr
import Derived.Test.YtojebioolflbkaaSkf
import Derived.Deep.RegionHeld3
namespace Go.Proofs.Ytojebioolflbkaa
open Go.RowKit Go.Maps

set_option maxRecDepth 100000 in
set_option maxHeartbeats 4000000 in
theorem reach_All (v u : Value) (bs : List Blob) (es : List Entry) (r t : Int) (w : World) (h : RBl w v bs) (g : RE w u es) (hN : bulkN bs es ≤ 8388608) :
    Calls Try.prog 14 #[.agg #[v, u, .int .i64 r, .int .i64 t]] w (FromPost bs (rootsL bs es) w) := by
  have f1 := hid (fun w (h : RBl w v bs) (g : RE w u es) => reach_Roots v u bs es r t w h g hN)
  have f2 := hid (fun x w (h : RBl w v bs) (g : RT w x (rootsL bs es)) => reach_From v x bs (rootsL bs es) w h g)
  have hR := hid h
  have hE := hid g
  unfold FromPost
  unfold RootsPost at f1
  unfold FromPost at f2
  generalize rootsL bs es = RL at *
  obtain ⟨a, c, rfl, -⟩ := h
  obtain ⟨a2, c2, rfl, -⟩ := g
  obtain ⟨w1, hw1⟩ : ∃ w1 : World, w1 = w.alloc (Obj.cells #[.slice a bs.length c, .slice a2 es.length c2, .int .i64 r, .int .i64 t] 39) := ⟨_, rfl⟩
  have hb1 := hid (show Below w.heap.size w w1 by rw [hw1]; exact b_alloc (Below.refl _ _) _)
  have hq1 := hid (show w1.heap[w.heap.size]? = some (.cells #[.slice a bs.length c, .slice a2 es.length c2, .int .i64 r, .int .i64 t] 39 (0, 0)) by rw [hw1]; exact heap_alloc_new w _)
  have hl1 := heap_lt hq1.out
  go_enter Try.func14, Try.ntmps14
  go_wp2_with fail
  rw [← hw1]
  clear hw1
  have hS := box4f hq1.out
  go_region_held3 (fun w' => w'.cell? ⟨w.heap.size, 0, none⟩ = some (.slice a bs.length c) ∧ w'.cell? ⟨w.heap.size, 1, none⟩ = some (.slice a2 es.length c2) ∧ w'.cell? ⟨w.heap.size, 2, none⟩ = some (.int .i64 r) ∧ w'.cell? ⟨w.heap.size, 3, none⟩ = some (.int .i64 t))
    (first | go_keep | exact hS3 | exact hS2 | exact hS | fail)
    ((first
      | ((with_reducible refine (f1.out w1.drew (hR.out.mono EBlob.stable (hb1.out.drew)) (hE.out.mono EEntry.stable (hb1.out.drew))).mono ?_)
         rintro e w2 ⟨v2, rfl, rT, -, b2⟩
         have hb2 : Below w.heap.size w w2 := b_call hb1.out.drew b2
         have hq2 := (b2.block w.heap.size hl1).trans hq1.out
         have hS2 := box4f hq2
         obtain ⟨a3, c3, rfl, -⟩ := id rT)
      | ((with_reducible refine (f2.out _ w2 (hR.out.mono EBlob.stable hb2) rT).mono ?_)
         rintro e w3 ⟨v3, L, rfl, hC, hl, hsz, r3, o3, b3⟩
         have hb3 : Below w.heap.size w w3 := b_call hb2 b3
         have hq3 := (b3.block w.heap.size (heap_lt hq2)).trans hq2
         have hS3 := box4f hq3)
      | fail))
  replace hb3 := hid hb3
  have o4 := hid (OS.mono o3 hb2.size)
  replace hC := hid hC
  replace hsz := hid hsz
  replace r3 := hid r3
  clear hS hS2 hS3 hb2 hq2 hq3 b2 b3 hb1 hq1 hl1 f1 f2 o3
  go_wp2_with fail
  go_ret
  exact ⟨v3, L, rfl, hC.out, hl, hsz.out, r3.out, o4.out, hb3.out⟩
set_option maxRecDepth 100000 in
set_option maxHeartbeats 4000000 in
theorem ref_ReachAll (v u : Value) (bs : List Blob) (es : List Entry) (r t : Int) (w : World) (h : RBl w v bs) (g : RE w u es) (hN : bulkN bs es ≤ 8388608) :
    Calls Try.prog 16 #[.agg #[v, u, .int .i64 r, .int .i64 t]] w (FromPost bs (rootsL bs es) w) := by
  have f1 := hid (fun w (h : RBl w v bs) (g : RE w u es) => ref_ReachRoots v u bs es r t w h g hN)
  have f2 := hid (fun x w (h : RBl w v bs) (g : RT w x (rootsL bs es)) => ref_ReachFrom v x bs (rootsL bs es) w h g)
  have hR := hid h
  have hE := hid g
  unfold FromPost
  unfold RootsPost at f1
  unfold FromPost at f2
  generalize rootsL bs es = RL at *
  obtain ⟨a, c, rfl, -⟩ := h
  obtain ⟨a2, c2, rfl, -⟩ := g
  obtain ⟨w1, hw1⟩ : ∃ w1 : World, w1 = w.alloc (Obj.cells #[.slice a bs.length c, .slice a2 es.length c2, .int .i64 r, .int .i64 t] 39) := ⟨_, rfl⟩
  have hb1 := hid (show Below w.heap.size w w1 by rw [hw1]; exact b_alloc (Below.refl _ _) _)
  have hq1 := hid (show w1.heap[w.heap.size]? = some (.cells #[.slice a bs.length c, .slice a2 es.length c2, .int .i64 r, .int .i64 t] 39 (0, 0)) by rw [hw1]; exact heap_alloc_new w _)
  have hl1 := heap_lt hq1.out
  go_enter Try.func16, Try.ntmps16
  go_wp2_with fail
  rw [← hw1]
  clear hw1
  have hS := box4f hq1.out
  go_region_held3 (fun w' => w'.cell? ⟨w.heap.size, 0, none⟩ = some (.slice a bs.length c) ∧ w'.cell? ⟨w.heap.size, 1, none⟩ = some (.slice a2 es.length c2) ∧ w'.cell? ⟨w.heap.size, 2, none⟩ = some (.int .i64 r) ∧ w'.cell? ⟨w.heap.size, 3, none⟩ = some (.int .i64 t))
    (first | go_keep | exact hS3 | exact hS2 | exact hS | fail)
    ((first
      | ((with_reducible refine (f1.out w1.drew (hR.out.mono EBlob.stable (hb1.out.drew)) (hE.out.mono EEntry.stable (hb1.out.drew))).mono ?_)
         rintro e w2 ⟨v2, rfl, rT, -, b2⟩
         have hb2 : Below w.heap.size w w2 := b_call hb1.out.drew b2
         have hq2 := (b2.block w.heap.size hl1).trans hq1.out
         have hS2 := box4f hq2
         obtain ⟨a3, c3, rfl, -⟩ := id rT)
      | ((with_reducible refine (f2.out _ w2 (hR.out.mono EBlob.stable hb2) rT).mono ?_)
         rintro e w3 ⟨v3, L, rfl, hC, hl, hsz, r3, o3, b3⟩
         have hb3 : Below w.heap.size w w3 := b_call hb2 b3
         have hq3 := (b3.block w.heap.size (heap_lt hq2)).trans hq2
         have hS3 := box4f hq3)
      | fail))
  replace hb3 := hid hb3
  have o4 := hid (OS.mono o3 hb2.size)
  replace hC := hid hC
  replace hsz := hid hsz
  replace r3 := hid r3
  clear hS hS2 hS3 hb2 hq2 hq3 b2 b3 hb1 hq1 hl1 f1 f2 o3
  go_wp2_with fail
  go_ret
  exact ⟨v3, L, rfl, hC.out, hl, hsz.out, r3.out, o4.out, hb3.out⟩

set_option maxRecDepth 100000 in
set_option maxHeartbeats 4000000 in
theorem ReachAlls_walk' (v u : Value) (bs : List Blob) (es : List Entry) (r t : Int) (w : World) (h : RBl w v bs) (g : RE w u es) (hN : bulkN bs es ≤ 8388608) :
    Calls Try.prog 5 #[.agg #[v, u, .int .i64 r, .int .i64 t]] w fun e w' => e = .returned (.bool true) ∧ Below w.heap.size w w' := by
  have f1 := hid (fun w (h : RBl w v bs) (g : RE w u es) => reach_Roots v u bs es r t w h g hN)
  have f2 := hid (fun w (h : RBl w v bs) (g : RE w u es) => reach_All v u bs es r t w h g hN)
  have f3 := hid (fun w (h : RBl w v bs) (g : RE w u es) => ref_ReachRoots v u bs es r t w h g hN)
  have f4 := hid (fun w (h : RBl w v bs) (g : RE w u es) => ref_ReachAll v u bs es r t w h g hN)
  have hR := hid h
  have hE := hid g
  unfold RootsPost at f1 f3
  unfold FromPost at f2 f4
  have honly := hid (fun L L' (h : Comes bs (rootsL bs es) L) (g : Comes bs (rootsL bs es) L') => h.only g)
  generalize rootsL bs es = RL at *
  obtain ⟨a, c, rfl, -⟩ := h
  obtain ⟨a2, c2, rfl, -⟩ := g
  obtain ⟨w1, hw1⟩ : ∃ w1 : World, w1 = w.alloc (Obj.cells #[.slice a bs.length c, .slice a2 es.length c2, .int .i64 r, .int .i64 t] 39) := ⟨_, rfl⟩
  have hb1 := hid (show Below w.heap.size w w1 by rw [hw1]; exact b_alloc (Below.refl _ _) _)
  have hq1 := hid (show w1.heap[w.heap.size]? = some (.cells #[.slice a bs.length c, .slice a2 es.length c2, .int .i64 r, .int .i64 t] 39 (0, 0)) by rw [hw1]; exact heap_alloc_new w _)
  go_enter Try.func5, Try.ntmps5
  go_wp2_with fail
  rw [← hw1]
  clear hw1
  have hS := box4f hq1.out
  have hl1 := heap_lt hq1.out
  go_region_held3 (fun w' => w'.cell? ⟨w.heap.size, 0, none⟩ = some (.slice a bs.length c) ∧ w'.cell? ⟨w.heap.size, 1, none⟩ = some (.slice a2 es.length c2) ∧ w'.cell? ⟨w.heap.size, 2, none⟩ = some (.int .i64 r) ∧ w'.cell? ⟨w.heap.size, 3, none⟩ = some (.int .i64 t))
    (first | go_keep | exact hS3 | exact hS2 | exact hS | fail)
    ((first
      | ((with_reducible refine (f1.out w1.drew (hR.out.mono EBlob.stable (hb1.out.drew)) (hE.out.mono EEntry.stable (hb1.out.drew))).mono ?_)
         rintro e wA ⟨vA, rfl, rA, -, bA⟩
         have hbA : Below w.heap.size w wA := b_call hb1.out.drew bA
         have hqA := (bA.block w.heap.size hl1).trans hq1.out
         have hS2 := box4f hqA)
      | ((with_reducible refine (f2.out wA (hR.out.mono EBlob.stable hbA) (hE.out.mono EEntry.stable hbA)).mono ?_)
         rintro e wB ⟨vB, L1, rfl, hC1, hl, hsz, rB, oB, bB⟩
         have hbB : Below w.heap.size w wB := b_call hbA bB
         have hqB := (bB.block w.heap.size (heap_lt hqA)).trans hqA
         have hS3 := box4f hqB)
      | fail))
  have r1 := hid (rA.mono EStr.stable bB)
  have r2 := hid rB
  have hb2 := hid hbB
  have hq2 := hid hqB
  replace hC1 := hid hC1
  clear hS hS2 hS3 hbA hbB hqA hqB bA bB rA rB oB hsz hl hb1 hq1 hl1 f1 f2
  go_wp2_with fail
  have hS := box4f hq2.out
  have hl3 := heap_lt hq2.out
  go_region_held3 (fun w' => w'.cell? ⟨w.heap.size, 0, none⟩ = some (.slice a bs.length c) ∧ w'.cell? ⟨w.heap.size, 1, none⟩ = some (.slice a2 es.length c2) ∧ w'.cell? ⟨w.heap.size, 2, none⟩ = some (.int .i64 r) ∧ w'.cell? ⟨w.heap.size, 3, none⟩ = some (.int .i64 t))
    (first | go_keep | exact hS3 | exact hS2 | exact hS | fail)
    ((first
      | ((with_reducible refine (f3.out wB.drew (hR.out.mono EBlob.stable (hb2.out.drew)) (hE.out.mono EEntry.stable (hb2.out.drew))).mono ?_)
         rintro e wC ⟨vC, rfl, rC, -, bC⟩
         have hbC : Below w.heap.size w wC := b_call hb2.out.drew bC
         have hqC := (bC.block w.heap.size hl3).trans hq2.out
         have hS2 := box4f hqC)
      | ((with_reducible refine (f4.out wC (hR.out.mono EBlob.stable hbC) (hE.out.mono EEntry.stable hbC)).mono ?_)
         rintro e wD ⟨vD, L3, rfl, hC3, hl, hsz, rD, oD, bD⟩
         have hbD : Below w.heap.size w wD := b_call hbC bD
         have hqD := (bD.block w.heap.size (heap_lt hqC)).trans hqC
         have hS3 := box4f hqD)
      | fail))
  obtain rfl := honly.out _ _ hC1.out hC3
  have hbCD := b_call bC bD
  have q1 := hid (r1.out.mono EStr.stable (Below.trans (Below.refl _ _).drew (hbCD)))
  have q2 := hid (r2.out.mono EStr.stable (Below.trans (Below.refl _ _).drew (hbCD)))
  have q3 := hid (rC.mono EStr.stable bD)
  have q4 := hid rD
  have hb4 := hid hbD
  clear hS hS2 hS3 hbC hbD hqC hqD bC bD rC rD oD hsz hl hb2 hq2 hl3 f3 f4 r1 r2 hbCD
  go_wp2_with fail
  ((with_reducible refine (law_sameTexts_yes _ _ _ RL q1.out q3.out).mono ?_); rintro e w5 ⟨rfl, b5⟩)
  have hb5 := hid (b_call hb4.out b5)
  have q5 := hid (q2.out.mono EStr.stable b5)
  have q6 := hid (q4.out.mono EStr.stable b5)
  clear b5
  go_wp2_with fail
  ((with_reducible refine (law_sameTexts_yes _ _ _ L1 q5.out q6.out).mono ?_); rintro e w6 ⟨rfl, b6⟩)
  have hb6 := hid (b_call hb5.out b6)
  clear b6
  go_wp2_with fail
  go_ret
  exact ⟨rfl, hb6.out⟩
theorem ReachAlls_walk (w : World) (cs : Array Value) (x : Store) (hx : VStore w cs.toList x) (hN : bulkN x.blobs x.entries ≤ 8388608) :
    Calls Try.prog 5 #[.agg cs] w fun e w' => e = .returned (.bool true) ∧ Below w.heap.size w w' := by
  obtain ⟨bv, ev, hc, hp, he, -⟩ := hx
  obtain rfl : cs = #[bv, ev, .int .i64 x.room, .int .i64 x.clock] := by
    cases cs
    simp only at hc
    rw [hc]
  exact ReachAlls_walk' bv ev x.blobs x.entries x.room x.clock w hp he hN
end Go.Proofs.Ytojebioolflbkaa
