/-
  The law StoreGetsBlob: its walk.
-/
import Derived.Test.YtaojfpgbpakmpaaSto3
import Derived.Test.YtaojfpgbpakmpaaOpen4
import Derived.Test.YtaojfpgbpakmpaaSame
namespace Go.Proofs.Ytaojfpgbpakmpaa
open Go.RowKit

set_option maxRecDepth 100000 in
set_option maxHeartbeats 1000000 in
theorem StoreGetsBlob_walk' (v u : Value) (bs : List Blob) (es : List Entry) (r t : Int) (s : ByteArray) (w : World) (h : RBl w v bs) (g : RE w u es) (z : Int)
    (c1 : ∀ w, RBl w v bs → RE w u es → Calls Try.prog 68 #[.agg #[v, u, .int .i64 r, .int .i64 t]] w fun e w' => e = .returned (.int .i64 z) ∧ Below w.heap.size w w')
    (c2 : ∀ w, RBl w v bs → RE w u es → Calls Try.prog 70 #[.agg #[v, u, .int .i64 r, .int .i64 t]] w fun e w' => e = .returned (.int .i64 z) ∧ Below w.heap.size w w') :
    Calls Try.prog 15 #[.agg #[v, u, .int .i64 r, .int .i64 t], .string s] w fun e w' => e = .returned (.bool true) ∧ Below w.heap.size w w' := by
  have f1 := hid fun w (h : RBl w v bs) (g : RE w u es) => store_GetBlob v u bs es r t s w h g z c1
  have f2 := hid fun w (h : RBl w v bs) (g : RE w u es) => ref_StoreGetBlob v u bs es r t s w h g z c2
  have hR := hid h
  have hE := hid g
  obtain ⟨a, c, rfl, -⟩ := h
  obtain ⟨a2, c2', rfl, -⟩ := g
  unfold GetPost at f1 f2
  clear c1 c2
  generalize getE z s bs = ee at *
  generalize getB z s bs = eb at *
  go_enter Try.func15, Try.ntmps15
  go_wp2_with fail
  ((with_reducible refine (f1.out _ (hR.out.mono EBlob.stable (b_alloc (Below.refl _ _) _)) (hE.out.mono EEntry.stable (b_alloc (Below.refl _ _) _))).mono ?_); rintro e w1 ⟨v1, rfl, r1, b1⟩)
  have hq1 := hid ((b1.block w.heap.size (by simp)).trans (heap_alloc_new w _))
  have hb1 := hid (b_call (b_alloc (Below.refl w.heap.size w) _) b1)
  replace r1 := hid r1
  clear b1
  obtain ⟨x0, x1, x2, x3⟩ := box4f hq1.out
  go_wp2_with fail
  ((with_reducible refine (f2.out _ (hR.out.mono EBlob.stable hb1.out) (hE.out.mono EEntry.stable hb1.out)).mono ?_); rintro e w2 ⟨v2, rfl, r2, b2⟩)
  have hb2 := hid (b_call hb1.out b2)
  have r1' := hid (r1.out.mono EU8.stable b2)
  replace r2 := hid r2
  clear b2 hb1
  go_wp2_with fail
  ((with_reducible refine (law_sameBytes_yes _ _ _ eb r1'.out r2.out).mono ?_); rintro e w3 ⟨rfl, rfl⟩)
  go_wp2_with fail
  go_ret
  exact ⟨rfl, hb2.out⟩
theorem StoreGetsBlob_walk (w : World) (cs : Array Value) (x : Store) (s : ByteArray) (hx : VStore w cs.toList x) (_ : s.size ≤ 140737488351232) :
    Calls Try.prog 15 #[.agg cs, .string s] w fun e w' => e = .returned (.bool true) ∧ Below w.heap.size w w' := by
  obtain ⟨bv, ev, hc, hp, hs, -⟩ := hx
  obtain rfl : cs = #[bv, ev, .int .i64 x.room, .int .i64 x.clock] := by
    cases cs
    simp only at hc
    rw [hc]
  exact StoreGetsBlob_walk' bv ev x.blobs x.entries x.room x.clock s w hp hs _ (fun w h g => store_Check bv ev x.blobs x.entries x.room x.clock w h g) (fun w h g => ref_StoreFault bv ev x.blobs x.entries x.room x.clock w h g)
end Go.Proofs.Ytaojfpgbpakmpaa
