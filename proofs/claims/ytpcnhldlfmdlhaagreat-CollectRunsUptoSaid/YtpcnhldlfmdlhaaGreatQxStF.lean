/-
  store.Copy once more: the row of its blobs is full and new.
-/
import Derived.Test.YtpcnhldlfmdlhaaGreatQxWrt
namespace Go.Proofs.YtpcnhldlfmdlhaaGreat
open Go.RowKit

/-- A store that the call has made, the row of its blobs full and whole in a new block. -/
def FullStore (bs : List Blob) (es : List Entry) (r t : Int) (w : World) (e : Ending) (w' : World) : Prop :=
  ∃ g v2, e = .returned (.agg #[.slice (some ⟨g, 0, none⟩) bs.length bs.length, v2, .int .i64 r, .int .i64 t]) ∧ w.heap.size ≤ g ∧ OBlob w' g (.slice (some ⟨g, 0, none⟩) bs.length bs.length) bs ∧ OEntry w' w.heap.size v2 es ∧ Below w.heap.size w w'

set_option maxRecDepth 100000 in
set_option maxHeartbeats 1000000 in
theorem store_CopyF (v u : Value) (bs : List Blob) (es : List Entry) (r t : Int) (w : World) (h : RBl w v bs) (g : RE w u es) :
    Calls Tryz.prog 51 #[.agg #[v, u, .int .i64 r, .int .i64 t]] w (FullStore bs es r t w) := by
  have hR := hid h
  have hE := hid g
  obtain ⟨a, c, rfl, -⟩ := h
  obtain ⟨a2, c2, rfl, -⟩ := g
  obtain ⟨w1, hw1⟩ : ∃ w1 : World, w1 = (w.alloc (Obj.cells #[.slice a bs.length c, .slice a2 es.length c2, .int .i64 r, .int .i64 t] 29)).alloc (Obj.cells #[.slice none 0 0, .slice none 0 0, .int .i64 0, .int .i64 0] 29) := ⟨_, rfl⟩
  have hb1 := hid (show Below w.heap.size w w1 by rw [hw1]; exact b_alloc (b_alloc (Below.refl _ _) _) _)
  have hq1 := hid (show w1.heap[w.heap.size]? = some (.cells #[.slice a bs.length c, .slice a2 es.length c2, .int .i64 r, .int .i64 t] 29 (0, 0)) by rw [hw1]; exact heap_alloc2_old w _ _)
  have hp1 := hid (show w1.heap[w.heap.size + 1]? = some (.cells #[.slice none 0 0, .slice none 0 0, .int .i64 0, .int .i64 0] 29 (0, 0)) by rw [hw1]; exact heap_alloc2_new w _ _)
  have hb1s : w.heap.size ≤ w1.heap.size := hb1.out.size
  have hl1 := (Array.getElem?_eq_some_iff.1 hq1.out).1
  have hm1 := (Array.getElem?_eq_some_iff.1 hp1.out).1
  have f1 := hid (blob_Copy _ bs w1.drew (hR.out.mono EBlob.stable hb1.out.drew))
  go_enter Tryz.func51, Tryz.ntmps51
  go_wp2_with fail
  rw [← hw1]
  clear hw1
  obtain ⟨x0, x1, -, -⟩ := box4f hq1.out
  go_region_with (first
    | (go_at_call 115; refine f1.out.mono ?_
       rintro e w2 ⟨rfl, o1', b2⟩
       have o1 : OBlob w2 w1.heap.size (.slice (some ⟨w1.heap.size, 0, none⟩) bs.length bs.length) bs := o1'
       have hb2 : Below w.heap.size w w2 := b_call hb1.out.drew b2
       have hq2 := (b2.block w.heap.size hl1).trans hq1.out
       have hp2 := (b2.block (w.heap.size + 1) hm1).trans hp1.out
       obtain ⟨y0, y1, -, -⟩ := box4f hq2)
    | (go_at_call 116; refine (index_Copy _ es w2 (hE.out.mono EEntry.stable hb2)).mono ?_
       rintro e w3 ⟨rfl, o2, b3⟩
       have hb3 : Below w.heap.size w w3 := b_call hb2 b3
       have hq3 := (b3.block w.heap.size (Array.getElem?_eq_some_iff.1 hq2).1).trans hq2
       have hp3 := (b3.block (w.heap.size + 1) (Array.getElem?_eq_some_iff.1 hp2).1).trans hp2
       have o3 := OBlob.after o1 b3
       have hfr0 := frozen_heap hq3 0
       have hfr1 := frozen_heap hq3 1
       obtain ⟨z0, z1, -, -⟩ := box4f hq3))
  all_goals
    have hs2 : w1.heap.size ≤ w2.heap.size := b2.size
    have hq5 := box4_set01 (u0 := .slice (some ⟨w1.heap.size, 0, none⟩) bs.length bs.length) (u1 := .slice (some ⟨w2.heap.size, 0, none⟩) es.length es.length) hq3
    have hp5 := box_other (q := w.heap.size) (o := 1) (u := .slice (some ⟨w2.heap.size, 0, none⟩) es.length es.length) (box_other (q := w.heap.size) (o := 0) (u := .slice (some ⟨w1.heap.size, 0, none⟩) bs.length bs.length) hp3 (by omega)) (by omega)
    have ob5 := (o3.set (q := w.heap.size) (o := 0) (u := .slice (some ⟨w1.heap.size, 0, none⟩) bs.length bs.length) hl1).set (q := w.heap.size) (o := 1) (u := .slice (some ⟨w2.heap.size, 0, none⟩) es.length es.length) hl1
    have oe5 := (OEntry.set (q := w.heap.size) (o := 0) (u := .slice (some ⟨w1.heap.size, 0, none⟩) bs.length bs.length) o2 (by omega)).set (q := w.heap.size) (o := 1) (u := .slice (some ⟨w2.heap.size, 0, none⟩) es.length es.length) (by omega)
    have hb5 := b_set (b_set hb3 (p := ⟨w.heap.size, 0, none⟩) (Nat.le_refl _) (.slice (some ⟨w1.heap.size, 0, none⟩) bs.length bs.length)) (p := ⟨w.heap.size, 1, none⟩) (Nat.le_refl _) (.slice (some ⟨w2.heap.size, 0, none⟩) es.length es.length)
    clear o1 o1' o2 o3 hq1 hp1 hq2 hp2 hq3 hp3 hb1 hb2 hb3 b2 b3 x0 x1 y0 y1 z0 z1 hfr0 hfr1 f1 hR hE
    generalize (w3.setCell ⟨w.heap.size, 0, none⟩ (.slice (some ⟨w1.heap.size, 0, none⟩) bs.length bs.length)).setCell ⟨w.heap.size, 1, none⟩ (.slice (some ⟨w2.heap.size, 0, none⟩) es.length es.length) = w5 at *
    obtain ⟨y0, y1, y2, y3⟩ := box4f hq5
    obtain ⟨z0, z1, z2, z3⟩ := box4f hp5
    have g0 := frozen_heap hp5 0
    have g1 := frozen_heap hp5 1
    have g2 := frozen_heap hp5 2
    have g3 := frozen_heap hp5 3
    replace hp5 := hid hp5
    replace ob5 := hid ob5
    replace oe5 := hid oe5
    replace hb5 := hid hb5
    clear hq5
    go_wp2_with fail
    have hp6 := box4_set (u0 := .slice (some ⟨w1.heap.size, 0, none⟩) bs.length bs.length) (u1 := .slice (some ⟨w2.heap.size, 0, none⟩) es.length es.length) (u2 := .int .i64 r) (u3 := .int .i64 t) hp5.out
    have ob6 := (((ob5.out.set (q := w.heap.size + 1) (o := 0) (u := .slice (some ⟨w1.heap.size, 0, none⟩) bs.length bs.length) hm1).set (q := w.heap.size + 1) (o := 1) (u := .slice (some ⟨w2.heap.size, 0, none⟩) es.length es.length) hm1).set (q := w.heap.size + 1) (o := 2) (u := .int .i64 r) hm1).set (q := w.heap.size + 1) (o := 3) (u := .int .i64 t) hm1
    have hm2 : w.heap.size + 1 < w2.heap.size := by omega
    have oe6 := (((oe5.out.set (q := w.heap.size + 1) (o := 0) (u := .slice (some ⟨w1.heap.size, 0, none⟩) bs.length bs.length) hm2).set (q := w.heap.size + 1) (o := 1) (u := .slice (some ⟨w2.heap.size, 0, none⟩) es.length es.length) hm2).set (q := w.heap.size + 1) (o := 2) (u := .int .i64 r) hm2).set (q := w.heap.size + 1) (o := 3) (u := .int .i64 t) hm2
    have hb6 := b_set (b_set (b_set (b_set hb5.out (p := ⟨w.heap.size + 1, 0, none⟩) (Nat.le_succ _) (.slice (some ⟨w1.heap.size, 0, none⟩) bs.length bs.length)) (p := ⟨w.heap.size + 1, 1, none⟩) (Nat.le_succ _) (.slice (some ⟨w2.heap.size, 0, none⟩) es.length es.length)) (p := ⟨w.heap.size + 1, 2, none⟩) (Nat.le_succ _) (.int .i64 r)) (p := ⟨w.heap.size + 1, 3, none⟩) (Nat.le_succ _) (.int .i64 t)
    obtain ⟨k0, k1, k2, k3⟩ := box4f hp6
    generalize (((w5.setCell ⟨w.heap.size + 1, 0, none⟩ (.slice (some ⟨w1.heap.size, 0, none⟩) bs.length bs.length)).setCell ⟨w.heap.size + 1, 1, none⟩ (.slice (some ⟨w2.heap.size, 0, none⟩) es.length es.length)).setCell ⟨w.heap.size + 1, 2, none⟩ (.int .i64 r)).setCell ⟨w.heap.size + 1, 3, none⟩ (.int .i64 t) = w9 at *
    (try simp only [Exit.inBlock, Exit.then])
    refine bodyPost_ret (by simp [results, Tryz.results51, go_sem, k0, k1, k2, k3]; try rfl) rfl ?_
    exact ⟨w1.heap.size, _, rfl, hb1s, ob6, oe6.low (by omega), hb6⟩
end Go.Proofs.YtpcnhldlfmdlhaaGreat
