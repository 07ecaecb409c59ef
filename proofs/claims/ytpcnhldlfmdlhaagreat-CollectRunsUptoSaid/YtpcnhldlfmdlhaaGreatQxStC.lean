/-
  store.Copy: what it answers. Printed by gen_sto4.py. The reference's StoreCopy: what it answers; sameStore of alike stores. Printed by gen_sto5.py. Blobs and entries that the call owns: one of a row's numbers set; a cell of another type's block set. Values that read as stores; a box of four cells beside owned rows; where a cell of an owned row's element lies.
-/
import Derived.Test.YtpcnhldlfmdlhaaGreatQxSt
import Derived.Test.YtpcnhldlfmdlhaaGreatQxOwE
import Derived.Test.YtpcnhldlfmdlhaaGreatQxKB
import Derived.Test.YtpcnhldlfmdlhaaGreatQxKE
import Derived.Test.YtpcnhldlfmdlhaaGreatQxBas
import Derived.Test.YtpcnhldlfmdlhaaGreatQxOpn
namespace Go.Proofs.YtpcnhldlfmdlhaaGreat
open Go.RowKit

theorem box4_set01 {w : World} {q : Nat} {a b c d u0 u1 : Value} {T : TypeId} (h : w.heap[q]? = some (.cells #[a, b, c, d] T (0, 0))) : ((w.setCell ⟨q, 0, none⟩ u0).setCell ⟨q, 1, none⟩ u1).heap[q]? = some (.cells #[u0, u1, c, d] T (0, 0)) := by
  simp [World.setCell, Array.getElem?_modify, h]
theorem box4_set {w : World} {q : Nat} {a b c d u0 u1 u2 u3 : Value} {T : TypeId} (h : w.heap[q]? = some (.cells #[a, b, c, d] T (0, 0))) :
    ((((w.setCell ⟨q, 0, none⟩ u0).setCell ⟨q, 1, none⟩ u1).setCell ⟨q, 2, none⟩ u2).setCell ⟨q, 3, none⟩ u3).heap[q]? = some (.cells #[u0, u1, u2, u3] T (0, 0)) := by
  simp [World.setCell, Array.getElem?_modify, h]
/-- A store that the call has made: its rows are the call's own. -/
def OwnedStore (bs : List Blob) (es : List Entry) (r t : Int) (w : World) (e : Ending) (w' : World) : Prop :=
  ∃ v1 v2, e = .returned (.agg #[v1, v2, .int .i64 r, .int .i64 t]) ∧ OBlob w' w.heap.size v1 bs ∧ OEntry w' w.heap.size v2 es ∧ Below w.heap.size w w'
set_option maxRecDepth 100000 in
set_option maxHeartbeats 1000000 in
theorem store_CopyO (v u : Value) (bs : List Blob) (es : List Entry) (r t : Int) (w : World) (h : RBl w v bs) (g : RE w u es) :
    Calls Tryz.prog 51 #[.agg #[v, u, .int .i64 r, .int .i64 t]] w (OwnedStore bs es r t w) := by
  have hR := hid h
  have hE := hid g
  obtain ⟨a, c, rfl, -⟩ := h
  obtain ⟨a2, c2, rfl, -⟩ := g
  obtain ⟨w1, hw1⟩ : ∃ w1 : World, w1 = (w.alloc (Obj.cells #[.slice a bs.length c, .slice a2 es.length c2, .int .i64 r, .int .i64 t] 29)).alloc (Obj.cells #[.slice none 0 0, .slice none 0 0, .int .i64 0, .int .i64 0] 29) := ⟨_, rfl⟩
  have hb1 := hid (show Below w.heap.size w w1 by rw [hw1]; exact b_alloc (b_alloc (Below.refl _ _) _) _)
  have hq1 := hid (show w1.heap[w.heap.size]? = some (.cells #[.slice a bs.length c, .slice a2 es.length c2, .int .i64 r, .int .i64 t] 29 (0, 0)) by rw [hw1]; exact heap_alloc2_old w _ _)
  have hp1 := hid (show w1.heap[w.heap.size + 1]? = some (.cells #[.slice none 0 0, .slice none 0 0, .int .i64 0, .int .i64 0] 29 (0, 0)) by rw [hw1]; exact heap_alloc2_new w _ _)
  have hl1 := (Array.getElem?_eq_some_iff.1 hq1.out).1
  have hm1 := (Array.getElem?_eq_some_iff.1 hp1.out).1
  have f1 := hid (blob_Copy _ bs w1.drew (hR.out.mono EBlob.stable hb1.out.drew))
  go_enter Tryz.func51, Tryz.ntmps51
  go_wp2_with fail
  rw [← hw1]
  clear hw1
  obtain ⟨x0, x1, -, -⟩ := box4f hq1.out
  go_region_with (first
    | (go_at_call 115; refine f1.out.mono ?_
       rintro e w2 ⟨rfl, o1', b2⟩
       have o1 : OBlob w2 w1.heap.size (.slice (some ⟨w1.heap.size, 0, none⟩) bs.length bs.length) bs := o1'
       have hb2 : Below w.heap.size w w2 := b_call hb1.out.drew b2
       have hq2 := (b2.block w.heap.size hl1).trans hq1.out
       have hp2 := (b2.block (w.heap.size + 1) hm1).trans hp1.out
       obtain ⟨y0, y1, -, -⟩ := box4f hq2)
    | (go_at_call 116; refine (index_Copy _ es w2 (hE.out.mono EEntry.stable hb2)).mono ?_
       rintro e w3 ⟨rfl, o2, b3⟩
       have hb3 : Below w.heap.size w w3 := b_call hb2 b3
       have hq3 := (b3.block w.heap.size (Array.getElem?_eq_some_iff.1 hq2).1).trans hq2
       have hp3 := (b3.block (w.heap.size + 1) (Array.getElem?_eq_some_iff.1 hp2).1).trans hp2
       have o3 := OBlob.after o1 b3
       have hfr0 := frozen_heap hq3 0
       have hfr1 := frozen_heap hq3 1
       obtain ⟨z0, z1, -, -⟩ := box4f hq3))
  all_goals
    have hs2 : w1.heap.size ≤ w2.heap.size := b2.size
    have hq5 := box4_set01 (u0 := .slice (some ⟨w1.heap.size, 0, none⟩) bs.length bs.length) (u1 := .slice (some ⟨w2.heap.size, 0, none⟩) es.length es.length) hq3
    have hp5 := box_other (q := w.heap.size) (o := 1) (u := .slice (some ⟨w2.heap.size, 0, none⟩) es.length es.length) (box_other (q := w.heap.size) (o := 0) (u := .slice (some ⟨w1.heap.size, 0, none⟩) bs.length bs.length) hp3 (by omega)) (by omega)
    have ob5 := (o3.set (q := w.heap.size) (o := 0) (u := .slice (some ⟨w1.heap.size, 0, none⟩) bs.length bs.length) hl1).set (q := w.heap.size) (o := 1) (u := .slice (some ⟨w2.heap.size, 0, none⟩) es.length es.length) hl1
    have oe5 := (OEntry.set (q := w.heap.size) (o := 0) (u := .slice (some ⟨w1.heap.size, 0, none⟩) bs.length bs.length) o2 (by omega)).set (q := w.heap.size) (o := 1) (u := .slice (some ⟨w2.heap.size, 0, none⟩) es.length es.length) (by omega)
    have hb5 := b_set (b_set hb3 (p := ⟨w.heap.size, 0, none⟩) (Nat.le_refl _) (.slice (some ⟨w1.heap.size, 0, none⟩) bs.length bs.length)) (p := ⟨w.heap.size, 1, none⟩) (Nat.le_refl _) (.slice (some ⟨w2.heap.size, 0, none⟩) es.length es.length)
    clear o1 o1' o2 o3 hq1 hp1 hq2 hp2 hq3 hp3 hb1 hb2 hb3 b2 b3 x0 x1 y0 y1 z0 z1 hfr0 hfr1 f1 hR hE
    generalize (w3.setCell ⟨w.heap.size, 0, none⟩ (.slice (some ⟨w1.heap.size, 0, none⟩) bs.length bs.length)).setCell ⟨w.heap.size, 1, none⟩ (.slice (some ⟨w2.heap.size, 0, none⟩) es.length es.length) = w5 at *
    obtain ⟨y0, y1, y2, y3⟩ := box4f hq5
    obtain ⟨z0, z1, z2, z3⟩ := box4f hp5
    have g0 := frozen_heap hp5 0
    have g1 := frozen_heap hp5 1
    have g2 := frozen_heap hp5 2
    have g3 := frozen_heap hp5 3
    replace hp5 := hid hp5
    replace ob5 := hid ob5
    replace oe5 := hid oe5
    replace hb5 := hid hb5
    clear hq5
    go_wp2_with fail
    have hp6 := box4_set (u0 := .slice (some ⟨w1.heap.size, 0, none⟩) bs.length bs.length) (u1 := .slice (some ⟨w2.heap.size, 0, none⟩) es.length es.length) (u2 := .int .i64 r) (u3 := .int .i64 t) hp5.out
    have ob6 := (((ob5.out.set (q := w.heap.size + 1) (o := 0) (u := .slice (some ⟨w1.heap.size, 0, none⟩) bs.length bs.length) hm1).set (q := w.heap.size + 1) (o := 1) (u := .slice (some ⟨w2.heap.size, 0, none⟩) es.length es.length) hm1).set (q := w.heap.size + 1) (o := 2) (u := .int .i64 r) hm1).set (q := w.heap.size + 1) (o := 3) (u := .int .i64 t) hm1
    have hm2 : w.heap.size + 1 < w2.heap.size := by omega
    have oe6 := (((oe5.out.set (q := w.heap.size + 1) (o := 0) (u := .slice (some ⟨w1.heap.size, 0, none⟩) bs.length bs.length) hm2).set (q := w.heap.size + 1) (o := 1) (u := .slice (some ⟨w2.heap.size, 0, none⟩) es.length es.length) hm2).set (q := w.heap.size + 1) (o := 2) (u := .int .i64 r) hm2).set (q := w.heap.size + 1) (o := 3) (u := .int .i64 t) hm2
    have hb6 := b_set (b_set (b_set (b_set hb5.out (p := ⟨w.heap.size + 1, 0, none⟩) (Nat.le_succ _) (.slice (some ⟨w1.heap.size, 0, none⟩) bs.length bs.length)) (p := ⟨w.heap.size + 1, 1, none⟩) (Nat.le_succ _) (.slice (some ⟨w2.heap.size, 0, none⟩) es.length es.length)) (p := ⟨w.heap.size + 1, 2, none⟩) (Nat.le_succ _) (.int .i64 r)) (p := ⟨w.heap.size + 1, 3, none⟩) (Nat.le_succ _) (.int .i64 t)
    obtain ⟨k0, k1, k2, k3⟩ := box4f hp6
    generalize (((w5.setCell ⟨w.heap.size + 1, 0, none⟩ (.slice (some ⟨w1.heap.size, 0, none⟩) bs.length bs.length)).setCell ⟨w.heap.size + 1, 1, none⟩ (.slice (some ⟨w2.heap.size, 0, none⟩) es.length es.length)).setCell ⟨w.heap.size + 1, 2, none⟩ (.int .i64 r)).setCell ⟨w.heap.size + 1, 3, none⟩ (.int .i64 t) = w9 at *
    (try simp only [Exit.inBlock, Exit.then])
    refine bodyPost_ret (by simp [results, Tryz.results51, go_sem, k0, k1, k2, k3]; try rfl) rfl ?_
    exact ⟨_, _, rfl, ob6.low (by omega), oe6.low (by omega), hb6⟩
end Go.Proofs.YtpcnhldlfmdlhaaGreat

namespace Go.Proofs.YtpcnhldlfmdlhaaGreat
open Go.RowKit

set_option maxRecDepth 100000 in
set_option maxHeartbeats 1000000 in
theorem ref_StoreCopyO (v u : Value) (bs : List Blob) (es : List Entry) (r t : Int) (w : World) (h : RBl w v bs) (g : RE w u es) :
    Calls Tryz.prog 54 #[.agg #[v, u, .int .i64 r, .int .i64 t]] w (OwnedStore bs es r t w) := by
  have hR := hid h
  have hE := hid g
  obtain ⟨a, c, rfl, -⟩ := h
  obtain ⟨a2, c2, rfl, -⟩ := g
  obtain ⟨w1, hw1⟩ : ∃ w1 : World, w1 = (w.alloc (Obj.cells #[.slice a bs.length c, .slice a2 es.length c2, .int .i64 r, .int .i64 t] 29)).alloc (Obj.cells #[.slice none 0 0, .slice none 0 0, .int .i64 0, .int .i64 0] 29) := ⟨_, rfl⟩
  have hb1 := hid (show Below w.heap.size w w1 by rw [hw1]; exact b_alloc (b_alloc (Below.refl _ _) _) _)
  have hq1 := hid (show w1.heap[w.heap.size]? = some (.cells #[.slice a bs.length c, .slice a2 es.length c2, .int .i64 r, .int .i64 t] 29 (0, 0)) by rw [hw1]; exact heap_alloc2_old w _ _)
  have hp1 := hid (show w1.heap[w.heap.size + 1]? = some (.cells #[.slice none 0 0, .slice none 0 0, .int .i64 0, .int .i64 0] 29 (0, 0)) by rw [hw1]; exact heap_alloc2_new w _ _)
  have hl1 := (Array.getElem?_eq_some_iff.1 hq1.out).1
  have hm1 := (Array.getElem?_eq_some_iff.1 hp1.out).1
  have f1 := hid (ref_BlobsCopy _ bs w1.drew (hR.out.mono EBlob.stable hb1.out.drew))
  go_enter Tryz.func54, Tryz.ntmps54
  go_wp2_with fail
  rw [← hw1]
  clear hw1
  have hS := box4f hq1.out
  go_region_held3 (fun w' => w'.cell? ⟨w.heap.size, 0, none⟩ = some (.slice a bs.length c) ∧ w'.cell? ⟨w.heap.size, 1, none⟩ = some (.slice a2 es.length c2) ∧ w'.cell? ⟨w.heap.size, 2, none⟩ = some (.int .i64 r) ∧ w'.cell? ⟨w.heap.size, 3, none⟩ = some (.int .i64 t))
    (first
      | go_keep
      | exact hS3
      | exact hS2
      | exact hS
      | (have hqs := box_other (q := w.heap.size + 1) (o := 3) (u := .int .i64 t) (box_other (q := w.heap.size + 1) (o := 2) (u := .int .i64 r) (box_other (q := w.heap.size + 1) (o := 1) (u := .slice e2 es.length k2) (box_other (q := w.heap.size + 1) (o := 0) (u := .slice e1 bs.length k1) hq3 (by omega)) (by omega)) (by omega)) (by omega); exact box4f hqs)
      | fail)
    ((first
      | ((with_reducible refine f1.out.mono ?_)
         rintro e w2 ⟨v2, rfl, o1', b2⟩
         have o1 : OBlob w2 w1.heap.size v2 bs := o1'
         have hb2 : Below w.heap.size w w2 := b_call hb1.out.drew b2
         have hq2 := (b2.block w.heap.size hl1).trans hq1.out
         have hp2 := (b2.block (w.heap.size + 1) hm1).trans hp1.out
         have hS2 := box4f hq2
         obtain ⟨e1, k1, rfl, -⟩ : ∃ e1 k1, v2 = .slice e1 bs.length k1 ∧ True := (by
           obtain ⟨rs, rfl, h2, -⟩ := id o1
           obtain ⟨e1, k1, rfl, -⟩ := id (OS.len_le h2)
           exact ⟨e1, k1, by rw [List.length_map], trivial⟩))
      | ((with_reducible refine (ref_EntriesCopy _ es w2 (hE.out.mono EEntry.stable hb2)).mono ?_)
         rintro e w3 ⟨v3, rfl, o2, b3⟩
         have hb3 : Below w.heap.size w w3 := b_call hb2 b3
         have hq3 := (b3.block w.heap.size (Array.getElem?_eq_some_iff.1 hq2).1).trans hq2
         have hp3 := (b3.block (w.heap.size + 1) (Array.getElem?_eq_some_iff.1 hp2).1).trans hp2
         have o3 := OBlob.after o1 b3
         have g0 := frozen_heap hp3 0
         have g1 := frozen_heap hp3 1
         have g2 := frozen_heap hp3 2
         have g3 := frozen_heap hp3 3
         obtain ⟨z0, z1, z2, z3⟩ := box4f hp3
         have hS3 := box4f hq3
         obtain ⟨e2, k2, rfl, -⟩ : ∃ e2 k2, v3 = .slice e2 es.length k2 ∧ True := (by
           obtain ⟨rs, rfl, h2, -⟩ := id o2
           obtain ⟨e2, k2, rfl, -⟩ := id (OS.len_le h2)
           exact ⟨e2, k2, by rw [List.length_map], trivial⟩))
      | fail))
  have hs2 : w1.heap.size ≤ w2.heap.size := b2.size
  have hm2 : w.heap.size + 1 < w2.heap.size := by omega
  have hp6 := box4_set (u0 := .slice e1 bs.length k1) (u1 := .slice e2 es.length k2) (u2 := .int .i64 r) (u3 := .int .i64 t) hp3
  have ob6 := (((o3.set (q := w.heap.size + 1) (o := 0) (u := .slice e1 bs.length k1) hm1).set (q := w.heap.size + 1) (o := 1) (u := .slice e2 es.length k2) hm1).set (q := w.heap.size + 1) (o := 2) (u := .int .i64 r) hm1).set (q := w.heap.size + 1) (o := 3) (u := .int .i64 t) hm1
  have oe6 := (((OEntry.set (q := w.heap.size + 1) (o := 0) (u := .slice e1 bs.length k1) o2 hm2).set (q := w.heap.size + 1) (o := 1) (u := .slice e2 es.length k2) hm2).set (q := w.heap.size + 1) (o := 2) (u := .int .i64 r) hm2).set (q := w.heap.size + 1) (o := 3) (u := .int .i64 t) hm2
  have hb6 := b_set (b_set (b_set (b_set hb3 (p := ⟨w.heap.size + 1, 0, none⟩) (Nat.le_succ _) (.slice e1 bs.length k1)) (p := ⟨w.heap.size + 1, 1, none⟩) (Nat.le_succ _) (.slice e2 es.length k2)) (p := ⟨w.heap.size + 1, 2, none⟩) (Nat.le_succ _) (.int .i64 r)) (p := ⟨w.heap.size + 1, 3, none⟩) (Nat.le_succ _) (.int .i64 t)
  obtain ⟨m0, m1, m2, m3⟩ := box4f hp6
  generalize (((w3.setCell ⟨w.heap.size + 1, 0, none⟩ (.slice e1 bs.length k1)).setCell ⟨w.heap.size + 1, 1, none⟩ (.slice e2 es.length k2)).setCell ⟨w.heap.size + 1, 2, none⟩ (.int .i64 r)).setCell ⟨w.heap.size + 1, 3, none⟩ (.int .i64 t) = w9 at *
  go_wp2_with fail
  (try simp only [Exit.inBlock, Exit.then])
  refine bodyPost_ret (by simp [results, Tryz.results54, go_sem, m0, m1, m2, m3]; try rfl) rfl ?_
  exact ⟨_, _, rfl, ob6.low (by omega), oe6.low (by omega), hb6⟩
set_option maxRecDepth 100000 in
set_option maxHeartbeats 1000000 in
theorem law_sameStore_yes (v u v' u' : Value) (bs : List Blob) (es : List Entry) (r t : Int) (w : World) (h : RBl w v bs) (g : RE w u es) (h' : RBl w v' bs) (g' : RE w u' es) :
    Calls Tryz.prog 22 #[.agg #[v, u, .int .i64 r, .int .i64 t], .agg #[v', u', .int .i64 r, .int .i64 t]] w fun e w' => e = .returned (.bool true) ∧ Below w.heap.size w w' := by
  have hR := hid h
  have hE := hid g
  have hR' := hid h'
  have hE' := hid g'
  obtain ⟨a, c, rfl, -⟩ := h
  obtain ⟨a2, c2, rfl, -⟩ := g
  obtain ⟨a', c', rfl, -⟩ := h'
  obtain ⟨a2', c2', rfl, -⟩ := g'
  have hbA := b_alloc (b_alloc (Below.refl w.heap.size w) (Obj.cells #[.slice a bs.length c, .slice a2 es.length c2, .int .i64 r, .int .i64 t] 29)) (Obj.cells #[.slice a' bs.length c', .slice a2' es.length c2', .int .i64 r, .int .i64 t] 29)
  have hq := heap_alloc2_old w (Obj.cells #[.slice a bs.length c, .slice a2 es.length c2, .int .i64 r, .int .i64 t] 29) (Obj.cells #[.slice a' bs.length c', .slice a2' es.length c2', .int .i64 r, .int .i64 t] 29)
  have hp := heap_alloc2_new w (Obj.cells #[.slice a bs.length c, .slice a2 es.length c2, .int .i64 r, .int .i64 t] 29) (Obj.cells #[.slice a' bs.length c', .slice a2' es.length c2', .int .i64 r, .int .i64 t] 29)
  have c1 := hid (law_sameBlobs_yes _ _ _ bs (hR.out.mono EBlob.stable hbA) (hR'.out.mono EBlob.stable hbA))
  have hql := (Array.getElem?_eq_some_iff.1 hq).1
  have hpl := (Array.getElem?_eq_some_iff.1 hp).1
  replace hbA := hid hbA
  replace hq := hid hq
  replace hp := hid hp
  go_enter Tryz.func22, Tryz.ntmps22
  go_wp2_with fail
  ((with_reducible refine c1.out.mono ?_); rintro e w2 ⟨rfl, b2⟩)
  have hb2 := hid (hbA.out.trans (b2.mono hbA.out.size))
  obtain ⟨x0, x1, x2, x3⟩ := box4f ((b2.block w.heap.size hql).trans hq.out)
  obtain ⟨y0, y1, y2, y3⟩ := box4f ((b2.block (w.heap.size + 1) hpl).trans hp.out)
  have hq2 := hid ((b2.block w.heap.size hql).trans hq.out)
  have hp2 := hid ((b2.block (w.heap.size + 1) hpl).trans hp.out)
  clear b2 hbA hq hp hql hpl c1
  go_wp2_with fail
  ((with_reducible refine (law_sameEntries_yes _ _ _ es (hE.out.mono EEntry.stable hb2.out) (hE'.out.mono EEntry.stable hb2.out)).mono ?_); rintro e w3 ⟨rfl, b3⟩)
  have hb3 := hid (b_call hb2.out b3)
  clear x0 x1 x2 x3 y0 y1 y2 y3
  obtain ⟨x0, x1, x2, x3⟩ := box4f ((b3.block w.heap.size (Array.getElem?_eq_some_iff.1 hq2.out).1).trans hq2.out)
  obtain ⟨y0, y1, y2, y3⟩ := box4f ((b3.block (w.heap.size + 1) (Array.getElem?_eq_some_iff.1 hp2.out).1).trans hp2.out)
  clear b3 hb2
  go_wp2_with fail
  go_ret
  exact ⟨rfl, hb3.out⟩
end Go.Proofs.YtpcnhldlfmdlhaaGreat

namespace Go.Proofs.YtpcnhldlfmdlhaaGreat
open Go.RowKit

end Go.Proofs.YtpcnhldlfmdlhaaGreat

namespace Go.Proofs.YtpcnhldlfmdlhaaGreat
open Go.RowKit

/-- v reads as the store S. -/
def VS (w : World) (v : Value) (S : Store) : Prop := ∃ v1 v2, v = .agg #[v1, v2, .int .i64 S.room, .int .i64 S.clock] ∧ RBl w v1 S.blobs ∧ RE w v2 S.entries
def noStore : Store := ⟨[], [], 0, 0⟩
theorem box4_0 {w : World} {q : Nat} {a b c d u : Value} {T : TypeId} (h : w.heap[q]? = some (.cells #[a, b, c, d] T (0, 0))) : (w.setCell ⟨q, 0, none⟩ u).heap[q]? = some (.cells #[u, b, c, d] T (0, 0)) := by
  simp [World.setCell, Array.getElem?_modify, h]
theorem box4_1 {w : World} {q : Nat} {a b c d u : Value} {T : TypeId} (h : w.heap[q]? = some (.cells #[a, b, c, d] T (0, 0))) : (w.setCell ⟨q, 1, none⟩ u).heap[q]? = some (.cells #[a, u, c, d] T (0, 0)) := by
  simp [World.setCell, Array.getElem?_modify, h]
theorem box4_2 {w : World} {q : Nat} {a b c d u : Value} {T : TypeId} (h : w.heap[q]? = some (.cells #[a, b, c, d] T (0, 0))) : (w.setCell ⟨q, 2, none⟩ u).heap[q]? = some (.cells #[a, b, u, d] T (0, 0)) := by
  simp [World.setCell, Array.getElem?_modify, h]
theorem box4_3 {w : World} {q : Nat} {a b c d u : Value} {T : TypeId} (h : w.heap[q]? = some (.cells #[a, b, c, d] T (0, 0))) : (w.setCell ⟨q, 3, none⟩ u).heap[q]? = some (.cells #[a, b, c, u] T (0, 0)) := by
  simp [World.setCell, Array.getElem?_modify, h]
/-- All four cells of a box set. -/
def World.box4 (w : World) (q : Nat) (u0 u1 u2 u3 : Value) : World := (((w.setCell ⟨q, 0, none⟩ u0).setCell ⟨q, 1, none⟩ u1).setCell ⟨q, 2, none⟩ u2).setCell ⟨q, 3, none⟩ u3
theorem OBlob.box {w : World} {B q : Nat} {v a b c d u0 u1 u2 u3 : Value} {bs : List Blob} {T : TypeId} (h : OBlob w B v bs) (hq : w.heap[q]? = some (.cells #[a, b, c, d] T (0, 0))) (hT : T ≠ 50) (hT2 : T ≠ 5) : OBlob (World.box4 w q u0 u1 u2 u3) B v bs :=
  (((h.other hq hT hT2).other (box4_0 hq) hT hT2).other (box4_1 (box4_0 hq)) hT hT2).other (box4_2 (box4_1 (box4_0 hq))) hT hT2
theorem OEntry.box {w : World} {B q : Nat} {v a b c d u0 u1 u2 u3 : Value} {es : List Entry} {T : TypeId} (h : OEntry w B v es) (hq : w.heap[q]? = some (.cells #[a, b, c, d] T (0, 0))) (hT : T ≠ 71) (hT2 : T ≠ 75) : OEntry (World.box4 w q u0 u1 u2 u3) B v es :=
  (((h.other hq hT hT2).other (box4_0 hq) hT hT2).other (box4_1 (box4_0 hq)) hT hT2).other (box4_2 (box4_1 (box4_0 hq))) hT hT2
theorem b_box4 {w W : World} (h : Below w.heap.size w W) {q : Nat} (hq : w.heap.size ≤ q) (u0 u1 u2 u3 : Value) : Below w.heap.size w (World.box4 W q u0 u1 u2 u3) :=
  b_set (b_set (b_set (b_set h (p := ⟨q, 0, none⟩) hq u0) (p := ⟨q, 1, none⟩) hq u1) (p := ⟨q, 2, none⟩) hq u2) (p := ⟨q, 3, none⟩) hq u3
theorem box4_same {w : World} {q : Nat} {a b c d u0 u1 u2 u3 : Value} {T : TypeId} (h : w.heap[q]? = some (.cells #[a, b, c, d] T (0, 0))) : (World.box4 w q u0 u1 u2 u3).heap[q]? = some (.cells #[u0, u1, u2, u3] T (0, 0)) := box4_set h
theorem box4_other {w : World} {q p : Nat} {u0 u1 u2 u3 : Value} {x : Obj} (h : w.heap[p]? = some x) (hn : p ≠ q) : (World.box4 w q u0 u1 u2 u3).heap[p]? = some x :=
  box_other (box_other (box_other (box_other h hn) hn) hn) hn
end Go.Proofs.YtpcnhldlfmdlhaaGreat
