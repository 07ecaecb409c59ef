/-
  Packed for LawStoreChecks by pack.py: Sto4 Sto5 StcW.
-/
import Derived.Test.YtaojfpgbpakmpaaPkcS
import Derived.Test.YtaojfpgbpakmpaaPkcB
import Derived.Test.YtaojfpgbpakmpaaPkcE
import Derived.Test.YtaojfpgbpakmpaaOpen4
namespace Go.Proofs.Ytaojfpgbpakmpaa
open Go.RowKit

theorem OBlob.set {w : World} {B q o : Nat} {v u : Value} {l : List Blob} (h : OBlob w B v l) (hq : q < B) : OBlob (w.setCell ⟨q, o, none⟩ u) B v l := by
  obtain ⟨rs, h1, h2, h3⟩ := h
  exact ⟨rs, h1, h2.setOld hq, fun r hr => OS.setOld (h3 r hr) hq⟩
theorem OEntry.set {w : World} {B q o : Nat} {v u : Value} {l : List Entry} (h : OEntry w B v l) (hq : q < B) : OEntry (w.setCell ⟨q, o, none⟩ u) B v l := by
  obtain ⟨rs, h1, h2, h3⟩ := h
  exact ⟨rs, h1, h2.setOld hq, fun r hr => OS.setOld (h3 r hr) hq⟩
theorem OBlob.after {w w' : World} {B : Nat} {v : Value} {l : List Blob} (h : OBlob w B v l) (hb : Below w.heap.size w w') : OBlob w' B v l := OX.below (CO.below hb) h hb
theorem box4_set01 {w : World} {q : Nat} {a b c d u0 u1 : Value} {T : TypeId} (h : w.heap[q]? = some (.cells #[a, b, c, d] T (0, 0))) : ((w.setCell ⟨q, 0, none⟩ u0).setCell ⟨q, 1, none⟩ u1).heap[q]? = some (.cells #[u0, u1, c, d] T (0, 0)) := by
  simp [World.setCell, Array.getElem?_modify, h]
theorem box_other {w : World} {q p o : Nat} {u : Value} {x : Obj} (h : w.heap[p]? = some x) (hn : p ≠ q) : (w.setCell ⟨q, o, none⟩ u).heap[p]? = some x := by
  rw [Below.heap_setCell _ _ _ _ hn, h]
theorem box4_set {w : World} {q : Nat} {a b c d u0 u1 u2 u3 : Value} {T : TypeId} (h : w.heap[q]? = some (.cells #[a, b, c, d] T (0, 0))) :
    ((((w.setCell ⟨q, 0, none⟩ u0).setCell ⟨q, 1, none⟩ u1).setCell ⟨q, 2, none⟩ u2).setCell ⟨q, 3, none⟩ u3).heap[q]? = some (.cells #[u0, u1, u2, u3] T (0, 0)) := by
  simp [World.setCell, Array.getElem?_modify, h]
def CopiedStore (bs : List Blob) (es : List Entry) (r t : Int) (w : World) (e : Ending) (w' : World) : Prop :=
  ∃ v1 v2, e = .returned (.agg #[v1, v2, .int .i64 r, .int .i64 t]) ∧ RBl w' v1 bs ∧ RE w' v2 es ∧ Below w.heap.size w w'

set_option maxRecDepth 100000 in
set_option maxHeartbeats 1000000 in
theorem store_Copy (v u : Value) (bs : List Blob) (es : List Entry) (r t : Int) (w : World) (h : RBl w v bs) (g : RE w u es) :
    Calls Try.prog 69 #[.agg #[v, u, .int .i64 r, .int .i64 t]] w (CopiedStore bs es r t w) := by
  have hR := hid h
  have hE := hid g
  have hf1 := hid (fit_B h)
  have hf2 := hid (fit_E g)
  obtain ⟨a, c, rfl, -, -, hre, -⟩ := h
  obtain ⟨a2, c2, rfl, -, -, hre2, -⟩ := g
  obtain ⟨w1, hw1⟩ : ∃ w1 : World, w1 = (w.alloc (Obj.cells #[.slice a bs.length c, .slice a2 es.length c2, .int .i64 r, .int .i64 t] 88)).alloc (Obj.cells #[.slice none 0 0, .slice none 0 0, .int .i64 0, .int .i64 0] 88) := ⟨_, rfl⟩
  have hb1 := hid (show Below w.heap.size w w1 by rw [hw1]; exact b_alloc (b_alloc (Below.refl _ _) _) _)
  have hq1 := hid (show w1.heap[w.heap.size]? = some (.cells #[.slice a bs.length c, .slice a2 es.length c2, .int .i64 r, .int .i64 t] 88 (0, 0)) by rw [hw1]; exact heap_alloc2_old w _ _)
  have hp1 := hid (show w1.heap[w.heap.size + 1]? = some (.cells #[.slice none 0 0, .slice none 0 0, .int .i64 0, .int .i64 0] 88 (0, 0)) by rw [hw1]; exact heap_alloc2_new w _ _)
  have hl1 := (Array.getElem?_eq_some_iff.1 hq1.out).1
  have hm1 := (Array.getElem?_eq_some_iff.1 hp1.out).1
  have f1 := hid (blob_Copy _ bs w1.drew (hR.out.mono EBlob.stable hb1.out.drew))
  go_enter Try.func69, Try.ntmps69
  go_wp2_with fail
  rw [← hw1]
  clear hw1
  obtain ⟨x0, x1, -, -⟩ := box4f hq1.out
  go_region_with (first
    | (go_at_call 54; refine f1.out.mono ?_
       rintro e w2 ⟨rfl, o1', b2⟩
       have o1 : OBlob w2 w1.heap.size (.slice (some ⟨w1.heap.size, 0, none⟩) bs.length bs.length) bs := o1'
       have hb2 : Below w.heap.size w w2 := b_call hb1.out.drew b2
       have hq2 := (b2.block w.heap.size hl1).trans hq1.out
       have hp2 := (b2.block (w.heap.size + 1) hm1).trans hp1.out
       obtain ⟨y0, y1, -, -⟩ := box4f hq2)
    | (go_at_call 40; refine (index_Copy _ es w2 (hE.out.mono EEntry.stable hb2)).mono ?_
       rintro e w3 ⟨rfl, o2, b3⟩
       have hb3 : Below w.heap.size w w3 := b_call hb2 b3
       have hq3 := (b3.block w.heap.size (Array.getElem?_eq_some_iff.1 hq2).1).trans hq2
       have hp3 := (b3.block (w.heap.size + 1) (Array.getElem?_eq_some_iff.1 hp2).1).trans hp2
       have o3 := OBlob.after o1 b3
       have hfr0 := frozen_heap hq3 0
       have hfr1 := frozen_heap hq3 1
       obtain ⟨z0, z1, -, -⟩ := box4f hq3))
  all_goals
    have hs2 : w1.heap.size ≤ w2.heap.size := b2.size
    have hq5 := box4_set01 (u0 := .slice (some ⟨w1.heap.size, 0, none⟩) bs.length bs.length) (u1 := .slice (some ⟨w2.heap.size, 0, none⟩) es.length es.length) hq3
    have hp5 := box_other (q := w.heap.size) (o := 1) (u := .slice (some ⟨w2.heap.size, 0, none⟩) es.length es.length) (box_other (q := w.heap.size) (o := 0) (u := .slice (some ⟨w1.heap.size, 0, none⟩) bs.length bs.length) hp3 (by omega)) (by omega)
    have ob5 := (o3.set (q := w.heap.size) (o := 0) (u := .slice (some ⟨w1.heap.size, 0, none⟩) bs.length bs.length) hl1).set (q := w.heap.size) (o := 1) (u := .slice (some ⟨w2.heap.size, 0, none⟩) es.length es.length) hl1
    have oe5 := (OEntry.set (q := w.heap.size) (o := 0) (u := .slice (some ⟨w1.heap.size, 0, none⟩) bs.length bs.length) o2 (by omega)).set (q := w.heap.size) (o := 1) (u := .slice (some ⟨w2.heap.size, 0, none⟩) es.length es.length) (by omega)
    have hb5 := b_set (b_set hb3 (p := ⟨w.heap.size, 0, none⟩) (Nat.le_refl _) (.slice (some ⟨w1.heap.size, 0, none⟩) bs.length bs.length)) (p := ⟨w.heap.size, 1, none⟩) (Nat.le_refl _) (.slice (some ⟨w2.heap.size, 0, none⟩) es.length es.length)
    clear o1 o1' o2 o3 hq1 hp1 hq2 hp2 hq3 hp3 hb1 hb2 hb3 b2 b3 x0 x1 y0 y1 z0 z1 hfr0 hfr1 f1 hR hE
    generalize (w3.setCell ⟨w.heap.size, 0, none⟩ (.slice (some ⟨w1.heap.size, 0, none⟩) bs.length bs.length)).setCell ⟨w.heap.size, 1, none⟩ (.slice (some ⟨w2.heap.size, 0, none⟩) es.length es.length) = w5 at *
    obtain ⟨y0, y1, y2, y3⟩ := box4f hq5
    obtain ⟨z0, z1, z2, z3⟩ := box4f hp5
    have g0 := frozen_heap hp5 0
    have g1 := frozen_heap hp5 1
    have g2 := frozen_heap hp5 2
    have g3 := frozen_heap hp5 3
    replace hp5 := hid hp5
    replace ob5 := hid ob5
    replace oe5 := hid oe5
    replace hb5 := hid hb5
    clear hq5
    go_wp2_with fail
    have hp6 := box4_set (u0 := .slice (some ⟨w1.heap.size, 0, none⟩) bs.length bs.length) (u1 := .slice (some ⟨w2.heap.size, 0, none⟩) es.length es.length) (u2 := .int .i64 r) (u3 := .int .i64 t) hp5.out
    have ob6 := (((ob5.out.set (q := w.heap.size + 1) (o := 0) (u := .slice (some ⟨w1.heap.size, 0, none⟩) bs.length bs.length) hm1).set (q := w.heap.size + 1) (o := 1) (u := .slice (some ⟨w2.heap.size, 0, none⟩) es.length es.length) hm1).set (q := w.heap.size + 1) (o := 2) (u := .int .i64 r) hm1).set (q := w.heap.size + 1) (o := 3) (u := .int .i64 t) hm1
    have hm2 : w.heap.size + 1 < w2.heap.size := by omega
    have oe6 := (((oe5.out.set (q := w.heap.size + 1) (o := 0) (u := .slice (some ⟨w1.heap.size, 0, none⟩) bs.length bs.length) hm2).set (q := w.heap.size + 1) (o := 1) (u := .slice (some ⟨w2.heap.size, 0, none⟩) es.length es.length) hm2).set (q := w.heap.size + 1) (o := 2) (u := .int .i64 r) hm2).set (q := w.heap.size + 1) (o := 3) (u := .int .i64 t) hm2
    have hb6 := b_set (b_set (b_set (b_set hb5.out (p := ⟨w.heap.size + 1, 0, none⟩) (Nat.le_succ _) (.slice (some ⟨w1.heap.size, 0, none⟩) bs.length bs.length)) (p := ⟨w.heap.size + 1, 1, none⟩) (Nat.le_succ _) (.slice (some ⟨w2.heap.size, 0, none⟩) es.length es.length)) (p := ⟨w.heap.size + 1, 2, none⟩) (Nat.le_succ _) (.int .i64 r)) (p := ⟨w.heap.size + 1, 3, none⟩) (Nat.le_succ _) (.int .i64 t)
    obtain ⟨k0, k1, k2, k3⟩ := box4f hp6
    generalize (((w5.setCell ⟨w.heap.size + 1, 0, none⟩ (.slice (some ⟨w1.heap.size, 0, none⟩) bs.length bs.length)).setCell ⟨w.heap.size + 1, 1, none⟩ (.slice (some ⟨w2.heap.size, 0, none⟩) es.length es.length)).setCell ⟨w.heap.size + 1, 2, none⟩ (.int .i64 r)).setCell ⟨w.heap.size + 1, 3, none⟩ (.int .i64 t) = w9 at *
    (try simp only [Exit.inBlock, Exit.then])
    refine bodyPost_ret (by simp [results, Try.results69, go_sem, k0, k1, k2, k3]; try rfl) rfl ?_
    exact ⟨_, _, rfl, ob6.toR hre hf1.out, oe6.toR hre2 hf2.out, hb6⟩
end Go.Proofs.Ytaojfpgbpakmpaa

namespace Go.Proofs.Ytaojfpgbpakmpaa
open Go.RowKit

set_option maxRecDepth 100000 in
set_option maxHeartbeats 1000000 in
theorem ref_StoreCopy (v u : Value) (bs : List Blob) (es : List Entry) (r t : Int) (w : World) (h : RBl w v bs) (g : RE w u es) :
    Calls Try.prog 71 #[.agg #[v, u, .int .i64 r, .int .i64 t]] w (CopiedStore bs es r t w) := by
  have hR := hid h
  have hE := hid g
  have hf1 := hid (fit_B h)
  have hf2 := hid (fit_E g)
  obtain ⟨a, c, rfl, -, -, hre, -⟩ := h
  obtain ⟨a2, c2, rfl, -, -, hre2, -⟩ := g
  obtain ⟨w1, hw1⟩ : ∃ w1 : World, w1 = (w.alloc (Obj.cells #[.slice a bs.length c, .slice a2 es.length c2, .int .i64 r, .int .i64 t] 88)).alloc (Obj.cells #[.slice none 0 0, .slice none 0 0, .int .i64 0, .int .i64 0] 88) := ⟨_, rfl⟩
  have hb1 := hid (show Below w.heap.size w w1 by rw [hw1]; exact b_alloc (b_alloc (Below.refl _ _) _) _)
  have hq1 := hid (show w1.heap[w.heap.size]? = some (.cells #[.slice a bs.length c, .slice a2 es.length c2, .int .i64 r, .int .i64 t] 88 (0, 0)) by rw [hw1]; exact heap_alloc2_old w _ _)
  have hp1 := hid (show w1.heap[w.heap.size + 1]? = some (.cells #[.slice none 0 0, .slice none 0 0, .int .i64 0, .int .i64 0] 88 (0, 0)) by rw [hw1]; exact heap_alloc2_new w _ _)
  have hl1 := (Array.getElem?_eq_some_iff.1 hq1.out).1
  have hm1 := (Array.getElem?_eq_some_iff.1 hp1.out).1
  have f1 := hid (ref_BlobsCopy _ bs w1.drew (hR.out.mono EBlob.stable hb1.out.drew))
  go_enter Try.func71, Try.ntmps71
  go_wp2_with fail
  rw [← hw1]
  clear hw1
  have hS := box4f hq1.out
  go_region_held3 (fun w' => w'.cell? ⟨w.heap.size, 0, none⟩ = some (.slice a bs.length c) ∧ w'.cell? ⟨w.heap.size, 1, none⟩ = some (.slice a2 es.length c2) ∧ w'.cell? ⟨w.heap.size, 2, none⟩ = some (.int .i64 r) ∧ w'.cell? ⟨w.heap.size, 3, none⟩ = some (.int .i64 t))
    (first
      | go_keep
      | exact hS3
      | exact hS2
      | exact hS
      | (have hqs := box_other (q := w.heap.size + 1) (o := 3) (u := .int .i64 t) (box_other (q := w.heap.size + 1) (o := 2) (u := .int .i64 r) (box_other (q := w.heap.size + 1) (o := 1) (u := .slice e2 es.length k2) (box_other (q := w.heap.size + 1) (o := 0) (u := .slice e1 bs.length k1) hq3 (by omega)) (by omega)) (by omega)) (by omega); exact box4f hqs)
      | fail)
    ((first
      | ((with_reducible refine f1.out.mono ?_)
         rintro e w2 ⟨v2, rfl, o1', b2⟩
         have o1 : OBlob w2 w1.heap.size v2 bs := o1'
         have hb2 : Below w.heap.size w w2 := b_call hb1.out.drew b2
         have hq2 := (b2.block w.heap.size hl1).trans hq1.out
         have hp2 := (b2.block (w.heap.size + 1) hm1).trans hp1.out
         have hS2 := box4f hq2
         obtain ⟨e1, k1, rfl, -⟩ : ∃ e1 k1, v2 = .slice e1 bs.length k1 ∧ True := (by
           obtain ⟨rs, rfl, h2, -⟩ := id o1
           obtain ⟨e1, k1, rfl, -⟩ := id (OS.len_le h2)
           exact ⟨e1, k1, by rw [List.length_map], trivial⟩))
      | ((with_reducible refine (ref_EntriesCopy _ es w2 (hE.out.mono EEntry.stable hb2)).mono ?_)
         rintro e w3 ⟨v3, rfl, o2, b3⟩
         have hb3 : Below w.heap.size w w3 := b_call hb2 b3
         have hq3 := (b3.block w.heap.size (Array.getElem?_eq_some_iff.1 hq2).1).trans hq2
         have hp3 := (b3.block (w.heap.size + 1) (Array.getElem?_eq_some_iff.1 hp2).1).trans hp2
         have o3 := OBlob.after o1 b3
         have g0 := frozen_heap hp3 0
         have g1 := frozen_heap hp3 1
         have g2 := frozen_heap hp3 2
         have g3 := frozen_heap hp3 3
         obtain ⟨z0, z1, z2, z3⟩ := box4f hp3
         have hS3 := box4f hq3
         obtain ⟨e2, k2, rfl, -⟩ : ∃ e2 k2, v3 = .slice e2 es.length k2 ∧ True := (by
           obtain ⟨rs, rfl, h2, -⟩ := id o2
           obtain ⟨e2, k2, rfl, -⟩ := id (OS.len_le h2)
           exact ⟨e2, k2, by rw [List.length_map], trivial⟩))
      | fail))
  have hs2 : w1.heap.size ≤ w2.heap.size := b2.size
  have hm2 : w.heap.size + 1 < w2.heap.size := by omega
  have hp6 := box4_set (u0 := .slice e1 bs.length k1) (u1 := .slice e2 es.length k2) (u2 := .int .i64 r) (u3 := .int .i64 t) hp3
  have ob6 := (((o3.set (q := w.heap.size + 1) (o := 0) (u := .slice e1 bs.length k1) hm1).set (q := w.heap.size + 1) (o := 1) (u := .slice e2 es.length k2) hm1).set (q := w.heap.size + 1) (o := 2) (u := .int .i64 r) hm1).set (q := w.heap.size + 1) (o := 3) (u := .int .i64 t) hm1
  have oe6 := (((OEntry.set (q := w.heap.size + 1) (o := 0) (u := .slice e1 bs.length k1) o2 hm2).set (q := w.heap.size + 1) (o := 1) (u := .slice e2 es.length k2) hm2).set (q := w.heap.size + 1) (o := 2) (u := .int .i64 r) hm2).set (q := w.heap.size + 1) (o := 3) (u := .int .i64 t) hm2
  have hb6 := b_set (b_set (b_set (b_set hb3 (p := ⟨w.heap.size + 1, 0, none⟩) (Nat.le_succ _) (.slice e1 bs.length k1)) (p := ⟨w.heap.size + 1, 1, none⟩) (Nat.le_succ _) (.slice e2 es.length k2)) (p := ⟨w.heap.size + 1, 2, none⟩) (Nat.le_succ _) (.int .i64 r)) (p := ⟨w.heap.size + 1, 3, none⟩) (Nat.le_succ _) (.int .i64 t)
  obtain ⟨m0, m1, m2, m3⟩ := box4f hp6
  generalize (((w3.setCell ⟨w.heap.size + 1, 0, none⟩ (.slice e1 bs.length k1)).setCell ⟨w.heap.size + 1, 1, none⟩ (.slice e2 es.length k2)).setCell ⟨w.heap.size + 1, 2, none⟩ (.int .i64 r)).setCell ⟨w.heap.size + 1, 3, none⟩ (.int .i64 t) = w9 at *
  go_wp2_with fail
  (try simp only [Exit.inBlock, Exit.then])
  refine bodyPost_ret (by simp [results, Try.results71, go_sem, m0, m1, m2, m3]; try rfl) rfl ?_
  exact ⟨_, _, rfl, ob6.toR hre hf1.out, oe6.toR hre2 hf2.out, hb6⟩

set_option maxRecDepth 100000 in
set_option maxHeartbeats 1000000 in
theorem law_sameStore_yes (v u v' u' : Value) (bs : List Blob) (es : List Entry) (r t : Int) (w : World) (h : RBl w v bs) (g : RE w u es) (h' : RBl w v' bs) (g' : RE w u' es) :
    Calls Try.prog 72 #[.agg #[v, u, .int .i64 r, .int .i64 t], .agg #[v', u', .int .i64 r, .int .i64 t]] w fun e w' => e = .returned (.bool true) ∧ Below w.heap.size w w' := by
  have hR := hid h
  have hE := hid g
  have hR' := hid h'
  have hE' := hid g'
  obtain ⟨a, c, rfl, -⟩ := h
  obtain ⟨a2, c2, rfl, -⟩ := g
  obtain ⟨a', c', rfl, -⟩ := h'
  obtain ⟨a2', c2', rfl, -⟩ := g'
  have hbA := b_alloc (b_alloc (Below.refl w.heap.size w) (Obj.cells #[.slice a bs.length c, .slice a2 es.length c2, .int .i64 r, .int .i64 t] 88)) (Obj.cells #[.slice a' bs.length c', .slice a2' es.length c2', .int .i64 r, .int .i64 t] 88)
  have hq := heap_alloc2_old w (Obj.cells #[.slice a bs.length c, .slice a2 es.length c2, .int .i64 r, .int .i64 t] 88) (Obj.cells #[.slice a' bs.length c', .slice a2' es.length c2', .int .i64 r, .int .i64 t] 88)
  have hp := heap_alloc2_new w (Obj.cells #[.slice a bs.length c, .slice a2 es.length c2, .int .i64 r, .int .i64 t] 88) (Obj.cells #[.slice a' bs.length c', .slice a2' es.length c2', .int .i64 r, .int .i64 t] 88)
  have c1 := hid (law_sameBlobs_yes _ _ _ bs (hR.out.mono EBlob.stable hbA) (hR'.out.mono EBlob.stable hbA))
  have hql := (Array.getElem?_eq_some_iff.1 hq).1
  have hpl := (Array.getElem?_eq_some_iff.1 hp).1
  replace hbA := hid hbA
  replace hq := hid hq
  replace hp := hid hp
  go_enter Try.func72, Try.ntmps72
  go_wp2_with fail
  ((with_reducible refine c1.out.mono ?_); rintro e w2 ⟨rfl, b2⟩)
  have hb2 := hid (hbA.out.trans (b2.mono hbA.out.size))
  obtain ⟨x0, x1, x2, x3⟩ := box4f ((b2.block w.heap.size hql).trans hq.out)
  obtain ⟨y0, y1, y2, y3⟩ := box4f ((b2.block (w.heap.size + 1) hpl).trans hp.out)
  have hq2 := hid ((b2.block w.heap.size hql).trans hq.out)
  have hp2 := hid ((b2.block (w.heap.size + 1) hpl).trans hp.out)
  clear b2 hbA hq hp hql hpl c1
  go_wp2_with fail
  ((with_reducible refine (law_sameEntries_yes _ _ _ es (hE.out.mono EEntry.stable hb2.out) (hE'.out.mono EEntry.stable hb2.out)).mono ?_); rintro e w3 ⟨rfl, b3⟩)
  have hb3 := hid (b_call hb2.out b3)
  clear x0 x1 x2 x3 y0 y1 y2 y3
  obtain ⟨x0, x1, x2, x3⟩ := box4f ((b3.block w.heap.size (Array.getElem?_eq_some_iff.1 hq2.out).1).trans hq2.out)
  obtain ⟨y0, y1, y2, y3⟩ := box4f ((b3.block (w.heap.size + 1) (Array.getElem?_eq_some_iff.1 hp2.out).1).trans hp2.out)
  clear b3 hb2
  go_wp2_with fail
  go_ret
  exact ⟨rfl, hb3.out⟩
end Go.Proofs.Ytaojfpgbpakmpaa

namespace Go.Proofs.Ytaojfpgbpakmpaa
open Go.RowKit

set_option maxRecDepth 100000 in
set_option maxHeartbeats 1000000 in
theorem StoreChecks_walk' (v u : Value) (bs : List Blob) (es : List Entry) (r t : Int) (w : World) (h : RBl w v bs) (g : RE w u es) (z : Int)
    (c1 : ∀ w, RBl w v bs → RE w u es → Calls Try.prog 68 #[.agg #[v, u, .int .i64 r, .int .i64 t]] w fun e w' => e = .returned (.int .i64 z) ∧ Below w.heap.size w w')
    (c2 : ∀ w, RBl w v bs → RE w u es → Calls Try.prog 70 #[.agg #[v, u, .int .i64 r, .int .i64 t]] w fun e w' => e = .returned (.int .i64 z) ∧ Below w.heap.size w w') :
    Calls Try.prog 16 #[.agg #[v, u, .int .i64 r, .int .i64 t]] w fun e w' => e = .returned (.bool true) ∧ Below w.heap.size w w' := by
  have f1 := hid fun w (h : RBl w v bs) (g : RE w u es) => store_Copy v u bs es r t w h g
  have f2 := hid fun w (h : RBl w v bs) (g : RE w u es) => ref_StoreCopy v u bs es r t w h g
  replace c1 := hid c1
  replace c2 := hid c2
  have hR := hid h
  have hE := hid g
  obtain ⟨a, c, rfl, -⟩ := h
  obtain ⟨a2, c2', rfl, -⟩ := g
  go_enter Try.func16, Try.ntmps16
  go_wp2_with fail
  ((with_reducible refine (c1.out _ (hR.out.mono EBlob.stable (b_alloc (Below.refl _ _) _)) (hE.out.mono EEntry.stable (b_alloc (Below.refl _ _) _))).mono ?_); rintro e w1 ⟨rfl, b1⟩)
  have hq1 := hid ((b1.block w.heap.size (by simp)).trans (heap_alloc_new w _))
  have hb1 := hid (b_call (b_alloc (Below.refl w.heap.size w) _) b1)
  clear b1 c1
  obtain ⟨x0, x1, x2, x3⟩ := box4f hq1.out
  go_wp2_with fail
  ((with_reducible refine (f1.out _ (hR.out.mono EBlob.stable hb1.out) (hE.out.mono EEntry.stable hb1.out)).mono ?_); rintro e w2 ⟨v2, u2, rfl, r2, s2, b2⟩)
  obtain ⟨a3, c3, rfl, -⟩ := id r2
  obtain ⟨a4, c4, rfl, -⟩ := id s2
  have hq2 := hid ((heap_alloc_old w2 (Obj.cells #[.slice a3 bs.length c3, .slice a4 es.length c4, .int .i64 r, .int .i64 t] 88) (Array.getElem?_eq_some_iff.1 ((b2.block w.heap.size (Array.getElem?_eq_some_iff.1 hq1.out).1).trans hq1.out)).1).trans ((b2.block w.heap.size (Array.getElem?_eq_some_iff.1 hq1.out).1).trans hq1.out))
  have hp2 := hid (heap_alloc_new w2 (Obj.cells #[.slice a3 bs.length c3, .slice a4 es.length c4, .int .i64 r, .int .i64 t] 88))
  have hb2 := hid (b_alloc (b_call hb1.out b2) (Obj.cells #[.slice a3 bs.length c3, .slice a4 es.length c4, .int .i64 r, .int .i64 t] 88))
  have r2' := hid (r2.mono EBlob.stable (b_alloc (Below.refl _ w2) (Obj.cells #[.slice a3 bs.length c3, .slice a4 es.length c4, .int .i64 r, .int .i64 t] 88)))
  have s2' := hid (s2.mono EEntry.stable (b_alloc (Below.refl _ w2) (Obj.cells #[.slice a3 bs.length c3, .slice a4 es.length c4, .int .i64 r, .int .i64 t] 88)))
  obtain ⟨n0, n1, n2, n3⟩ := box4f ((b2.block w.heap.size (Array.getElem?_eq_some_iff.1 hq1.out).1).trans hq1.out)
  have hl2 := (Array.getElem?_eq_some_iff.1 ((b2.block w.heap.size (Array.getElem?_eq_some_iff.1 hq1.out).1).trans hq1.out)).1
  clear x0 x1 x2 x3 hq1 hb1 b2 r2 s2 f1
  go_wp2_with fail
  ((with_reducible refine (c2.out _ (hR.out.mono EBlob.stable hb2.out) (hE.out.mono EEntry.stable hb2.out)).mono ?_); rintro e w3 ⟨rfl, b3⟩)
  have hq3 := hid ((b3.block w.heap.size (Array.getElem?_eq_some_iff.1 hq2.out).1).trans hq2.out)
  have hp3 := hid ((b3.block w2.heap.size (Array.getElem?_eq_some_iff.1 hp2.out).1).trans hp2.out)
  have hb3 := hid (b_call hb2.out b3)
  have r3 := hid (r2'.out.mono EBlob.stable b3)
  have s3 := hid (s2'.out.mono EEntry.stable b3)
  clear n0 n1 n2 n3 hl2 hq2 hp2 hb2 b3 r2' s2' c2
  obtain ⟨x0, x1, x2, x3⟩ := box4f hq3.out
  go_wp2_with fail
  ((with_reducible refine (f2.out _ (hR.out.mono EBlob.stable hb3.out) (hE.out.mono EEntry.stable hb3.out)).mono ?_); rintro e w4 ⟨v5, u5, rfl, r5, s5, b4⟩)
  obtain ⟨a5, c5, rfl, -⟩ := id r5
  obtain ⟨a6, c6, rfl, -⟩ := id s5
  have hp4 := (b4.block w2.heap.size (Array.getElem?_eq_some_iff.1 hp3.out).1).trans hp3.out
  have hl4 := (Array.getElem?_eq_some_iff.1 hp4).1
  have hb4 := hid (b_alloc (b_call hb3.out b4) (Obj.cells #[.slice a5 bs.length c5, .slice a6 es.length c6, .int .i64 r, .int .i64 t] 88))
  have bb := b_alloc (Below.refl _ w4) (Obj.cells #[.slice a5 bs.length c5, .slice a6 es.length c6, .int .i64 r, .int .i64 t] 88)
  have r3' := hid ((r3.out.mono EBlob.stable b4).mono EBlob.stable bb)
  have s3' := hid ((s3.out.mono EEntry.stable b4).mono EEntry.stable bb)
  have r5' := hid (r5.mono EBlob.stable bb)
  have s5' := hid (s5.mono EEntry.stable bb)
  clear x0 x1 x2 x3 hq3 hp3 hb3 b4 r5 s5 r3 s3 f2 bb
  obtain ⟨y0, y1, y2, y3⟩ := box4f hp4
  replace hp4 := hid hp4
  go_wp2_with fail
  ((with_reducible refine (law_sameStore_yes _ _ _ _ bs es r t _ r3'.out s3'.out r5'.out s5'.out).mono ?_); rintro e w6 ⟨rfl, b6⟩)
  have hb6 := hid (b_call hb4.out b6)
  clear b6
  go_wp2_with fail
  go_ret
  exact ⟨rfl, hb6.out⟩
theorem StoreChecks_walk (w : World) (cs : Array Value) (x : Store) (hx : VStore w cs.toList x) :
    Calls Try.prog 16 #[.agg cs] w fun e w' => e = .returned (.bool true) ∧ Below w.heap.size w w' := by
  obtain ⟨bv, ev, hc, hp, hs, -⟩ := hx
  obtain rfl : cs = #[bv, ev, .int .i64 x.room, .int .i64 x.clock] := by
    cases cs
    simp only at hc
    rw [hc]
  exact StoreChecks_walk' bv ev x.blobs x.entries x.room x.clock w hp hs _ (fun w h g => store_Check bv ev x.blobs x.entries x.room x.clock w h g) (fun w h g => ref_StoreFault bv ev x.blobs x.entries x.room x.clock w h g)
end Go.Proofs.Ytaojfpgbpakmpaa
