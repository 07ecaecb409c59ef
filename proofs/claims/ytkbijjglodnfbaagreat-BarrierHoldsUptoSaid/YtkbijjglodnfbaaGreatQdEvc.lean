/-
  evict.clean and the reference's reached: what a store comes to alone.
-/
import Derived.Test.YtkbijjglodnfbaaGreatQdDfb
import Derived.Test.YtkbijjglodnfbaaGreatQdRtx
import Derived.Test.YtkbijjglodnfbaaGreatQdStC
namespace Go.Proofs.YtkbijjglodnfbaaGreat
open Go.RowKit

def cleanL (L : List ByteArray) (bs : List Blob) : List Blob := bs.filter (fun x => isIn x.digest L)
theorem cleanL_not (L : List ByteArray) (bs : List Blob) : bs.filter (fun x => !(!isIn x.digest L)) = cleanL L bs := by unfold cleanL; simp only [Bool.not_not]
theorem KT.trans {w w1 w2 : World} (h : KT w w1) (h2 : KT w1 w2) : KT w w2 := fun p cs T fr hp hT => h2 _ _ _ _ (h p cs T fr hp hT) hT
theorem OEntry.kt {w w' : World} {B : Nat} {v : Value} {l : List Entry} (h : OEntry w B v l) (hk : KT w w') : OEntry w' B v l := by
  obtain ⟨rs, h1, h2, h3⟩ := h
  exact ⟨rs, h1, OS.kt h2 hk (by decide), fun r hr => OS.kt (h3 r hr) hk (by decide)⟩
theorem OBlob.box4 {w : World} {B q : Nat} {v a b c d : Value} {l : List Blob} (h : OBlob w B v l) (hq : w.heap[q]? = some (.cells #[a, b, c, d] 25 (0, 0))) (u0 u1 u2 u3 : Value) : OBlob (World.box4 w q u0 u1 u2 u3) B v l :=
  (((h.other hq (by decide) (by decide)).other (box4_0 hq) (by decide) (by decide)).other (box4_1 (box4_0 hq)) (by decide) (by decide)).other (box4_2 (box4_1 (box4_0 hq))) (by decide) (by decide)
theorem OEntry.box4 {w : World} {B q : Nat} {v a b c d : Value} {l : List Entry} (h : OEntry w B v l) (hq : w.heap[q]? = some (.cells #[a, b, c, d] 25 (0, 0))) (u0 u1 u2 u3 : Value) : OEntry (World.box4 w q u0 u1 u2 u3) B v l :=
  (((h.other hq (by decide) (by decide)).other (box4_0 hq) (by decide) (by decide)).other (box4_1 (box4_0 hq)) (by decide) (by decide)).other (box4_2 (box4_1 (box4_0 hq))) (by decide) (by decide)

set_option maxRecDepth 100000 in
set_option maxHeartbeats 400000 in
theorem clean1 (x : Blob) (a : Option Addr) (c : Nat) (L : List ByteArray) (p : Nat) (vL : Value) (w : World) (hp : w.heap[p]? = some (.cells #[vL] 26 (0, 0))) (hL : RT w vL L) :
    Calls Tryz.prog 125 #[.agg #[.string x.digest, .slice a x.data.length c, .int .i64 x.pins, .bool x.mark], .pointer (some ⟨p, 0, none⟩)] w fun e w' => e = .returned (.bool (!isIn x.digest L)) ∧ Below w.heap.size w w' := by
  have hcon := hid (slices_Contains_str vL L x.digest (w.alloc (Obj.cells #[.string x.digest, .slice a x.data.length c, .int .i64 x.pins, .bool x.mark] 80)) (hL.mono EStr.stable (b_alloc (Below.refl _ _) _)))
  have hpl := heap_lt hp
  have hp0 : w.cell? ⟨p, 0, none⟩ = some vL := cell_of_row _ _ 0 _ _ _ hp
  obtain ⟨la, lc, rfl, -⟩ := id hL
  go_enter Tryz.func125, Tryz.ntmps125
  go_wp2_with fail
  ((with_reducible refine hcon.out.mono ?_); rintro e w4 ⟨rfl, rfl⟩)
  go_wp2_with fail
  go_ret
  exact ⟨rfl, b_alloc (Below.refl _ _) _⟩

def CleanPost (L : List ByteArray) (bs : List Blob) (es : List Entry) (r t : Int) (B : Nat) (w : World) (e : Ending) (w' : World) : Prop :=
  ∃ v1 u1, e = .returned (.agg #[v1, u1, .int .i64 r, .int .i64 t]) ∧ OBlob w' B v1 (cleanL L bs) ∧ OEntry w' B u1 es ∧ Below B w w' ∧ KT w w'

set_option maxRecDepth 100000 in
set_option maxHeartbeats 2000000 in
theorem evict_clean (v u : Value) (bs : List Blob) (es : List Entry) (r t : Int) (B : Nat) (w : World) (h : OBlob w B v bs) (g : OEntry w B u es) (hB : B ≤ w.heap.size) (hbl : bs.length * 56 ≤ 140737488351232) (hel : es.length * 56 ≤ 140737488351232)
    (hf1 : ∀ x ∈ bs, FitBlob x) (hf2 : ∀ x ∈ es, FitEntry x) (hN : bulkN bs es ≤ 8388608) : Calls Tryz.prog 57 #[.agg #[v, u, .int .i64 r, .int .i64 t]] w (CleanPost (allOf bs es) bs es r t B w) := by
  have hall := hid (fun w h g => reach_AllP v u bs es r t w h g hN)
  unfold AllPost at hall
  unfold CleanPost
  have hR := hid (h.toR hbl hf1)
  have hE := hid (g.toR hel hf2)
  generalize allOf bs es = L at *
  obtain ⟨a, c, rfl⟩ := OX.lenOf h
  obtain ⟨a2, c2, rfl⟩ := OX.lenOf g
  replace h := hid h
  replace g := hid g
  replace hf1 := hid hf1
  clear hf2 hel
  obtain ⟨w1, hw1⟩ : ∃ w1 : World, w1 = (w.alloc (Obj.cells #[.slice a bs.length c, .slice a2 es.length c2, .int .i64 r, .int .i64 t] 25)).alloc (Obj.cells #[.slice none 0 0, .slice none 0 0, .int .i64 0, .int .i64 0] 25) := ⟨_, rfl⟩
  have hb1 := hid (show Below w.heap.size w w1 by rw [hw1]; exact b_alloc (b_alloc (Below.refl _ _) _) _)
  have hq1 := hid (show w1.heap[w.heap.size]? = some (.cells #[.slice a bs.length c, .slice a2 es.length c2, .int .i64 r, .int .i64 t] 25 (0, 0)) by
    rw [hw1]; exact hold (heap_alloc_new w _))
  have hp1 := hid (show w1.heap[w.heap.size + 1]? = some (.cells #[.slice none 0 0, .slice none 0 0, .int .i64 0, .int .i64 0] 25 (0, 0)) by
    rw [hw1]; exact heap_put _ _ _ (by simp))
  obtain ⟨x0, x1, x2, x3⟩ := box4f hq1.out
  go_enter Tryz.func57, Tryz.ntmps57
  go_wp2_with fail
  rw [← hw1]
  clear hw1
  ((with_reducible refine (hall.out _ (hR.out.mono EBlob.stable hb1.out) (hE.out.mono EEntry.stable hb1.out)).mono ?_); rintro e w2 ⟨vL, rfl, hLl, rL, oL, b2⟩)
  obtain ⟨la, lc, rfl, -⟩ := id rL
  have hq2 := stays b2 hq1.out
  have hp2 := stays b2 hp1.out
  have hb2 := b_call hb1.out b2
  have hLb := rt_bound rL
  have hLs := rt_sizes rL
  clear b2 hq1 hp1 hb1 x0 x1 x2 x3 hall
  obtain ⟨w3, hw3⟩ : ∃ w3 : World, w3 = w2.alloc (Obj.cells #[.slice la L.length lc] 26) := ⟨_, rfl⟩
  have hq3 := hid (show w3.heap[w.heap.size]? = some (.cells #[.slice a bs.length c, .slice a2 es.length c2, .int .i64 r, .int .i64 t] 25 (0, 0)) by rw [hw3]; exact hold hq2)
  have hp3 := hid (show w3.heap[w.heap.size + 1]? = some (.cells #[.slice none 0 0, .slice none 0 0, .int .i64 0, .int .i64 0] 25 (0, 0)) by rw [hw3]; exact hold hp2)
  have ha3 := hid (show w3.heap[w2.heap.size]? = some (.cells #[.slice la L.length lc] 26 (0, 0)) by rw [hw3]; exact heap_alloc_new _ _)
  have hb3 := hid (show Below w.heap.size w w3 by rw [hw3]; exact b_alloc hb2 _)
  have oL3 := hid (show OS 9 1 cStr w3 w1.heap.size (.slice la L.length lc) L by rw [hw3]; exact OS.alloc oL _)
  have hdel := hid (deleteFunc_B 125 #[.pointer (some ⟨w2.heap.size, 0, none⟩)] (fun x => !isIn x.digest L) (enters_of Tryz.func125 (by kernel_rfl) rfl) _ bs B w3 (h.out.after hb3.out) (Nat.le_trans hB hb3.out.size) hbl hf1.out
    (fun W x dv hb hk ok rb => by
      obtain ⟨xa, xc, rfl, -⟩ := rb
      exact clean1 x xa xc L w2.heap.size (.slice la L.length lc) W (hk _ _ _ _ ha3.out (by decide)) (reads_str (OS.kt oL3.out hk (by decide)) hLb hLs)))
  rw [cleanL_not] at hdel
  clear hq2 hp2 hb2 rL oL hLb hLs
  subst hw3
  obtain ⟨x0, x1, x2, x3⟩ := box4f hq3.out
  go_wp2_with fail
  ((with_reducible refine hdel.out.mono ?_); rintro e w5 ⟨v5, rfl, o5, b5, k5⟩)
  have hq5 := hid (k5 _ _ _ _ hq3.out (by decide))
  have hp5 := hid (k5 _ _ _ _ hp3.out (by decide))
  have hk5 := hid (KT.trans (KT.of hb3.out) k5)
  have hb5 := hid ((hb3.out.mono hB).trans b5)
  have oe5 := hid ((g.out.after hb3.out).kt k5)
  obtain ⟨b1, d1, rfl⟩ := OX.lenOf o5
  replace o5 := hid o5
  clear b5 k5 hdel x0 x1 x2 x3 ha3 oL3
  obtain ⟨x0, x1, x2, x3⟩ := box4f hq5.out
  obtain ⟨p0, p1, p2, p3⟩ := box4f hp5.out
  have hl1 := heap_lt hq5.out
  have hl2 := heap_lt hp5.out
  have f0 := frozen_heap hq5.out 0
  have g0 := frozen_heap hp5.out 0
  have g1 := frozen_heap hp5.out 1
  have g2 := frozen_heap hp5.out 2
  have g3 := frozen_heap hp5.out 3
  go_wp2_with fail
  have hl3 : w.heap.size + 1 ≠ w.heap.size := by omega
  have hp6 := box_other (q := w.heap.size) (o := 0) (u := .slice b1 (cleanL L bs).length d1) hp5.out hl3
  have hp9 := box4_same (u0 := .slice b1 (cleanL L bs).length d1) (u1 := .slice a2 es.length c2) (u2 := .int .i64 r) (u3 := .int .i64 t) hp6
  have o9 := (((((o5.out.other (o := 0) (u := .slice b1 (cleanL L bs).length d1) hq5.out (by decide) (by decide)).box4 hp6 (.slice b1 (cleanL L bs).length d1) (.slice a2 es.length c2) (.int .i64 r) (.int .i64 t)))))
  have e9 := (((((oe5.out.other (o := 0) (u := .slice b1 (cleanL L bs).length d1) hq5.out (by decide) (by decide)).box4 hp6 (.slice b1 (cleanL L bs).length d1) (.slice a2 es.length c2) (.int .i64 r) (.int .i64 t)))))
  have hb9 := bB_box4 (hb5.out.setCell (p := ⟨w.heap.size, 0, none⟩) hB (.slice b1 (cleanL L bs).length d1)) (q := w.heap.size + 1) (by omega) (.slice b1 (cleanL L bs).length d1) (.slice a2 es.length c2) (.int .i64 r) (.int .i64 t)
  have hk9 := KT.box4 (hk5.out.new (q := w.heap.size) (o := 0) (u := .slice b1 (cleanL L bs).length d1) (Nat.le_refl _)) (q := w.heap.size + 1) (by omega) (.slice b1 (cleanL L bs).length d1) (.slice a2 es.length c2) (.int .i64 r) (.int .i64 t)
  obtain ⟨m0, m1, m2, m3⟩ := box4f hp9
  unfold World.box4 at m0 m1 m2 m3 hb9 hk9 o9 e9
  refine bodyPost_ret (by simp [results, Tryz.results57, go_sem, m0, m1, m2, m3]; try rfl) rfl ?_
  exact ⟨_, _, rfl, o9, e9, hb9, hk9⟩
end Go.Proofs.YtkbijjglodnfbaaGreat
