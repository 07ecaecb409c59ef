/-
  evict.Clean and the reference's Cleaned: what they answer; the law EvictClears: its walk.
-/
import Derived.Test.YtkbijjglodnfbaaGreatQbEvr
namespace Go.Proofs.YtkbijjglodnfbaaGreat
open Go.RowKit

theorem waste_clean (L : List ByteArray) (bs : List Blob) : ((wasteIn L bs).length : Int) = (bs.length : Int) - ((cleanL L bs).length : Int) := by
  unfold wasteIn cleanL
  rw [List.length_map]
  induction bs with
  | nil => rfl
  | cons x bs ih =>
    cases h : isIn x.digest L <;> simp [h] <;> omega
def clnS (z : Int) (L : List ByteArray) (bs : List Blob) (es : List Entry) (r t : Int) : Store := if z ≠ 0 then noStore else ⟨cleanL L bs, es, r, t⟩
def clnN (z : Int) (L : List ByteArray) (bs : List Blob) : Int := if z ≠ 0 then 0 else (bs.length : Int) - ((cleanL L bs).length : Int)
def ClnPost (z n : Int) (S : Store) (w : World) (e : Ending) (w' : World) : Prop := ∃ v, e = .returned (.tuple #[v, .int .i64 n, .int .i64 z]) ∧ VS w' v S ∧ Below w.heap.size w w'
theorem cln_no {z : Int} {L : List ByteArray} {bs : List Blob} {es : List Entry} {r t : Int} {w w' : World} (h : z ≠ 0) (hb : Below w.heap.size w w') :
    ClnPost z (clnN z L bs) (clnS z L bs es r t) w (.returned (.tuple #[.agg #[.slice none 0 0, .slice none 0 0, .int .i64 0, .int .i64 0], .int .i64 0, .int .i64 z])) w' := by
  unfold clnN clnS
  rw [if_pos h, if_pos h]
  exact ⟨_, rfl, ⟨_, _, rfl, RS.nil, RS.nil⟩, hb⟩
theorem cln_ok {L : List ByteArray} {bs : List Blob} {es : List Entry} {r t n : Int} {v1 v2 : Value} {w w' : World} (hn : n = (bs.length : Int) - ((cleanL L bs).length : Int)) (h1 : RBl w' v1 (cleanL L bs)) (h2 : RE w' v2 es) (hb : Below w.heap.size w w') :
    ClnPost 0 (clnN 0 L bs) (clnS 0 L bs es r t) w (.returned (.tuple #[.agg #[v1, v2, .int .i64 r, .int .i64 t], .int .i64 n, .int .i64 0])) w' := by
  unfold clnN clnS
  rw [if_neg (by simp), if_neg (by simp)]
  exact ⟨_, by rw [hn], ⟨_, _, rfl, h1, h2⟩, hb⟩

set_option maxRecDepth 100000 in
set_option maxHeartbeats 8000000 in
theorem evict_Clean' (v u : Value) (bs : List Blob) (es : List Entry) (r t : Int) (w : World) (h : RBl w v bs) (g : RE w u es) (z : Int) (hz3 : z = 0 → bs.length ≤ 24 ∧ es.length ≤ 10 ∧ bulkN bs es ≤ 104)
    (hch : ∀ w, RBl w v bs → RE w u es → Calls Tryz.prog 47 #[.agg #[v, u, .int .i64 r, .int .i64 t]] w fun e w' => e = .returned (.int .i64 z) ∧ Below w.heap.size w w') :
    Calls Tryz.prog 18 #[.agg #[v, u, .int .i64 r, .int .i64 t]] w (ClnPost z (clnN z (allOf bs es) bs) (clnS z (allOf bs es) bs es r t) w) := by
  have hcl := hid (fun v u B w h g hB hbl hel hf1 hf2 hN => evict_clean v u bs es r t B w h g hB hbl hel hf1 hf2 hN)
  have hcp := hid (fun w h g => store_CopyO v u bs es r t w h g)
  have hcp2 := hid (fun L v u w h g => store_CopyO v u (cleanL L bs) es r t w h g)
  unfold OwnedStore at hcp hcp2
  unfold CleanPost at hcl
  replace hch := hid hch
  have hR := hid h
  have hE := hid g
  have hf1 := hid (fit_B h)
  have hf2 := hid (fit_E g)
  generalize allOf bs es = L at *
  have kO := hid (fun n v1 v2 w' hn h1 h2 hb => @cln_ok L bs es r t n v1 v2 w w' hn h1 h2 hb)
  have kN := hid (fun z w' h hb => @cln_no z L bs es r t w w' h hb)
  have hlen := clean_len L bs
  have hf3 := hid (clean_mem (L := L) hf1.out)
  obtain ⟨a, c, rfl, -⟩ := h
  obtain ⟨a2, c2, rfl, -⟩ := g
  obtain ⟨w1, hw1⟩ : ∃ w1 : World, w1 = (w.alloc (Obj.cells #[.slice a bs.length c, .slice a2 es.length c2, .int .i64 r, .int .i64 t] 25)).alloc (Obj.cells #[.slice none 0 0, .slice none 0 0, .int .i64 0, .int .i64 0] 25) := ⟨_, rfl⟩
  have hb1 := hid (show Below w.heap.size w w1 by rw [hw1]; exact b_alloc (b_alloc (Below.refl _ _) _) _)
  have hq1 := hid (show w1.heap[w.heap.size]? = some (.cells #[.slice a bs.length c, .slice a2 es.length c2, .int .i64 r, .int .i64 t] 25 (0, 0)) by
    rw [hw1]; exact hold (heap_alloc_new w _))
  have hp1 := hid (show w1.heap[w.heap.size + 1]? = some (.cells #[.slice none 0 0, .slice none 0 0, .int .i64 0, .int .i64 0] 25 (0, 0)) by
    rw [hw1]; exact heap_put _ _ _ (by simp))
  obtain ⟨x0, x1, x2, x3⟩ := box4f hq1.out
  go_enter Tryz.func18, Tryz.ntmps18
  go_wp2_with fail
  rw [← hw1]
  clear hw1
  ((with_reducible refine (hch.out _ (hR.out.mono EBlob.stable hb1.out) (hE.out.mono EEntry.stable hb1.out)).mono ?_); rintro e w2 ⟨rfl, b2⟩)
  have hq2 := hid (stays b2 hq1.out)
  have hp2 := hid (stays b2 hp1.out)
  have hb2 := hid (b_call hb1.out b2)
  clear b2 hq1 hp1 hb1 x0 x1 x2 x3 hch
  by_cases hz : z = 0
  · subst hz
    obtain ⟨h24, h10, hN⟩ := hz3 rfl
    obtain ⟨x0, x1, x2, x3⟩ := box4f hq2.out
    have hl1 := heap_lt hq2.out
    have hl2 := heap_lt hp2.out
    clear kN
    go_wp2_with fail
    ((with_reducible refine (hcp.out _ (hR.out.mono EBlob.stable hb2.out) (hE.out.mono EEntry.stable hb2.out)).mono ?_); rintro e w3 ⟨v3, u3, rfl, o3, e3, b3⟩)
    have hq3 := hid (stays b3 hq2.out)
    have hp3 := hid (stays b3 hp2.out)
    have hb3 := hid (b_call hb2.out b3)
    have hc3 := hid (hcl.out v3 u3 w2.heap.size w3 o3 e3 b3.size (by omega) (by omega) hf1.out hf2.out (by omega))
    have hs3 := b3.size
    clear b3 hq2 hp2 x0 x1 x2 x3 o3 e3 hcl hcp
    go_wp2_with fail
    ((with_reducible refine hc3.out.mono ?_); rintro e w4 ⟨v4, u4, rfl, o4, e4, b4, -⟩)
    have hsb2 := hb2.out.size
    have hb4 := hid (hb3.out.trans (b4.mono hsb2))
    have hq4 := (b4.block _ hl1).trans hq3.out
    have hp4 := (b4.block _ hl2).trans hp3.out
    have rb4 := o4.toR (by omega) hf3.out
    have re4 := e4.toR (by omega) hf2.out
    obtain ⟨b1, d1, rfl⟩ := OX.lenOf o4
    obtain ⟨b2, d2, rfl⟩ := OX.lenOf e4
    obtain ⟨w5, hw5⟩ : ∃ w5 : World, w5 = w4.alloc (Obj.cells #[.slice b1 (cleanL L bs).length d1, .slice b2 es.length d2, .int .i64 r, .int .i64 t] 25) := ⟨_, rfl⟩
    have hq5 := hid (show w5.heap[w.heap.size]? = some (.cells #[.slice a bs.length c, .slice a2 es.length c2, .int .i64 r, .int .i64 t] 25 (0, 0)) by rw [hw5]; exact hold hq4)
    have hp5 := hid (show w5.heap[w.heap.size + 1]? = some (.cells #[.slice none 0 0, .slice none 0 0, .int .i64 0, .int .i64 0] 25 (0, 0)) by rw [hw5]; exact hold hp4)
    have ho5 := hid (show w5.heap[w4.heap.size]? = some (.cells #[.slice b1 (cleanL L bs).length d1, .slice b2 es.length d2, .int .i64 r, .int .i64 t] 25 (0, 0)) by rw [hw5]; exact heap_alloc_new _ _)
    have hb5 := hid (show Below w.heap.size w w5 by rw [hw5]; exact b_alloc hb4.out _)
    have rb5 := hid (show RBl w5 (.slice b1 (cleanL L bs).length d1) (cleanL L bs) by rw [hw5]; exact RS.al EBlob.stable rb4 _)
    have re5 := hid (show RE w5 (.slice b2 es.length d2) es by rw [hw5]; exact RS.al EEntry.stable re4 _)
    have hcp5 := hid (hcp2.out L (.slice b1 (cleanL L bs).length d1) (.slice b2 es.length d2) w5.drew (rb5.out.mono EBlob.stable (Below.refl _ w5).drew) (re5.out.mono EEntry.stable (Below.refl _ w5).drew))
    have hl4 := heap_lt hp4
    clear b4 hq3 hp3 hb3 hc3 rb4 re4 o4 e4 hq4 hp4 hb4 hcp2
    go_wp2_with fail
    rw [← hw5]
    clear hw5
    generalize w4.heap.size = qo at *
    have hne : w.heap.size + 1 ≠ qo := by omega
    have hne2 : w.heap.size + 1 ≠ w.heap.size := by omega
    have hS := And.intro (box4f ho5.out) (box4f hq5.out).1
    have g1 : IntKind.i64.wrap ((bs.length : Int) - ((cleanL L bs).length : Int)) = (bs.length : Int) - ((cleanL L bs).length : Int) := IntWalk.i64_in _ (by omega)
    go_region_held3 (fun w' => (w'.cell? ⟨qo, 0, none⟩ = some (.slice b1 (cleanL L bs).length d1) ∧ w'.cell? ⟨qo, 1, none⟩ = some (.slice b2 es.length d2) ∧ w'.cell? ⟨qo, 2, none⟩ = some (.int .i64 r) ∧ w'.cell? ⟨qo, 3, none⟩ = some (.int .i64 t)) ∧ w'.cell? ⟨w.heap.size, 0, none⟩ = some (.slice a bs.length c))
      (first
        | with_reducible exact hS
        | with_reducible exact hS6
        | go_keep
        | fail)
      ((first
        | ((with_reducible refine hcp5.out.mono ?_)
           rintro e w6 ⟨v6, u6, rfl, o6, e6, b6⟩
           have hb6 : Below w5.heap.size w5 w6 := b_call (Below.refl _ w5).drew b6
           have hS6 := And.intro (box4f (stays hb6 ho5.out)) (box4f (stays hb6 hq5.out)).1
           have hp6 := stays hb6 hp5.out
           have hl6 := heap_lt hp6
           have f0 := frozen_heap hp6 0
           have f1 := frozen_heap hp6 1
           have f2 := frozen_heap hp6 2
           have f3 := frozen_heap hp6 3
           obtain ⟨p0, p1, p2, p3⟩ := box4f hp6
           obtain ⟨c1, k1, rfl⟩ := OX.lenOf o6
           obtain ⟨c2', k2, rfl⟩ := OX.lenOf e6)
        | fail))
    have rb6 := o6.toR (by omega) hf3.out
    have re6 := e6.toR (by omega) hf2.out
    have hb7 := b_call hb5.out hb6
    go_wp2_with fail
    have hp9 := box4_same (u0 := .slice c1 (cleanL L bs).length k1) (u1 := .slice c2' es.length k2) (u2 := .int .i64 r) (u3 := .int .i64 t) hp6
    have hb9 := bB_box4 hb7 (q := w.heap.size + 1) (by omega) (.slice c1 (cleanL L bs).length k1) (.slice c2' es.length k2) (.int .i64 r) (.int .i64 t)
    have r9 := rs_w4 (a := c1) (n := (cleanL L bs).length) (c := k1) (a' := c2') (n' := es.length) (c' := k2) (r := r) (t := t) EBlob.writes rb6 (SBox.of hp6)
    have e9 := rs_w4 (a := c1) (n := (cleanL L bs).length) (c := k1) (a' := c2') (n' := es.length) (c' := k2) (r := r) (t := t) EEntry.writes re6 (SBox.of hp6)
    obtain ⟨m0, m1, m2, m3⟩ := box4f hp9
    unfold World.box4 at m0 m1 m2 m3 hb9
    (try simp only [Exit.inBlock, Exit.then])
    refine bodyPost_ret (by simp [results, Tryz.results18, go_sem, m0, m1, m2, m3]; try rfl) rfl ?_
    exact kO.out _ _ _ _ rfl r9 e9 hb9
  · have ht : (z != 0) = true := by simp [hz]
    replace hz := hid hz
    obtain ⟨p0, p1, p2, p3⟩ := box4f hp2.out
    have hl2 := heap_lt hp2.out
    have g0 := frozen_heap hp2.out 0
    have g1 := frozen_heap hp2.out 1
    have g2 := frozen_heap hp2.out 2
    have g3 := frozen_heap hp2.out 3
    clear kO hcl hcp hcp2
    go_wp2_with fail
    have hp9 := box4_same (u0 := .slice none 0 0) (u1 := .slice none 0 0) (u2 := .int .i64 0) (u3 := .int .i64 0) hp2.out
    have hb9 := bB_box4 hb2.out (q := w.heap.size + 1) (by omega) (.slice none 0 0) (.slice none 0 0) (.int .i64 0) (.int .i64 0)
    obtain ⟨m0, m1, m2, m3⟩ := box4f hp9
    unfold World.box4 at m0 m1 m2 m3 hb9
    (try simp only [Exit.inBlock, Exit.then])
    refine bodyPost_ret (by simp [results, Tryz.results18, go_sem, m0, m1, m2, m3]; try rfl) rfl ?_
    exact kN.out _ _ hz.out hb9

set_option maxRecDepth 100000 in
set_option maxHeartbeats 8000000 in
theorem ref_Cleaned' (v u : Value) (bs : List Blob) (es : List Entry) (r t : Int) (w : World) (h : RBl w v bs) (g : RE w u es) (z : Int) (hz3 : z = 0 → bs.length ≤ 24 ∧ es.length ≤ 10 ∧ bulkN bs es ≤ 104)
    (hw : ∀ w, RBl w v bs → RE w u es → Calls Tryz.prog 58 #[.agg #[v, u, .int .i64 r, .int .i64 t]] w (WastePost z (wasteIn (allOf bs es) bs) w)) :
    Calls Tryz.prog 19 #[.agg #[v, u, .int .i64 r, .int .i64 t]] w (ClnPost z (clnN z (allOf bs es) bs) (clnS z (allOf bs es) bs es r t) w) := by
  have hrc := hid (fun (h0 : z = 0) w h g => ref_reached v u bs es r t w h g (Nat.le_trans (hz3 h0).2.2 (by decide)))
  unfold ReachedPost at hrc
  unfold WastePost at hw
  replace hw := hid hw
  have hR := hid h
  have hE := hid g
  have hf1 := hid (fit_B h)
  have hf2 := hid (fit_E g)
  have hwc := waste_clean (allOf bs es) bs
  generalize allOf bs es = L at *
  have kO := hid (fun n v1 v2 w' hn h1 h2 hb => @cln_ok L bs es r t n v1 v2 w w' hn h1 h2 hb)
  have kN := hid (fun z w' h hb => @cln_no z L bs es r t w w' h hb)
  have hlen := clean_len L bs
  have hf3 := hid (clean_mem (L := L) hf1.out)
  obtain ⟨a, c, rfl, -⟩ := h
  obtain ⟨a2, c2, rfl, -⟩ := g
  obtain ⟨w1, hw1⟩ : ∃ w1 : World, w1 = (w.alloc (Obj.cells #[.slice a bs.length c, .slice a2 es.length c2, .int .i64 r, .int .i64 t] 25)).alloc (Obj.cells #[.slice none 0 0, .slice none 0 0, .int .i64 0, .int .i64 0] 25) := ⟨_, rfl⟩
  have hb1 := hid (show Below w.heap.size w w1 by rw [hw1]; exact b_alloc (b_alloc (Below.refl _ _) _) _)
  have hq1 := hid (show w1.heap[w.heap.size]? = some (.cells #[.slice a bs.length c, .slice a2 es.length c2, .int .i64 r, .int .i64 t] 25 (0, 0)) by
    rw [hw1]; exact hold (heap_alloc_new w _))
  have hp1 := hid (show w1.heap[w.heap.size + 1]? = some (.cells #[.slice none 0 0, .slice none 0 0, .int .i64 0, .int .i64 0] 25 (0, 0)) by
    rw [hw1]; exact heap_put _ _ _ (by simp))
  obtain ⟨x0, x1, x2, x3⟩ := box4f hq1.out
  go_enter Tryz.func19, Tryz.ntmps19
  go_wp2_with fail
  rw [← hw1]
  clear hw1
  ((with_reducible refine (hw.out _ (hR.out.mono EBlob.stable hb1.out) (hE.out.mono EEntry.stable hb1.out)).mono ?_); rintro e w2 ⟨vW, rfl, rW, b2⟩)
  have hq2 := hid (stays b2 hq1.out)
  have hp2 := hid (stays b2 hp1.out)
  have hb2 := hid (b_call hb1.out b2)
  have hl1 := heap_lt hq2.out
  have hl2 := heap_lt hp2.out
  clear b2 hq1 hp1 hb1 x0 x1 x2 x3 hw
  by_cases hz : z = 0
  · subst hz
    replace hrc := hid (hrc.out rfl)
    obtain ⟨h24, h10, hN⟩ := hz3 rfl
    rw [if_pos rfl] at rW
    obtain ⟨wa, wc, rfl, -⟩ := id rW
    obtain ⟨x0, x1, x2, x3⟩ := box4f hq2.out
    clear kN
    go_wp2_with fail
    ((with_reducible refine (hrc.out _ (hR.out.mono EBlob.stable hb2.out) (hE.out.mono EEntry.stable hb2.out)).mono ?_); rintro e w6 ⟨v6, u6, rfl, o6, e6, b6⟩)
    obtain ⟨c1, k1, rfl⟩ := OX.lenOf o6
    obtain ⟨c2', k2, rfl⟩ := OX.lenOf e6
    have hp6 := stays b6 hp2.out
    have hl6 := heap_lt hp6
    obtain ⟨p0, p1, p2, p3⟩ := box4f hp6
    have f0 := frozen_heap hp6 0
    have f1 := frozen_heap hp6 1
    have f2 := frozen_heap hp6 2
    have f3 := frozen_heap hp6 3
    have rb6 := o6.toR (by omega) hf3.out
    have re6 := e6.toR (by omega) hf2.out
    have hb7 := b_call hb2.out b6
    clear x0 x1 x2 x3 b6 o6 e6 hrc
    go_wp2_with fail
    have hp9 := box4_same (u0 := .slice c1 (cleanL L bs).length k1) (u1 := .slice c2' es.length k2) (u2 := .int .i64 r) (u3 := .int .i64 t) hp6
    have hb9 := bB_box4 hb7 (q := w.heap.size + 1) (by omega) (.slice c1 (cleanL L bs).length k1) (.slice c2' es.length k2) (.int .i64 r) (.int .i64 t)
    have r9 := rs_w4 (a := c1) (n := (cleanL L bs).length) (c := k1) (a' := c2') (n' := es.length) (c' := k2) (r := r) (t := t) EBlob.writes rb6 (SBox.of hp6)
    have e9 := rs_w4 (a := c1) (n := (cleanL L bs).length) (c := k1) (a' := c2') (n' := es.length) (c' := k2) (r := r) (t := t) EEntry.writes re6 (SBox.of hp6)
    obtain ⟨m0, m1, m2, m3⟩ := box4f hp9
    unfold World.box4 at m0 m1 m2 m3 hb9
    (try simp only [Exit.inBlock, Exit.then])
    refine bodyPost_ret (by simp [results, Tryz.results19, go_sem, m0, m1, m2, m3]; try rfl) rfl ?_
    exact kO.out _ _ _ _ rfl r9 e9 hb9
  · have ht : (z != 0) = true := by simp [hz]
    rw [if_neg hz] at rW
    obtain ⟨wa, wc, rfl, -⟩ := id rW
    replace hz := hid hz
    obtain ⟨p0, p1, p2, p3⟩ := box4f hp2.out
    have g0 := frozen_heap hp2.out 0
    have g1 := frozen_heap hp2.out 1
    have g2 := frozen_heap hp2.out 2
    have g3 := frozen_heap hp2.out 3
    clear kO hrc
    go_wp2_with fail
    have hp9 := box4_same (u0 := .slice none 0 0) (u1 := .slice none 0 0) (u2 := .int .i64 0) (u3 := .int .i64 0) hp2.out
    have hb9 := bB_box4 hb2.out (q := w.heap.size + 1) (by omega) (.slice none 0 0) (.slice none 0 0) (.int .i64 0) (.int .i64 0)
    obtain ⟨m0, m1, m2, m3⟩ := box4f hp9
    unfold World.box4 at m0 m1 m2 m3 hb9
    (try simp only [Exit.inBlock, Exit.then])
    refine bodyPost_ret (by simp [results, Tryz.results19, go_sem, m0, m1, m2, m3]; try rfl) rfl ?_
    exact kN.out _ _ hz.out hb9

theorem evict_Clean (v u : Value) (bs : List Blob) (es : List Entry) (r t : Int) (w : World) (h : RBl w v bs) (g : RE w u es) :
    Calls Tryz.prog 18 #[.agg #[v, u, .int .i64 r, .int .i64 t]] w (ClnPost (storeFault bs es r t) (clnN (storeFault bs es r t) (allOf bs es) bs) (clnS (storeFault bs es r t) (allOf bs es) bs es r t) w) :=
  evict_Clean' v u bs es r t w h g _ store_small (fun w h g => store_Check v u bs es r t w h g)
theorem ref_Cleaned (v u : Value) (bs : List Blob) (es : List Entry) (r t : Int) (w : World) (h : RBl w v bs) (g : RE w u es) :
    Calls Tryz.prog 19 #[.agg #[v, u, .int .i64 r, .int .i64 t]] w (ClnPost (storeFault bs es r t) (clnN (storeFault bs es r t) (allOf bs es) bs) (clnS (storeFault bs es r t) (allOf bs es) bs es r t) w) :=
  ref_Cleaned' v u bs es r t w h g _ store_small (fun w h g => ref_Wasted v u bs es r t w h g)

set_option maxRecDepth 100000 in
set_option maxHeartbeats 1000000 in
theorem EvictClears_walk' (v u : Value) (bs : List Blob) (es : List Entry) (r t : Int) (w : World) (h : RBl w v bs) (g : RE w u es) :
    Calls Tryz.prog 4 #[.agg #[v, u, .int .i64 r, .int .i64 t]] w fun e w' => e = .returned (.bool true) ∧ Below w.heap.size w w' := by
  have f1 := hid fun w (h : RBl w v bs) (g : RE w u es) => evict_Clean v u bs es r t w h g
  have f2 := hid fun w (h : RBl w v bs) (g : RE w u es) => ref_Cleaned v u bs es r t w h g
  have hR := hid h
  have hE := hid g
  unfold ClnPost VS at f1 f2
  generalize clnN (storeFault bs es r t) (allOf bs es) bs = n at *
  generalize clnS (storeFault bs es r t) (allOf bs es) bs es r t = S at *
  generalize storeFault bs es r t = z at *
  obtain ⟨B1, E1, r1, t1⟩ := S
  simp only at f1 f2
  obtain ⟨a, c, rfl, -⟩ := h
  obtain ⟨a2, c2, rfl, -⟩ := g
  go_enter Tryz.func4, Tryz.ntmps4
  go_wp2_with fail
  ((with_reducible refine (f1.out _ (hR.out.mono EBlob.stable (b_alloc (Below.refl w.heap.size w) _)) (hE.out.mono EEntry.stable (b_alloc (Below.refl w.heap.size w) _))).mono ?_); rintro e1 w1 ⟨_, rfl, ⟨A1, D1, rfl, ra1, rd1⟩, b1⟩)
  have hq_q_1 := hid (stays b1 (heap_alloc_new w _))
  have hb1 := hid (b_call (b_alloc (Below.refl w.heap.size w) _) b1)
  have r_R_1 := hid (hR.out.mono EBlob.stable (b_call (b_alloc (Below.refl w.heap.size w) _) b1))
  have r_E_1 := hid (hE.out.mono EEntry.stable (b_call (b_alloc (Below.refl w.heap.size w) _) b1))
  have r_a1_1 := hid ra1
  have r_d1_1 := hid rd1
  clear ra1 rd1 b1
  obtain ⟨a_1, c_1, rfl, -⟩ := id r_a1_1.out
  obtain ⟨e_1, d_1, rfl, -⟩ := id r_d1_1.out
  obtain ⟨x_q_0, x_q_1, x_q_2, x_q_3⟩ := box4f hq_q_1.out
  have l_q := heap_lt hq_q_1.out
  go_wp2_with fail
  ((with_reducible refine (f2.out _ (r_R_1.out.mono EBlob.stable (b_alloc (Below.refl w1.heap.size w1) _)) (r_E_1.out.mono EEntry.stable (b_alloc (Below.refl w1.heap.size w1) _))).mono ?_); rintro e2 w2 ⟨_, rfl, ⟨A2, D2, rfl, ra2, rd2⟩, b2⟩)
  clear x_q_0 x_q_1 x_q_2 x_q_3 l_q
  have hq_x1_2 := hid (stays b2 (heap_alloc_new w1 _))
  have hq_q_2 := hid (stays b2 (hold hq_q_1.out))
  have hb2 := hid (b_call (b_alloc hb1.out _) b2)
  have r_R_2 := hid (r_R_1.out.mono EBlob.stable (b_call (b_alloc (Below.refl w1.heap.size w1) _) b2))
  have r_E_2 := hid (r_E_1.out.mono EEntry.stable (b_call (b_alloc (Below.refl w1.heap.size w1) _) b2))
  have r_a1_2 := hid (r_a1_1.out.mono EBlob.stable (b_call (b_alloc (Below.refl w1.heap.size w1) _) b2))
  have r_d1_2 := hid (r_d1_1.out.mono EEntry.stable (b_call (b_alloc (Below.refl w1.heap.size w1) _) b2))
  have r_a2_2 := hid ra2
  have r_d2_2 := hid rd2
  clear hq_q_1 hb1 r_R_1 r_E_1 r_a1_1 r_d1_1 ra2 rd2 b2
  obtain ⟨a_2, c_2, rfl, -⟩ := id r_a2_2.out
  obtain ⟨e_2, d_2, rfl, -⟩ := id r_d2_2.out
  obtain ⟨x_x1_0, x_x1_1, x_x1_2, x_x1_3⟩ := box4f hq_x1_2.out
  have l_x1 := heap_lt hq_x1_2.out
  obtain ⟨x_q_0, x_q_1, x_q_2, x_q_3⟩ := box4f hq_q_2.out
  have l_q := heap_lt hq_q_2.out
  go_wp2_with fail
  ((with_reducible refine (law_sameStore_yes _ _ _ _ B1 E1 r1 t1 _ (r_a1_2.out.mono EBlob.stable (b_alloc (Below.refl w2.heap.size w2) _)) (r_d1_2.out.mono EEntry.stable (b_alloc (Below.refl w2.heap.size w2) _)) (r_a2_2.out.mono EBlob.stable (b_alloc (Below.refl w2.heap.size w2) _)) (r_d2_2.out.mono EEntry.stable (b_alloc (Below.refl w2.heap.size w2) _))).mono ?_); rintro e3 w3 ⟨rfl, b3⟩)
  clear x_x1_0 x_x1_1 x_x1_2 x_x1_3 l_x1 x_q_0 x_q_1 x_q_2 x_q_3 l_q
  have hq_x2_3 := hid (stays b3 (heap_alloc_new w2 _))
  have hq_x1_3 := hid (stays b3 (hold hq_x1_2.out))
  have hq_q_3 := hid (stays b3 (hold hq_q_2.out))
  have hb3 := hid (b_call (b_alloc hb2.out _) b3)
  have r_R_3 := hid (r_R_2.out.mono EBlob.stable (b_call (b_alloc (Below.refl w2.heap.size w2) _) b3))
  have r_E_3 := hid (r_E_2.out.mono EEntry.stable (b_call (b_alloc (Below.refl w2.heap.size w2) _) b3))
  have r_a1_3 := hid (r_a1_2.out.mono EBlob.stable (b_call (b_alloc (Below.refl w2.heap.size w2) _) b3))
  have r_d1_3 := hid (r_d1_2.out.mono EEntry.stable (b_call (b_alloc (Below.refl w2.heap.size w2) _) b3))
  have r_a2_3 := hid (r_a2_2.out.mono EBlob.stable (b_call (b_alloc (Below.refl w2.heap.size w2) _) b3))
  have r_d2_3 := hid (r_d2_2.out.mono EEntry.stable (b_call (b_alloc (Below.refl w2.heap.size w2) _) b3))
  clear hq_x1_2 hq_q_2 hb2 r_R_2 r_E_2 r_a1_2 r_d1_2 r_a2_2 r_d2_2 b3
  have q1 : (n == n) = true := by simp
  have q2 : (z == z) = true := by simp
  go_wp2_with fail
  go_ret
  exact ⟨rfl, hb3.out⟩
theorem EvictClears_walk (w : World) (cs : Array Value) (x : Store) (hx : VStore w cs.toList x) :
    Calls Tryz.prog 4 #[.agg cs] w fun e w' => e = .returned (.bool true) ∧ Below w.heap.size w w' := by
  obtain ⟨bv, ev, hc, hp, he, -⟩ := hx
  obtain rfl : cs = #[bv, ev, .int .i64 x.room, .int .i64 x.clock] := by
    cases cs
    simp only at hc
    rw [hc]
  exact EvictClears_walk' bv ev x.blobs x.entries x.room x.clock w hp he
end Go.Proofs.YtkbijjglodnfbaaGreat
