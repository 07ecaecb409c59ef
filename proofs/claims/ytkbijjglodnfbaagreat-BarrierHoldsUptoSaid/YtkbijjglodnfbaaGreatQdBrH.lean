/-
  barrier.Evict and the reference's KeptEvict over all arguments; the law BarrierHolds: its walk. Printed by gen_brh.py.
-/
import Derived.Test.YtkbijjglodnfbaaGreatQdBrW
import Derived.Test.YtkbijjglodnfbaaGreatQdEvK
namespace Go.Proofs.YtkbijjglodnfbaaGreat
open Go.RowKit

noncomputable def evK (z : Int) (O : EvO) : EvO := if z ≠ 0 then evNo z else O
theorem evK_bad {z : Int} {O : EvO} (h : z ≠ 0) : evK z O = evNo z := if_pos h
theorem evK_ok {O : EvO} : evK 0 O = O := if_neg (by simp)
theorem evK_fin {O X : EvO} {x r t r1 t1 : Int} {B : List Blob} {E : List Entry} {TL : List ByteArray} {v1 v2 gv : Value} {w w' : World} (h : X = O) (hx : O.err = x) (hy : O.gone = TL) (hS : (if O.err = 0 then (⟨O.bs, O.es, r, t⟩ : Store) else noStore) = ⟨B, E, r1, t1⟩)
    (h1 : RBl w' v1 B) (h2 : RE w' v2 E) (h3 : RT w' gv TL) (hb : Below w.heap.size w w') :
    EvPost X r t w (.returned (.tuple #[.agg #[v1, v2, .int .i64 r1, .int .i64 t1], gv, .int .i64 x])) w' := by
  subst h hx hy
  refine ⟨_, _, rfl, ?_, h3, hb⟩
  rw [hS]
  exact ⟨_, _, rfl, h1, h2⟩
noncomputable def evKO (bs : List Blob) (es : List Entry) (r t ph : Int) (gy : List ByteArray) (pl : ByteArray) (m : Int) : EvO := evK (collF bs es r t ph gy pl) (evO (storeFault bs es r t) bs es r m)

set_option maxRecDepth 100000 in
set_option maxHeartbeats 1000000 in
theorem barrier_Evict' (v u gv : Value) (bs : List Blob) (es : List Entry) (r t ph : Int) (pl : ByteArray) (gy : List ByteArray) (m : Int) (w : World) (h : RBl w v bs) (g : RE w u es) (hg : RT w gv gy) (z : Int) (O : EvO)
    (hch : ∀ w, RBl w v bs → RE w u es → RT w gv gy → Calls Tryz.prog 68 #[.agg #[v, u, .int .i64 r, .int .i64 t], .agg #[.int .i64 ph, gv, .string pl]] w fun e w' => e = .returned (.int .i64 z) ∧ Below w.heap.size w w')
    (hop : ∀ w, RBl w v bs → RE w u es → Calls Tryz.prog 20 #[.agg #[v, u, .int .i64 r, .int .i64 t], .int .i64 m] w (EvPost O r t w)) :
    Calls Tryz.prog 32 #[.agg #[v, u, .int .i64 r, .int .i64 t], .agg #[.int .i64 ph, gv, .string pl], .int .i64 m] w (EvPost (evK z O) r t w) := by
  replace hch := hid hch
  have hR := hid h
  have hE := hid g
  have hG := hid hg
  obtain ⟨a, c, rfl, -⟩ := h
  obtain ⟨a2, c2, rfl, -⟩ := g
  obtain ⟨ga, gc, rfl, -⟩ := hg
  by_cases hz : z = 0
  · subst hz
    have hd := hid (evK_ok (O := O))
    have hO : O = ⟨O.err, O.bs, O.es, O.gone⟩ := rfl
    unfold EvPost VS at hop
    generalize hS : (if O.err = 0 then (⟨O.bs, O.es, r, t⟩ : Store) else noStore) = S at hop
    replace hS := hid hS
    obtain ⟨B1, E1, r1, t1⟩ := S
    simp only at hop
    generalize hx : O.err = x at hop
    generalize hy : O.gone = TL at hop
    replace hx := hid hx
    replace hy := hid hy
    clear hO
    replace hop := hid hop
    go_enter Tryz.func32, Tryz.ntmps32
    go_wp2_with fail
    ((with_reducible refine (hch.out _ (hR.out.mono EBlob.stable (b_alloc (b_alloc (b_alloc (Below.refl w.heap.size w) _) _) _)) (hE.out.mono EEntry.stable (b_alloc (b_alloc (b_alloc (Below.refl w.heap.size w) _) _) _)) (hG.out.mono EStr.stable (b_alloc (b_alloc (b_alloc (Below.refl w.heap.size w) _) _) _))).mono ?_); rintro e1 w1 ⟨rfl, b1⟩)
    have hq_q_1 := hid (stays b1 (hold (hold (heap_put w _ (w.heap.size) (by simp)))))
    have hq_k_1 := hid (stays b1 (hold (heap_put _ _ (w.heap.size + 1) (by simp))))
    have hq_p_1 := hid (stays b1 (heap_put _ _ (w.heap.size + 1 + 1) (by simp)))
    have hb1 := hid (b_call (b_alloc (b_alloc (b_alloc (Below.refl w.heap.size w) _) _) _) b1)
    have r_R_1 := hid (hR.out.mono EBlob.stable (b_call (b_alloc (b_alloc (b_alloc (Below.refl w.heap.size w) _) _) _) b1))
    have r_E_1 := hid (hE.out.mono EEntry.stable (b_call (b_alloc (b_alloc (b_alloc (Below.refl w.heap.size w) _) _) _) b1))
    have r_G_1 := hid (hG.out.mono EStr.stable (b_call (b_alloc (b_alloc (b_alloc (Below.refl w.heap.size w) _) _) _) b1))
    clear b1
    obtain ⟨x_q_0, x_q_1, x_q_2, x_q_3⟩ := box4f hq_q_1.out
    obtain ⟨x_k_0, x_k_1, x_k_2, -⟩ := box3f hq_k_1.out
    go_wp2_with fail
    ((with_reducible refine (hop.out _ r_R_1.out r_E_1.out).mono ?_); rintro e2 w2 ⟨_, pv, rfl, ⟨A1, D1, rfl, ra1, rd1⟩, rp1, b2⟩)
    clear x_q_0 x_q_1 x_q_2 x_q_3 x_k_0 x_k_1 x_k_2
    have hq_q_2 := hid (stays b2 hq_q_1.out)
    have hq_k_2 := hid (stays b2 hq_k_1.out)
    have hq_p_2 := hid (stays b2 hq_p_1.out)
    have hb2 := hid (b_call hb1.out b2)
    have r_R_2 := hid (r_R_1.out.mono EBlob.stable (b_call (Below.refl w1.heap.size w1) b2))
    have r_E_2 := hid (r_E_1.out.mono EEntry.stable (b_call (Below.refl w1.heap.size w1) b2))
    have r_G_2 := hid (r_G_1.out.mono EStr.stable (b_call (Below.refl w1.heap.size w1) b2))
    have r_a1_2 := hid ra1
    have r_d1_2 := hid rd1
    have r_p1_2 := hid rp1
    clear hq_q_1 hq_k_1 hq_p_1 hb1 r_R_1 r_E_1 r_G_1 ra1 rd1 rp1 b2
    obtain ⟨a5, c5, rfl, -⟩ := id r_a1_2.out
    obtain ⟨a6, c6, rfl, -⟩ := id r_d1_2.out
    obtain ⟨a7, c7, rfl, -⟩ := id r_p1_2.out
    obtain ⟨x_p_0, x_p_1, x_p_2, x_p_3⟩ := box4f hq_p_2.out
    have l_p := heap_lt hq_p_2.out
    have g_p_0 := frozen_heap hq_p_2.out 0
    have g_p_1 := frozen_heap hq_p_2.out 1
    have g_p_2 := frozen_heap hq_p_2.out 2
    have g_p_3 := frozen_heap hq_p_2.out 3
    go_wp2_with fail
    have hp9 := box4_same (u0 := .slice a5 B1.length c5) (u1 := .slice a6 E1.length c6) (u2 := .int .i64 r1) (u3 := .int .i64 t1) hq_p_2.out
    have hb9 := b_box4 hb2.out (q := w.heap.size + 1 + 1) (by omega) (.slice a5 B1.length c5) (.slice a6 E1.length c6) (.int .i64 r1) (.int .i64 t1)
    have hbx := (⟨_, _, _, _, _, _, _, _, hq_p_2.out⟩ : ∃ a n c a' n' c' r t, w2.heap[w.heap.size + 1 + 1]? = some (.cells #[.slice a n c, .slice a' n' c', .int .i64 r, .int .i64 t] 25 (0, 0)))
    have r9 := r_a1_2.out.box4 EBlob.writes hbx a5 B1.length c5 a6 E1.length c6 r1 t1
    have e9 := r_d1_2.out.box4 EEntry.writes hbx a5 B1.length c5 a6 E1.length c6 r1 t1
    have t9 := r_p1_2.out.box4 EStr.writes hbx a5 B1.length c5 a6 E1.length c6 r1 t1
    obtain ⟨m0, m1, m2, m3⟩ := box4f hp9
    unfold World.box4 at m0 m1 m2 m3 hb9 r9 e9 t9
    (try simp only [Exit.inBlock, Exit.then])
    refine bodyPost_ret (by simp [results, Tryz.results32, go_sem, m0, m1, m2, m3]; try rfl) rfl ?_
    exact evK_fin hd.out hx.out hy.out hS.out r9 e9 t9 hb9
  · have ht : (z != 0) = true := by simp [hz]
    have hd := hid (evK_bad (O := O) hz)
    replace hz := hid hz
    clear hop
    go_enter Tryz.func32, Tryz.ntmps32
    go_wp2_with fail
    ((with_reducible refine (hch.out _ (hR.out.mono EBlob.stable (b_alloc (b_alloc (b_alloc (Below.refl w.heap.size w) _) _) _)) (hE.out.mono EEntry.stable (b_alloc (b_alloc (b_alloc (Below.refl w.heap.size w) _) _) _)) (hG.out.mono EStr.stable (b_alloc (b_alloc (b_alloc (Below.refl w.heap.size w) _) _) _))).mono ?_); rintro e1 w1 ⟨rfl, b1⟩)
    have hq_q_1 := hid (stays b1 (hold (hold (heap_put w _ (w.heap.size) (by simp)))))
    have hq_k_1 := hid (stays b1 (hold (heap_put _ _ (w.heap.size + 1) (by simp))))
    have hq_p_1 := hid (stays b1 (heap_put _ _ (w.heap.size + 1 + 1) (by simp)))
    have hb1 := hid (b_call (b_alloc (b_alloc (b_alloc (Below.refl w.heap.size w) _) _) _) b1)
    have r_R_1 := hid (hR.out.mono EBlob.stable (b_call (b_alloc (b_alloc (b_alloc (Below.refl w.heap.size w) _) _) _) b1))
    have r_E_1 := hid (hE.out.mono EEntry.stable (b_call (b_alloc (b_alloc (b_alloc (Below.refl w.heap.size w) _) _) _) b1))
    have r_G_1 := hid (hG.out.mono EStr.stable (b_call (b_alloc (b_alloc (b_alloc (Below.refl w.heap.size w) _) _) _) b1))
    clear b1
    obtain ⟨x_q_0, x_q_1, x_q_2, x_q_3⟩ := box4f hq_q_1.out
    obtain ⟨x_k_0, x_k_1, x_k_2, -⟩ := box3f hq_k_1.out
    obtain ⟨x_p_0, x_p_1, x_p_2, x_p_3⟩ := box4f hq_p_1.out
    have l_p := heap_lt hq_p_1.out
    have g_p_0 := frozen_heap hq_p_1.out 0
    have g_p_1 := frozen_heap hq_p_1.out 1
    have g_p_2 := frozen_heap hq_p_1.out 2
    have g_p_3 := frozen_heap hq_p_1.out 3
    go_wp2_with fail
    have hp9 := box4_same (u0 := .slice none 0 0) (u1 := .slice none 0 0) (u2 := .int .i64 0) (u3 := .int .i64 0) hq_p_1.out
    have hb9 := b_box4 hb1.out (q := w.heap.size + 1 + 1) (by omega) (.slice none 0 0) (.slice none 0 0) (.int .i64 0) (.int .i64 0)
    obtain ⟨m0, m1, m2, m3⟩ := box4f hp9
    unfold World.box4 at m0 m1 m2 m3 hb9
    (try simp only [Exit.inBlock, Exit.then])
    refine bodyPost_ret (by simp [results, Tryz.results32, go_sem, m0, m1, m2, m3]; try rfl) rfl ?_
    exact ev_no hd.out hz.out hb9

set_option maxRecDepth 100000 in
set_option maxHeartbeats 1000000 in
theorem ref_KeptEvict' (v u gv : Value) (bs : List Blob) (es : List Entry) (r t ph : Int) (pl : ByteArray) (gy : List ByteArray) (m : Int) (w : World) (h : RBl w v bs) (g : RE w u es) (hg : RT w gv gy) (z : Int) (O : EvO)
    (hch : ∀ w, RBl w v bs → RE w u es → RT w gv gy → Calls Tryz.prog 70 #[.agg #[v, u, .int .i64 r, .int .i64 t], .agg #[.int .i64 ph, gv, .string pl]] w fun e w' => e = .returned (.int .i64 z) ∧ Below w.heap.size w w')
    (hop : ∀ w, RBl w v bs → RE w u es → Calls Tryz.prog 21 #[.agg #[v, u, .int .i64 r, .int .i64 t], .int .i64 m] w (EvPost O r t w)) :
    Calls Tryz.prog 34 #[.agg #[v, u, .int .i64 r, .int .i64 t], .agg #[.int .i64 ph, gv, .string pl], .int .i64 m] w (EvPost (evK z O) r t w) := by
  replace hch := hid hch
  have hR := hid h
  have hE := hid g
  have hG := hid hg
  obtain ⟨a, c, rfl, -⟩ := h
  obtain ⟨a2, c2, rfl, -⟩ := g
  obtain ⟨ga, gc, rfl, -⟩ := hg
  by_cases hz : z = 0
  · subst hz
    have hd := hid (evK_ok (O := O))
    have hO : O = ⟨O.err, O.bs, O.es, O.gone⟩ := rfl
    unfold EvPost VS at hop
    generalize hS : (if O.err = 0 then (⟨O.bs, O.es, r, t⟩ : Store) else noStore) = S at hop
    replace hS := hid hS
    obtain ⟨B1, E1, r1, t1⟩ := S
    simp only at hop
    generalize hx : O.err = x at hop
    generalize hy : O.gone = TL at hop
    replace hx := hid hx
    replace hy := hid hy
    clear hO
    replace hop := hid hop
    go_enter Tryz.func34, Tryz.ntmps34
    go_wp2_with fail
    ((with_reducible refine (hch.out _ (hR.out.mono EBlob.stable (b_alloc (b_alloc (b_alloc (Below.refl w.heap.size w) _) _) _)) (hE.out.mono EEntry.stable (b_alloc (b_alloc (b_alloc (Below.refl w.heap.size w) _) _) _)) (hG.out.mono EStr.stable (b_alloc (b_alloc (b_alloc (Below.refl w.heap.size w) _) _) _))).mono ?_); rintro e1 w1 ⟨rfl, b1⟩)
    have hq_q_1 := hid (stays b1 (hold (hold (heap_put w _ (w.heap.size) (by simp)))))
    have hq_k_1 := hid (stays b1 (hold (heap_put _ _ (w.heap.size + 1) (by simp))))
    have hq_p_1 := hid (stays b1 (heap_put _ _ (w.heap.size + 1 + 1) (by simp)))
    have hb1 := hid (b_call (b_alloc (b_alloc (b_alloc (Below.refl w.heap.size w) _) _) _) b1)
    have r_R_1 := hid (hR.out.mono EBlob.stable (b_call (b_alloc (b_alloc (b_alloc (Below.refl w.heap.size w) _) _) _) b1))
    have r_E_1 := hid (hE.out.mono EEntry.stable (b_call (b_alloc (b_alloc (b_alloc (Below.refl w.heap.size w) _) _) _) b1))
    have r_G_1 := hid (hG.out.mono EStr.stable (b_call (b_alloc (b_alloc (b_alloc (Below.refl w.heap.size w) _) _) _) b1))
    clear b1
    obtain ⟨x_q_0, x_q_1, x_q_2, x_q_3⟩ := box4f hq_q_1.out
    obtain ⟨x_k_0, x_k_1, x_k_2, -⟩ := box3f hq_k_1.out
    go_wp2_with fail
    ((with_reducible refine (hop.out _ r_R_1.out r_E_1.out).mono ?_); rintro e2 w2 ⟨_, pv, rfl, ⟨A1, D1, rfl, ra1, rd1⟩, rp1, b2⟩)
    clear x_q_0 x_q_1 x_q_2 x_q_3 x_k_0 x_k_1 x_k_2
    have hq_q_2 := hid (stays b2 hq_q_1.out)
    have hq_k_2 := hid (stays b2 hq_k_1.out)
    have hq_p_2 := hid (stays b2 hq_p_1.out)
    have hb2 := hid (b_call hb1.out b2)
    have r_R_2 := hid (r_R_1.out.mono EBlob.stable (b_call (Below.refl w1.heap.size w1) b2))
    have r_E_2 := hid (r_E_1.out.mono EEntry.stable (b_call (Below.refl w1.heap.size w1) b2))
    have r_G_2 := hid (r_G_1.out.mono EStr.stable (b_call (Below.refl w1.heap.size w1) b2))
    have r_a1_2 := hid ra1
    have r_d1_2 := hid rd1
    have r_p1_2 := hid rp1
    clear hq_q_1 hq_k_1 hq_p_1 hb1 r_R_1 r_E_1 r_G_1 ra1 rd1 rp1 b2
    obtain ⟨a5, c5, rfl, -⟩ := id r_a1_2.out
    obtain ⟨a6, c6, rfl, -⟩ := id r_d1_2.out
    obtain ⟨a7, c7, rfl, -⟩ := id r_p1_2.out
    obtain ⟨x_p_0, x_p_1, x_p_2, x_p_3⟩ := box4f hq_p_2.out
    have l_p := heap_lt hq_p_2.out
    have g_p_0 := frozen_heap hq_p_2.out 0
    have g_p_1 := frozen_heap hq_p_2.out 1
    have g_p_2 := frozen_heap hq_p_2.out 2
    have g_p_3 := frozen_heap hq_p_2.out 3
    go_wp2_with fail
    have hp9 := box4_same (u0 := .slice a5 B1.length c5) (u1 := .slice a6 E1.length c6) (u2 := .int .i64 r1) (u3 := .int .i64 t1) hq_p_2.out
    have hb9 := b_box4 hb2.out (q := w.heap.size + 1 + 1) (by omega) (.slice a5 B1.length c5) (.slice a6 E1.length c6) (.int .i64 r1) (.int .i64 t1)
    have hbx := (⟨_, _, _, _, _, _, _, _, hq_p_2.out⟩ : ∃ a n c a' n' c' r t, w2.heap[w.heap.size + 1 + 1]? = some (.cells #[.slice a n c, .slice a' n' c', .int .i64 r, .int .i64 t] 25 (0, 0)))
    have r9 := r_a1_2.out.box4 EBlob.writes hbx a5 B1.length c5 a6 E1.length c6 r1 t1
    have e9 := r_d1_2.out.box4 EEntry.writes hbx a5 B1.length c5 a6 E1.length c6 r1 t1
    have t9 := r_p1_2.out.box4 EStr.writes hbx a5 B1.length c5 a6 E1.length c6 r1 t1
    obtain ⟨m0, m1, m2, m3⟩ := box4f hp9
    unfold World.box4 at m0 m1 m2 m3 hb9 r9 e9 t9
    (try simp only [Exit.inBlock, Exit.then])
    refine bodyPost_ret (by simp [results, Tryz.results34, go_sem, m0, m1, m2, m3]; try rfl) rfl ?_
    exact evK_fin hd.out hx.out hy.out hS.out r9 e9 t9 hb9
  · have ht : (z != 0) = true := by simp [hz]
    have hd := hid (evK_bad (O := O) hz)
    replace hz := hid hz
    clear hop
    go_enter Tryz.func34, Tryz.ntmps34
    go_wp2_with fail
    ((with_reducible refine (hch.out _ (hR.out.mono EBlob.stable (b_alloc (b_alloc (b_alloc (Below.refl w.heap.size w) _) _) _)) (hE.out.mono EEntry.stable (b_alloc (b_alloc (b_alloc (Below.refl w.heap.size w) _) _) _)) (hG.out.mono EStr.stable (b_alloc (b_alloc (b_alloc (Below.refl w.heap.size w) _) _) _))).mono ?_); rintro e1 w1 ⟨rfl, b1⟩)
    have hq_q_1 := hid (stays b1 (hold (hold (heap_put w _ (w.heap.size) (by simp)))))
    have hq_k_1 := hid (stays b1 (hold (heap_put _ _ (w.heap.size + 1) (by simp))))
    have hq_p_1 := hid (stays b1 (heap_put _ _ (w.heap.size + 1 + 1) (by simp)))
    have hb1 := hid (b_call (b_alloc (b_alloc (b_alloc (Below.refl w.heap.size w) _) _) _) b1)
    have r_R_1 := hid (hR.out.mono EBlob.stable (b_call (b_alloc (b_alloc (b_alloc (Below.refl w.heap.size w) _) _) _) b1))
    have r_E_1 := hid (hE.out.mono EEntry.stable (b_call (b_alloc (b_alloc (b_alloc (Below.refl w.heap.size w) _) _) _) b1))
    have r_G_1 := hid (hG.out.mono EStr.stable (b_call (b_alloc (b_alloc (b_alloc (Below.refl w.heap.size w) _) _) _) b1))
    clear b1
    obtain ⟨x_q_0, x_q_1, x_q_2, x_q_3⟩ := box4f hq_q_1.out
    obtain ⟨x_k_0, x_k_1, x_k_2, -⟩ := box3f hq_k_1.out
    obtain ⟨x_p_0, x_p_1, x_p_2, x_p_3⟩ := box4f hq_p_1.out
    have l_p := heap_lt hq_p_1.out
    have g_p_0 := frozen_heap hq_p_1.out 0
    have g_p_1 := frozen_heap hq_p_1.out 1
    have g_p_2 := frozen_heap hq_p_1.out 2
    have g_p_3 := frozen_heap hq_p_1.out 3
    go_wp2_with fail
    have hp9 := box4_same (u0 := .slice none 0 0) (u1 := .slice none 0 0) (u2 := .int .i64 0) (u3 := .int .i64 0) hq_p_1.out
    have hb9 := b_box4 hb1.out (q := w.heap.size + 1 + 1) (by omega) (.slice none 0 0) (.slice none 0 0) (.int .i64 0) (.int .i64 0)
    obtain ⟨m0, m1, m2, m3⟩ := box4f hp9
    unfold World.box4 at m0 m1 m2 m3 hb9
    (try simp only [Exit.inBlock, Exit.then])
    refine bodyPost_ret (by simp [results, Tryz.results34, go_sem, m0, m1, m2, m3]; try rfl) rfl ?_
    exact ev_no hd.out hz.out hb9
theorem barrier_Evict (v u gv : Value) (bs : List Blob) (es : List Entry) (r t ph : Int) (pl : ByteArray) (gy : List ByteArray) (m : Int) (w : World) (h : RBl w v bs) (g : RE w u es) (hg : RT w gv gy) (hpl : pl.size ≤ 140737488351232) (hgl : gy.length ≤ 8388608) :
    Calls Tryz.prog 32 #[.agg #[v, u, .int .i64 r, .int .i64 t], .agg #[.int .i64 ph, gv, .string pl], .int .i64 m] w (EvPost (evKO bs es r t ph gy pl m) r t w) :=
  barrier_Evict' v u gv bs es r t ph pl gy m w h g hg _ _ (fun w h g hg => collect_Check v u gv bs es r t ph pl gy w h g hg hpl hgl) (fun w h g => evict_Run v u bs es r t m w h g)
theorem ref_KeptEvict (v u gv : Value) (bs : List Blob) (es : List Entry) (r t ph : Int) (pl : ByteArray) (gy : List ByteArray) (m : Int) (w : World) (h : RBl w v bs) (g : RE w u es) (hg : RT w gv gy) (hpl : pl.size ≤ 140737488351232) (hgl : gy.length ≤ 8388608) :
    Calls Tryz.prog 34 #[.agg #[v, u, .int .i64 r, .int .i64 t], .agg #[.int .i64 ph, gv, .string pl], .int .i64 m] w (EvPost (evKO bs es r t ph gy pl m) r t w) :=
  ref_KeptEvict' v u gv bs es r t ph pl gy m w h g hg _ _ (fun w h g hg => ref_CollectFault v u gv bs es r t ph pl gy w h g hg hpl hgl) (fun w h g => ref_Evicted v u bs es r t m w h g)

set_option maxRecDepth 100000 in
set_option maxHeartbeats 2000000 in
theorem BarrierHolds_walk' (v u gv : Value) (bs : List Blob) (es : List Entry) (r t ph : Int) (pl : ByteArray) (gy : List ByteArray) (s : ByteArray) (up : Bool) (m : Int) (w : World) (h : RBl w v bs) (g : RE w u es) (hg : RT w gv gy) (hs : s.size ≤ 140737488351232) (hpl : pl.size ≤ 140737488351232) (hgl : gy.length ≤ 8388608) :
    Calls Tryz.prog 9 #[.agg #[v, u, .int .i64 r, .int .i64 t], .agg #[.int .i64 ph, gv, .string pl], .string s, .bool up, .int .i64 m] w fun e w' => e = .returned (.bool true) ∧ Below w.heap.size w w' := by
  have f1 := hid fun w (h : RBl w v bs) (g : RE w u es) (hg : RT w gv gy) => barrier_HoldBlob v u gv bs es r t ph pl gy s up w h g hg hs hpl hgl
  have f2 := hid fun w (h : RBl w v bs) (g : RE w u es) (hg : RT w gv gy) => barrier_Evict v u gv bs es r t ph pl gy m w h g hg hpl hgl
  have f3 := hid fun w (h : RBl w v bs) (g : RE w u es) (hg : RT w gv gy) => ref_KeptHoldBlob v u gv bs es r t ph pl gy s up w h g hg hs hpl hgl
  have f4 := hid fun w (h : RBl w v bs) (g : RE w u es) (hg : RT w gv gy) => ref_KeptEvict v u gv bs es r t ph pl gy m w h g hg hpl hgl
  have hR := hid h
  have hE := hid g
  have hG := hid hg
  obtain ⟨a, c, rfl, -⟩ := h
  obtain ⟨a2, c2, rfl, -⟩ := g
  obtain ⟨ga, gc, rfl, -⟩ := hg
  unfold CoResO VS at f1 f3
  unfold EvPost VS at f2 f4
  generalize hO : holdOut bs es r t ph gy pl s up = S1 at *
  clear hO
  generalize hO : evKO bs es r t ph gy pl m = O at *
  clear hO
  obtain ⟨err, ⟨B1, E1, r1, t1⟩, ⟨p1, G1, s1⟩⟩ := S1
  obtain ⟨z, B0, E0, TL⟩ := O
  simp only at f1 f2 f3 f4
  generalize (if z = 0 then (⟨B0, E0, r, t⟩ : Store) else noStore) = S at *
  obtain ⟨B2, E2, r2, t2⟩ := S
  simp only at f1 f2 f3 f4
  clear hpl hgl hs
  go_enter Tryz.func9, Tryz.ntmps9
  go_wp2_with fail
  ((with_reducible refine (f1.out _ (hR.out.mono EBlob.stable (b_alloc (b_alloc (Below.refl w.heap.size w) _) _)) (hE.out.mono EEntry.stable (b_alloc (b_alloc (Below.refl w.heap.size w) _) _)) (hG.out.mono EStr.stable (b_alloc (b_alloc (Below.refl w.heap.size w) _) _))).mono ?_); rintro e1 w1 ⟨_, _, rfl, ⟨A1, D1, rfl, ra1, rd1⟩, rg1, -, b1⟩)
  have hq_q_1 := hid (stays b1 (hold (heap_put w _ (w.heap.size) (by simp))))
  have hq_k_1 := hid (stays b1 (heap_put _ _ (w.heap.size + 1) (by simp)))
  have hb1 := hid (b_call (b_alloc (b_alloc (Below.refl w.heap.size w) _) _) b1)
  have r_R_1 := hid (hR.out.mono EBlob.stable (b_call (b_alloc (b_alloc (Below.refl w.heap.size w) _) _) b1))
  have r_E_1 := hid (hE.out.mono EEntry.stable (b_call (b_alloc (b_alloc (Below.refl w.heap.size w) _) _) b1))
  have r_G_1 := hid (hG.out.mono EStr.stable (b_call (b_alloc (b_alloc (Below.refl w.heap.size w) _) _) b1))
  have r_a1_1 := hid ra1
  have r_d1_1 := hid rd1
  have r_g1_1 := hid rg1
  clear ra1 rd1 rg1 b1
  obtain ⟨a_1, c_1, rfl, -⟩ := id r_a1_1.out
  obtain ⟨e_1, d_1, rfl, -⟩ := id r_d1_1.out
  obtain ⟨g_1, h_1, rfl, -⟩ := id r_g1_1.out
  obtain ⟨x_q_0, x_q_1, x_q_2, x_q_3⟩ := box4f hq_q_1.out
  have l_q := heap_lt hq_q_1.out
  obtain ⟨x_k_0, x_k_1, x_k_2, -⟩ := box3f hq_k_1.out
  have l_k := heap_lt hq_k_1.out
  go_wp2_with fail
  ((with_reducible refine (f2.out _ (r_R_1.out.mono EBlob.stable (b_alloc (b_alloc (Below.refl w1.heap.size w1) _) _)) (r_E_1.out.mono EEntry.stable (b_alloc (b_alloc (Below.refl w1.heap.size w1) _) _)) (r_G_1.out.mono EStr.stable (b_alloc (b_alloc (Below.refl w1.heap.size w1) _) _))).mono ?_); rintro e2 w2 ⟨_, pv2, rfl, ⟨A2, D2, rfl, ra2, rd2⟩, rp2, b2⟩)
  clear x_q_0 x_q_1 x_q_2 x_q_3 l_q x_k_0 x_k_1 x_k_2 l_k
  have hq_x1_2 := hid (stays b2 (hold (heap_put w1 _ (w1.heap.size) (by simp))))
  have hq_n1_2 := hid (stays b2 (heap_put _ _ (w1.heap.size + 1) (by simp)))
  have hq_q_2 := hid (stays b2 (hold (hold hq_q_1.out)))
  have hq_k_2 := hid (stays b2 (hold (hold hq_k_1.out)))
  have hb2 := hid (b_call (b_alloc (b_alloc hb1.out _) _) b2)
  have r_R_2 := hid (r_R_1.out.mono EBlob.stable (b_call (b_alloc (b_alloc (Below.refl w1.heap.size w1) _) _) b2))
  have r_E_2 := hid (r_E_1.out.mono EEntry.stable (b_call (b_alloc (b_alloc (Below.refl w1.heap.size w1) _) _) b2))
  have r_G_2 := hid (r_G_1.out.mono EStr.stable (b_call (b_alloc (b_alloc (Below.refl w1.heap.size w1) _) _) b2))
  have r_a1_2 := hid (r_a1_1.out.mono EBlob.stable (b_call (b_alloc (b_alloc (Below.refl w1.heap.size w1) _) _) b2))
  have r_d1_2 := hid (r_d1_1.out.mono EEntry.stable (b_call (b_alloc (b_alloc (Below.refl w1.heap.size w1) _) _) b2))
  have r_g1_2 := hid (r_g1_1.out.mono EStr.stable (b_call (b_alloc (b_alloc (Below.refl w1.heap.size w1) _) _) b2))
  have r_a2_2 := hid ra2
  have r_d2_2 := hid rd2
  have r_p2_2 := hid rp2
  clear hq_q_1 hq_k_1 hb1 r_R_1 r_E_1 r_G_1 r_a1_1 r_d1_1 r_g1_1 ra2 rd2 rp2 b2
  obtain ⟨a_2, c_2, rfl, -⟩ := id r_a2_2.out
  obtain ⟨e_2, d_2, rfl, -⟩ := id r_d2_2.out
  obtain ⟨g_2, k_2, rfl, -⟩ := id r_p2_2.out
  obtain ⟨x_q_0, x_q_1, x_q_2, x_q_3⟩ := box4f hq_q_2.out
  have l_q := heap_lt hq_q_2.out
  obtain ⟨x_k_0, x_k_1, x_k_2, -⟩ := box3f hq_k_2.out
  have l_k := heap_lt hq_k_2.out
  go_wp2_with fail
  ((with_reducible refine (f3.out _ (r_R_2.out.mono EBlob.stable (b_alloc (Below.refl w2.heap.size w2) _)) (r_E_2.out.mono EEntry.stable (b_alloc (Below.refl w2.heap.size w2) _)) (r_G_2.out.mono EStr.stable (b_alloc (Below.refl w2.heap.size w2) _))).mono ?_); rintro e3 w3 ⟨_, _, rfl, ⟨A3, D3, rfl, ra3, rd3⟩, rg3, -, b3⟩)
  clear x_q_0 x_q_1 x_q_2 x_q_3 l_q x_k_0 x_k_1 x_k_2 l_k
  have hq_x2_3 := hid (stays b3 (heap_alloc_new w2 _))
  have hq_x1_3 := hid (stays b3 (hold hq_x1_2.out))
  have hq_n1_3 := hid (stays b3 (hold hq_n1_2.out))
  have hq_q_3 := hid (stays b3 (hold hq_q_2.out))
  have hq_k_3 := hid (stays b3 (hold hq_k_2.out))
  have hb3 := hid (b_call (b_alloc hb2.out _) b3)
  have r_R_3 := hid (r_R_2.out.mono EBlob.stable (b_call (b_alloc (Below.refl w2.heap.size w2) _) b3))
  have r_E_3 := hid (r_E_2.out.mono EEntry.stable (b_call (b_alloc (Below.refl w2.heap.size w2) _) b3))
  have r_G_3 := hid (r_G_2.out.mono EStr.stable (b_call (b_alloc (Below.refl w2.heap.size w2) _) b3))
  have r_a1_3 := hid (r_a1_2.out.mono EBlob.stable (b_call (b_alloc (Below.refl w2.heap.size w2) _) b3))
  have r_d1_3 := hid (r_d1_2.out.mono EEntry.stable (b_call (b_alloc (Below.refl w2.heap.size w2) _) b3))
  have r_g1_3 := hid (r_g1_2.out.mono EStr.stable (b_call (b_alloc (Below.refl w2.heap.size w2) _) b3))
  have r_a2_3 := hid (r_a2_2.out.mono EBlob.stable (b_call (b_alloc (Below.refl w2.heap.size w2) _) b3))
  have r_d2_3 := hid (r_d2_2.out.mono EEntry.stable (b_call (b_alloc (Below.refl w2.heap.size w2) _) b3))
  have r_p2_3 := hid (r_p2_2.out.mono EStr.stable (b_call (b_alloc (Below.refl w2.heap.size w2) _) b3))
  have r_a3_3 := hid ra3
  have r_d3_3 := hid rd3
  have r_g3_3 := hid rg3
  clear hq_x1_2 hq_n1_2 hq_q_2 hq_k_2 hb2 r_R_2 r_E_2 r_G_2 r_a1_2 r_d1_2 r_g1_2 r_a2_2 r_d2_2 r_p2_2 ra3 rd3 rg3 b3
  obtain ⟨a_3, c_3, rfl, -⟩ := id r_a3_3.out
  obtain ⟨e_3, d_3, rfl, -⟩ := id r_d3_3.out
  obtain ⟨g_3, h_3, rfl, -⟩ := id r_g3_3.out
  obtain ⟨x_q_0, x_q_1, x_q_2, x_q_3⟩ := box4f hq_q_3.out
  have l_q := heap_lt hq_q_3.out
  obtain ⟨x_k_0, x_k_1, x_k_2, -⟩ := box3f hq_k_3.out
  have l_k := heap_lt hq_k_3.out
  go_wp2_with fail
  ((with_reducible refine (f4.out _ (r_R_3.out.mono EBlob.stable (b_alloc (b_alloc (Below.refl w3.heap.size w3) _) _)) (r_E_3.out.mono EEntry.stable (b_alloc (b_alloc (Below.refl w3.heap.size w3) _) _)) (r_G_3.out.mono EStr.stable (b_alloc (b_alloc (Below.refl w3.heap.size w3) _) _))).mono ?_); rintro e4 w4 ⟨_, pv4, rfl, ⟨A4, D4, rfl, ra4, rd4⟩, rp4, b4⟩)
  clear x_q_0 x_q_1 x_q_2 x_q_3 l_q x_k_0 x_k_1 x_k_2 l_k
  have hq_x3_4 := hid (stays b4 (hold (heap_put w3 _ (w3.heap.size) (by simp))))
  have hq_n3_4 := hid (stays b4 (heap_put _ _ (w3.heap.size + 1) (by simp)))
  have hq_x2_4 := hid (stays b4 (hold (hold hq_x2_3.out)))
  have hq_x1_4 := hid (stays b4 (hold (hold hq_x1_3.out)))
  have hq_n1_4 := hid (stays b4 (hold (hold hq_n1_3.out)))
  have hq_q_4 := hid (stays b4 (hold (hold hq_q_3.out)))
  have hq_k_4 := hid (stays b4 (hold (hold hq_k_3.out)))
  have hb4 := hid (b_call (b_alloc (b_alloc hb3.out _) _) b4)
  have r_R_4 := hid (r_R_3.out.mono EBlob.stable (b_call (b_alloc (b_alloc (Below.refl w3.heap.size w3) _) _) b4))
  have r_E_4 := hid (r_E_3.out.mono EEntry.stable (b_call (b_alloc (b_alloc (Below.refl w3.heap.size w3) _) _) b4))
  have r_G_4 := hid (r_G_3.out.mono EStr.stable (b_call (b_alloc (b_alloc (Below.refl w3.heap.size w3) _) _) b4))
  have r_a1_4 := hid (r_a1_3.out.mono EBlob.stable (b_call (b_alloc (b_alloc (Below.refl w3.heap.size w3) _) _) b4))
  have r_d1_4 := hid (r_d1_3.out.mono EEntry.stable (b_call (b_alloc (b_alloc (Below.refl w3.heap.size w3) _) _) b4))
  have r_g1_4 := hid (r_g1_3.out.mono EStr.stable (b_call (b_alloc (b_alloc (Below.refl w3.heap.size w3) _) _) b4))
  have r_a2_4 := hid (r_a2_3.out.mono EBlob.stable (b_call (b_alloc (b_alloc (Below.refl w3.heap.size w3) _) _) b4))
  have r_d2_4 := hid (r_d2_3.out.mono EEntry.stable (b_call (b_alloc (b_alloc (Below.refl w3.heap.size w3) _) _) b4))
  have r_p2_4 := hid (r_p2_3.out.mono EStr.stable (b_call (b_alloc (b_alloc (Below.refl w3.heap.size w3) _) _) b4))
  have r_a3_4 := hid (r_a3_3.out.mono EBlob.stable (b_call (b_alloc (b_alloc (Below.refl w3.heap.size w3) _) _) b4))
  have r_d3_4 := hid (r_d3_3.out.mono EEntry.stable (b_call (b_alloc (b_alloc (Below.refl w3.heap.size w3) _) _) b4))
  have r_g3_4 := hid (r_g3_3.out.mono EStr.stable (b_call (b_alloc (b_alloc (Below.refl w3.heap.size w3) _) _) b4))
  have r_a4_4 := hid ra4
  have r_d4_4 := hid rd4
  have r_p4_4 := hid rp4
  clear hq_x2_3 hq_x1_3 hq_n1_3 hq_q_3 hq_k_3 hb3 r_R_3 r_E_3 r_G_3 r_a1_3 r_d1_3 r_g1_3 r_a2_3 r_d2_3 r_p2_3 r_a3_3 r_d3_3 r_g3_3 ra4 rd4 rp4 b4
  obtain ⟨a_4, c_4, rfl, -⟩ := id r_a4_4.out
  obtain ⟨e_4, d_4, rfl, -⟩ := id r_d4_4.out
  obtain ⟨g_4, k_4, rfl, -⟩ := id r_p4_4.out
  obtain ⟨x_x1_0, x_x1_1, x_x1_2, x_x1_3⟩ := box4f hq_x1_4.out
  have l_x1 := heap_lt hq_x1_4.out
  obtain ⟨x_x3_0, x_x3_1, x_x3_2, x_x3_3⟩ := box4f hq_x3_4.out
  have l_x3 := heap_lt hq_x3_4.out
  go_wp2_with fail
  ((with_reducible refine (law_sameStore_yes _ _ _ _ B1 E1 r1 t1 _ (r_a1_4.out.mono EBlob.stable (b_alloc (Below.refl w4.heap.size w4) _)) (r_d1_4.out.mono EEntry.stable (b_alloc (Below.refl w4.heap.size w4) _)) (r_a3_4.out.mono EBlob.stable (b_alloc (Below.refl w4.heap.size w4) _)) (r_d3_4.out.mono EEntry.stable (b_alloc (Below.refl w4.heap.size w4) _))).mono ?_); rintro e5 w5 ⟨rfl, b5⟩)
  clear x_x1_0 x_x1_1 x_x1_2 x_x1_3 l_x1 x_x3_0 x_x3_1 x_x3_2 x_x3_3 l_x3
  have hq_x4_5 := hid (stays b5 (heap_alloc_new w4 _))
  have hq_x3_5 := hid (stays b5 (hold hq_x3_4.out))
  have hq_n3_5 := hid (stays b5 (hold hq_n3_4.out))
  have hq_x2_5 := hid (stays b5 (hold hq_x2_4.out))
  have hq_x1_5 := hid (stays b5 (hold hq_x1_4.out))
  have hq_n1_5 := hid (stays b5 (hold hq_n1_4.out))
  have hq_q_5 := hid (stays b5 (hold hq_q_4.out))
  have hq_k_5 := hid (stays b5 (hold hq_k_4.out))
  have hb5 := hid (b_call (b_alloc hb4.out _) b5)
  have r_R_5 := hid (r_R_4.out.mono EBlob.stable (b_call (b_alloc (Below.refl w4.heap.size w4) _) b5))
  have r_E_5 := hid (r_E_4.out.mono EEntry.stable (b_call (b_alloc (Below.refl w4.heap.size w4) _) b5))
  have r_G_5 := hid (r_G_4.out.mono EStr.stable (b_call (b_alloc (Below.refl w4.heap.size w4) _) b5))
  have r_a1_5 := hid (r_a1_4.out.mono EBlob.stable (b_call (b_alloc (Below.refl w4.heap.size w4) _) b5))
  have r_d1_5 := hid (r_d1_4.out.mono EEntry.stable (b_call (b_alloc (Below.refl w4.heap.size w4) _) b5))
  have r_g1_5 := hid (r_g1_4.out.mono EStr.stable (b_call (b_alloc (Below.refl w4.heap.size w4) _) b5))
  have r_a2_5 := hid (r_a2_4.out.mono EBlob.stable (b_call (b_alloc (Below.refl w4.heap.size w4) _) b5))
  have r_d2_5 := hid (r_d2_4.out.mono EEntry.stable (b_call (b_alloc (Below.refl w4.heap.size w4) _) b5))
  have r_p2_5 := hid (r_p2_4.out.mono EStr.stable (b_call (b_alloc (Below.refl w4.heap.size w4) _) b5))
  have r_a3_5 := hid (r_a3_4.out.mono EBlob.stable (b_call (b_alloc (Below.refl w4.heap.size w4) _) b5))
  have r_d3_5 := hid (r_d3_4.out.mono EEntry.stable (b_call (b_alloc (Below.refl w4.heap.size w4) _) b5))
  have r_g3_5 := hid (r_g3_4.out.mono EStr.stable (b_call (b_alloc (Below.refl w4.heap.size w4) _) b5))
  have r_a4_5 := hid (r_a4_4.out.mono EBlob.stable (b_call (b_alloc (Below.refl w4.heap.size w4) _) b5))
  have r_d4_5 := hid (r_d4_4.out.mono EEntry.stable (b_call (b_alloc (Below.refl w4.heap.size w4) _) b5))
  have r_p4_5 := hid (r_p4_4.out.mono EStr.stable (b_call (b_alloc (Below.refl w4.heap.size w4) _) b5))
  clear hq_x3_4 hq_n3_4 hq_x2_4 hq_x1_4 hq_n1_4 hq_q_4 hq_k_4 hb4 r_R_4 r_E_4 r_G_4 r_a1_4 r_d1_4 r_g1_4 r_a2_4 r_d2_4 r_p2_4 r_a3_4 r_d3_4 r_g3_4 r_a4_4 r_d4_4 r_p4_4 b5
  obtain ⟨x_n1_0, x_n1_1, x_n1_2, -⟩ := box3f hq_n1_5.out
  obtain ⟨x_n3_0, x_n3_1, x_n3_2, -⟩ := box3f hq_n3_5.out
  go_wp2_with fail
  ((with_reducible refine (law_sameCollector_yes p1 _ _ s1 _ G1 r_g1_5.out r_g3_5.out).mono ?_); rintro e6 w6 ⟨rfl, b6⟩)
  clear x_n1_0 x_n1_1 x_n1_2 x_n3_0 x_n3_1 x_n3_2
  have hq_x4_6 := hid (stays b6 hq_x4_5.out)
  have hq_x3_6 := hid (stays b6 hq_x3_5.out)
  have hq_n3_6 := hid (stays b6 hq_n3_5.out)
  have hq_x2_6 := hid (stays b6 hq_x2_5.out)
  have hq_x1_6 := hid (stays b6 hq_x1_5.out)
  have hq_n1_6 := hid (stays b6 hq_n1_5.out)
  have hq_q_6 := hid (stays b6 hq_q_5.out)
  have hq_k_6 := hid (stays b6 hq_k_5.out)
  have hb6 := hid (b_call hb5.out b6)
  have r_R_6 := hid (r_R_5.out.mono EBlob.stable (b_call (Below.refl w5.heap.size w5) b6))
  have r_E_6 := hid (r_E_5.out.mono EEntry.stable (b_call (Below.refl w5.heap.size w5) b6))
  have r_G_6 := hid (r_G_5.out.mono EStr.stable (b_call (Below.refl w5.heap.size w5) b6))
  have r_a1_6 := hid (r_a1_5.out.mono EBlob.stable (b_call (Below.refl w5.heap.size w5) b6))
  have r_d1_6 := hid (r_d1_5.out.mono EEntry.stable (b_call (Below.refl w5.heap.size w5) b6))
  have r_g1_6 := hid (r_g1_5.out.mono EStr.stable (b_call (Below.refl w5.heap.size w5) b6))
  have r_a2_6 := hid (r_a2_5.out.mono EBlob.stable (b_call (Below.refl w5.heap.size w5) b6))
  have r_d2_6 := hid (r_d2_5.out.mono EEntry.stable (b_call (Below.refl w5.heap.size w5) b6))
  have r_p2_6 := hid (r_p2_5.out.mono EStr.stable (b_call (Below.refl w5.heap.size w5) b6))
  have r_a3_6 := hid (r_a3_5.out.mono EBlob.stable (b_call (Below.refl w5.heap.size w5) b6))
  have r_d3_6 := hid (r_d3_5.out.mono EEntry.stable (b_call (Below.refl w5.heap.size w5) b6))
  have r_g3_6 := hid (r_g3_5.out.mono EStr.stable (b_call (Below.refl w5.heap.size w5) b6))
  have r_a4_6 := hid (r_a4_5.out.mono EBlob.stable (b_call (Below.refl w5.heap.size w5) b6))
  have r_d4_6 := hid (r_d4_5.out.mono EEntry.stable (b_call (Below.refl w5.heap.size w5) b6))
  have r_p4_6 := hid (r_p4_5.out.mono EStr.stable (b_call (Below.refl w5.heap.size w5) b6))
  clear hq_x4_5 hq_x3_5 hq_n3_5 hq_x2_5 hq_x1_5 hq_n1_5 hq_q_5 hq_k_5 hb5 r_R_5 r_E_5 r_G_5 r_a1_5 r_d1_5 r_g1_5 r_a2_5 r_d2_5 r_p2_5 r_a3_5 r_d3_5 r_g3_5 r_a4_5 r_d4_5 r_p4_5 b6
  obtain ⟨x_x2_0, x_x2_1, x_x2_2, x_x2_3⟩ := box4f hq_x2_6.out
  obtain ⟨x_x4_0, x_x4_1, x_x4_2, x_x4_3⟩ := box4f hq_x4_6.out
  have q1 : (err == err) = true := by simp
  go_wp2_with fail
  ((with_reducible refine (law_sameStore_yes _ _ _ _ B2 E2 r2 t2 _ r_a2_6.out r_d2_6.out r_a4_6.out r_d4_6.out).mono ?_); rintro e7 w7 ⟨rfl, b7⟩)
  clear x_x2_0 x_x2_1 x_x2_2 x_x2_3 x_x4_0 x_x4_1 x_x4_2 x_x4_3
  have hq_x4_7 := hid (stays b7 hq_x4_6.out)
  have hq_x3_7 := hid (stays b7 hq_x3_6.out)
  have hq_n3_7 := hid (stays b7 hq_n3_6.out)
  have hq_x2_7 := hid (stays b7 hq_x2_6.out)
  have hq_x1_7 := hid (stays b7 hq_x1_6.out)
  have hq_n1_7 := hid (stays b7 hq_n1_6.out)
  have hq_q_7 := hid (stays b7 hq_q_6.out)
  have hq_k_7 := hid (stays b7 hq_k_6.out)
  have hb7 := hid (b_call hb6.out b7)
  have r_R_7 := hid (r_R_6.out.mono EBlob.stable (b_call (Below.refl w6.heap.size w6) b7))
  have r_E_7 := hid (r_E_6.out.mono EEntry.stable (b_call (Below.refl w6.heap.size w6) b7))
  have r_G_7 := hid (r_G_6.out.mono EStr.stable (b_call (Below.refl w6.heap.size w6) b7))
  have r_a1_7 := hid (r_a1_6.out.mono EBlob.stable (b_call (Below.refl w6.heap.size w6) b7))
  have r_d1_7 := hid (r_d1_6.out.mono EEntry.stable (b_call (Below.refl w6.heap.size w6) b7))
  have r_g1_7 := hid (r_g1_6.out.mono EStr.stable (b_call (Below.refl w6.heap.size w6) b7))
  have r_a2_7 := hid (r_a2_6.out.mono EBlob.stable (b_call (Below.refl w6.heap.size w6) b7))
  have r_d2_7 := hid (r_d2_6.out.mono EEntry.stable (b_call (Below.refl w6.heap.size w6) b7))
  have r_p2_7 := hid (r_p2_6.out.mono EStr.stable (b_call (Below.refl w6.heap.size w6) b7))
  have r_a3_7 := hid (r_a3_6.out.mono EBlob.stable (b_call (Below.refl w6.heap.size w6) b7))
  have r_d3_7 := hid (r_d3_6.out.mono EEntry.stable (b_call (Below.refl w6.heap.size w6) b7))
  have r_g3_7 := hid (r_g3_6.out.mono EStr.stable (b_call (Below.refl w6.heap.size w6) b7))
  have r_a4_7 := hid (r_a4_6.out.mono EBlob.stable (b_call (Below.refl w6.heap.size w6) b7))
  have r_d4_7 := hid (r_d4_6.out.mono EEntry.stable (b_call (Below.refl w6.heap.size w6) b7))
  have r_p4_7 := hid (r_p4_6.out.mono EStr.stable (b_call (Below.refl w6.heap.size w6) b7))
  clear hq_x4_6 hq_x3_6 hq_n3_6 hq_x2_6 hq_x1_6 hq_n1_6 hq_q_6 hq_k_6 hb6 r_R_6 r_E_6 r_G_6 r_a1_6 r_d1_6 r_g1_6 r_a2_6 r_d2_6 r_p2_6 r_a3_6 r_d3_6 r_g3_6 r_a4_6 r_d4_6 r_p4_6 b7
  go_wp2_with fail
  ((with_reducible refine (law_sameTexts_yes _ _ _ TL r_p2_7.out r_p4_7.out).mono ?_); rintro e8 w8 ⟨rfl, b8⟩)
  have hq_x4_8 := hid (stays b8 hq_x4_7.out)
  have hq_x3_8 := hid (stays b8 hq_x3_7.out)
  have hq_n3_8 := hid (stays b8 hq_n3_7.out)
  have hq_x2_8 := hid (stays b8 hq_x2_7.out)
  have hq_x1_8 := hid (stays b8 hq_x1_7.out)
  have hq_n1_8 := hid (stays b8 hq_n1_7.out)
  have hq_q_8 := hid (stays b8 hq_q_7.out)
  have hq_k_8 := hid (stays b8 hq_k_7.out)
  have hb8 := hid (b_call hb7.out b8)
  have r_R_8 := hid (r_R_7.out.mono EBlob.stable (b_call (Below.refl w7.heap.size w7) b8))
  have r_E_8 := hid (r_E_7.out.mono EEntry.stable (b_call (Below.refl w7.heap.size w7) b8))
  have r_G_8 := hid (r_G_7.out.mono EStr.stable (b_call (Below.refl w7.heap.size w7) b8))
  have r_a1_8 := hid (r_a1_7.out.mono EBlob.stable (b_call (Below.refl w7.heap.size w7) b8))
  have r_d1_8 := hid (r_d1_7.out.mono EEntry.stable (b_call (Below.refl w7.heap.size w7) b8))
  have r_g1_8 := hid (r_g1_7.out.mono EStr.stable (b_call (Below.refl w7.heap.size w7) b8))
  have r_a2_8 := hid (r_a2_7.out.mono EBlob.stable (b_call (Below.refl w7.heap.size w7) b8))
  have r_d2_8 := hid (r_d2_7.out.mono EEntry.stable (b_call (Below.refl w7.heap.size w7) b8))
  have r_p2_8 := hid (r_p2_7.out.mono EStr.stable (b_call (Below.refl w7.heap.size w7) b8))
  have r_a3_8 := hid (r_a3_7.out.mono EBlob.stable (b_call (Below.refl w7.heap.size w7) b8))
  have r_d3_8 := hid (r_d3_7.out.mono EEntry.stable (b_call (Below.refl w7.heap.size w7) b8))
  have r_g3_8 := hid (r_g3_7.out.mono EStr.stable (b_call (Below.refl w7.heap.size w7) b8))
  have r_a4_8 := hid (r_a4_7.out.mono EBlob.stable (b_call (Below.refl w7.heap.size w7) b8))
  have r_d4_8 := hid (r_d4_7.out.mono EEntry.stable (b_call (Below.refl w7.heap.size w7) b8))
  have r_p4_8 := hid (r_p4_7.out.mono EStr.stable (b_call (Below.refl w7.heap.size w7) b8))
  clear hq_x4_7 hq_x3_7 hq_n3_7 hq_x2_7 hq_x1_7 hq_n1_7 hq_q_7 hq_k_7 hb7 r_R_7 r_E_7 r_G_7 r_a1_7 r_d1_7 r_g1_7 r_a2_7 r_d2_7 r_p2_7 r_a3_7 r_d3_7 r_g3_7 r_a4_7 r_d4_7 r_p4_7 b8
  have q2 : (z == z) = true := by simp
  go_wp2_with fail
  go_ret
  exact ⟨rfl, hb8.out⟩
theorem BarrierHolds_walk (w : World) (cs : Array Value) (x : Store) (ds : Array Value) (y : Coll) (s : ByteArray) (up : Bool) (m : Int) (hx : VStore w cs.toList x) (hy : VColl w ds.toList y) (hs : s.size ≤ 140737488351232) (_ : (Lit.int .i64 m).wf = true) (hgl : y.grey.length ≤ 4194304) :
    Calls Tryz.prog 9 #[.agg cs, .agg ds, .string s, .bool up, .int .i64 m] w fun e w' => e = .returned (.bool true) ∧ Below w.heap.size w w' := by
  obtain ⟨bv, ev, hc, hp, he, -⟩ := hx
  obtain rfl : cs = #[bv, ev, .int .i64 x.room, .int .i64 x.clock] := by
    cases cs
    simp only at hc
    rw [hc]
  obtain ⟨gv, hd, hg, hpl, -⟩ := hy
  obtain rfl : ds = #[.int .i64 y.phase, gv, .string y.place] := by
    cases ds
    simp only at hd
    rw [hd]
  exact BarrierHolds_walk' bv ev gv x.blobs x.entries x.room x.clock y.phase y.place y.grey s up m w hp he hg hs hpl (by omega)
end Go.Proofs.YtkbijjglodnfbaaGreat
