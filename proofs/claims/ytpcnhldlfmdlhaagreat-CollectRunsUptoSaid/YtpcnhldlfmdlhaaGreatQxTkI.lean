/-
  collect.Tick and the reference's CollectTick: what they answer. Printed by gen_tick.py.
-/
import Derived.Test.YtpcnhldlfmdlhaaGreatQxBrL
import Derived.Test.YtpcnhldlfmdlhaaGreatQxChn
import Derived.Test.YtpcnhldlfmdlhaaGreatQxMsL
import Derived.Test.YtpcnhldlfmdlhaaGreatQxSwb
namespace Go.Proofs.YtpcnhldlfmdlhaaGreat
open Go.RowKit

/-- One step of a collector: c is wrong with what is given; M, S are what marking and sweeping answer. -/
def tickC (c ph : Int) (M : CoOut) (S : SwOut) : CoOut := if c ≠ 0 then ⟨c, noStore, noColl⟩ else if ph = 1 then M else if ph = 2 then ⟨S.err, S.store, ⟨S.phase, [], S.place⟩⟩ else ⟨11, noStore, noColl⟩
def tickD (c ph : Int) (S : SwOut) : ByteArray := if c ≠ 0 then ⟨#[]⟩ else if ph = 2 then S.gone else ⟨#[]⟩
section
variable {c ph : Int} {M : CoOut} {S : SwOut}
theorem tick_bad (h : c ≠ 0) : tickC c ph M S = ⟨c, noStore, noColl⟩ ∧ tickD c ph S = ⟨#[]⟩ := ⟨if_pos h, if_pos h⟩
theorem tick_1 : tickC 0 1 M S = M ∧ tickD 0 1 S = ⟨#[]⟩ := ⟨by unfold tickC; rw [if_neg (by simp), if_pos rfl], by unfold tickD; rw [if_neg (by simp), if_neg (by decide)]⟩
theorem tick_2 : tickC 0 2 M S = ⟨S.err, S.store, ⟨S.phase, [], S.place⟩⟩ ∧ tickD 0 2 S = S.gone := ⟨by unfold tickC; rw [if_neg (by simp), if_neg (by decide), if_pos rfl], by unfold tickD; rw [if_neg (by simp), if_pos rfl]⟩
theorem tick_0 (h1 : ph ≠ 1) (h2 : ph ≠ 2) : tickC 0 ph M S = ⟨11, noStore, noColl⟩ ∧ tickD 0 ph S = ⟨#[]⟩ := ⟨by unfold tickC; rw [if_neg (by simp), if_neg h1, if_neg h2], by unfold tickD; rw [if_neg (by simp), if_neg h2]⟩
end
theorem coD_any {o : CoOut} {k n : Int} {s d d' : ByteArray} {G : List ByteArray} {bs : List Blob} {es : List Entry} {r t : Int} {v1 v2 gv : Value} {w w' : World} (h : o = ⟨n, ⟨bs, es, r, t⟩, ⟨k, G, s⟩⟩ ∧ d' = d) (h1 : RBl w' v1 bs) (h2 : RE w' v2 es) (h3 : RT w' gv G) (h4 : OS 9 1 cStr w' w.heap.size gv G) (hb : Below w.heap.size w w') :
    CoResD o d' w (.returned (.tuple #[.agg #[v1, v2, .int .i64 r, .int .i64 t], .agg #[.int .i64 k, gv, .string s], .string d, .int .i64 n])) w' := by
  obtain ⟨rfl, rfl⟩ := h
  exact ⟨_, _, rfl, ⟨v1, v2, rfl, h1, h2⟩, h3, h4, hb⟩

set_option maxRecDepth 100000 in
set_option maxHeartbeats 4000000 in
theorem collect_Tick' (v u gv : Value) (bs : List Blob) (es : List Entry) (r t ph : Int) (pl : ByteArray) (gy : List ByteArray) (w : World) (h : RBl w v bs) (g : RE w u es) (hg : RT w gv gy) (z : Int) (M : CoOut) (S : SwOut)
    (hch : ∀ w, RBl w v bs → RE w u es → RT w gv gy → Calls Tryz.prog 50 #[.agg #[v, u, .int .i64 r, .int .i64 t], .agg #[.int .i64 ph, gv, .string pl]] w fun e w' => e = .returned (.int .i64 z) ∧ Below w.heap.size w w')
    (hms : ph = 1 → ∀ w, RBl w v bs → RE w u es → RT w gv gy → Calls Tryz.prog 117 #[.agg #[v, u, .int .i64 r, .int .i64 t], .agg #[.int .i64 ph, gv, .string pl]] w (CoResO M w))
    (hsw : ph = 2 → ∀ w, RBl w v bs → RE w u es → Calls Tryz.prog 118 #[.agg #[v, u, .int .i64 r, .int .i64 t], .agg #[.int .i64 ph, gv, .string pl]] w (SwRes S w)) :
    Calls Tryz.prog 52 #[.agg #[v, u, .int .i64 r, .int .i64 t], .agg #[.int .i64 ph, gv, .string pl]] w (CoResD (tickC z ph M S) (tickD z ph S) w) := by
  replace hch := hid hch
  have hR := hid h
  have hE := hid g
  have hG := hid hg
  obtain ⟨a, c, rfl, -⟩ := h
  obtain ⟨a2, c2, rfl, -⟩ := g
  obtain ⟨ga, gc, rfl, -⟩ := hg
  unfold CoResO VS at hms
  unfold SwRes VS at hsw
  by_cases hz : z = 0
  · subst hz
    by_cases h1 : ph = 1
    · subst h1
      replace hms := hid (hms rfl)
      have hd := hid (tick_1 (M := M) (S := S))
      clear hsw
      obtain ⟨er, ⟨B1, E1, r1, t1⟩, ⟨p1, G1, s1⟩⟩ := M
      simp only at hms
      generalize tickC 0 1 _ S = o9 at *
      generalize tickD 0 1 S = d9 at *
      go_enter Tryz.func52, Tryz.ntmps52
      go_wp2_with fail
      ((with_reducible refine (hch.out _ (hR.out.mono EBlob.stable (b_alloc (b_alloc (b_alloc (b_alloc (Below.refl w.heap.size w) _) _) _) _)) (hE.out.mono EEntry.stable (b_alloc (b_alloc (b_alloc (b_alloc (Below.refl w.heap.size w) _) _) _) _)) (hG.out.mono EStr.stable (b_alloc (b_alloc (b_alloc (b_alloc (Below.refl w.heap.size w) _) _) _) _))).mono ?_); rintro e1 w1 ⟨rfl, b1⟩)
      have hq_q_1 := hid (stays b1 (hold (hold (hold (heap_put w _ (w.heap.size) (by simp))))))
      have hq_k_1 := hid (stays b1 (hold (hold (heap_put _ _ (w.heap.size + 1) (by simp)))))
      have hq_p_1 := hid (stays b1 (hold (heap_put _ _ (w.heap.size + 1 + 1) (by simp))))
      have hq_d_1 := hid (stays b1 (heap_put _ _ (w.heap.size + 1 + 1 + 1) (by simp)))
      have hb1 := hid (b_call (b_alloc (b_alloc (b_alloc (b_alloc (Below.refl w.heap.size w) _) _) _) _) b1)
      have r_R_1 := hid (hR.out.mono EBlob.stable (b_call (b_alloc (b_alloc (b_alloc (b_alloc (Below.refl w.heap.size w) _) _) _) _) b1))
      have r_E_1 := hid (hE.out.mono EEntry.stable (b_call (b_alloc (b_alloc (b_alloc (b_alloc (Below.refl w.heap.size w) _) _) _) _) b1))
      have r_G_1 := hid (hG.out.mono EStr.stable (b_call (b_alloc (b_alloc (b_alloc (b_alloc (Below.refl w.heap.size w) _) _) _) _) b1))
      clear b1
      obtain ⟨x_q_0, x_q_1, x_q_2, x_q_3⟩ := box4f hq_q_1.out
      obtain ⟨x_k_0, x_k_1, x_k_2, -⟩ := box3f hq_k_1.out
      go_wp2_with fail
      ((with_reducible refine (hms.out _ r_R_1.out r_E_1.out r_G_1.out).mono ?_); rintro e2 w2 ⟨_, g1, rfl, ⟨A1, D1, rfl, rA, rD⟩, rg, og, b2⟩)
      clear x_q_0 x_q_1 x_q_2 x_q_3 x_k_0 x_k_1 x_k_2
      have hq_q_2 := hid (stays b2 hq_q_1.out)
      have hq_k_2 := hid (stays b2 hq_k_1.out)
      have hq_p_2 := hid (stays b2 hq_p_1.out)
      have hq_d_2 := hid (stays b2 hq_d_1.out)
      have hb2 := hid (b_call hb1.out b2)
      have r_R_2 := hid (r_R_1.out.mono EBlob.stable (b_call (Below.refl w1.heap.size w1) b2))
      have r_E_2 := hid (r_E_1.out.mono EEntry.stable (b_call (Below.refl w1.heap.size w1) b2))
      have r_G_2 := hid (r_G_1.out.mono EStr.stable (b_call (Below.refl w1.heap.size w1) b2))
      have r_A_2 := hid rA
      have r_X_2 := hid rD
      have r_N_2 := hid rg
      replace og := hid (OS.mono og hb1.out.size)
      clear hq_q_1 hq_k_1 hq_p_1 hq_d_1 hb1 r_R_1 r_E_1 r_G_1 rA rD rg b2
      obtain ⟨a5, c5, rfl, -⟩ := id r_A_2.out
      obtain ⟨a6, c6, rfl, -⟩ := id r_X_2.out
      obtain ⟨a7, c7, rfl, -⟩ := id r_N_2.out
      have bnd := hid (rt_bound r_N_2.out)
      have szs := hid (rt_sizes r_N_2.out)
      have hs2 : w.heap.size + 4 ≤ w2.heap.size := by have := heap_lt hq_d_2.out; omega
      obtain ⟨x_q_0, x_q_1, x_q_2, x_q_3⟩ := box4f hq_q_2.out
      have l_q := heap_lt hq_q_2.out
      obtain ⟨x_k_0, x_k_1, x_k_2, -⟩ := box3f hq_k_2.out
      have l_k := heap_lt hq_k_2.out
      go_upto_region 7 with fail
      have hx3 := hid (alloc_keep (o := Obj.cells #[.int .i64 p1, .slice a7 G1.length c7, .string s1] 32) (heap_alloc_new w2 (Obj.cells #[.slice a5 B1.length c5, .slice a6 E1.length c6, .int .i64 r1, .int .i64 t1] 29)))
      have hn3 := hid (heap_put (w2.alloc (Obj.cells #[.slice a5 B1.length c5, .slice a6 E1.length c6, .int .i64 r1, .int .i64 t1] 29)) (Obj.cells #[.int .i64 p1, .slice a7 G1.length c7, .string s1] 32) (w2.heap.size + 1) (by simp))
      have hp3 := hid (alloc_keep (o := Obj.cells #[.int .i64 p1, .slice a7 G1.length c7, .string s1] 32) (alloc_keep (o := Obj.cells #[.slice a5 B1.length c5, .slice a6 E1.length c6, .int .i64 r1, .int .i64 t1] 29) hq_p_2.out))
      have hd3 := hid (alloc_keep (o := Obj.cells #[.int .i64 p1, .slice a7 G1.length c7, .string s1] 32) (alloc_keep (o := Obj.cells #[.slice a5 B1.length c5, .slice a6 E1.length c6, .int .i64 r1, .int .i64 t1] 29) hq_d_2.out))
      have hb3 := hid (b_alloc (b_alloc hb2.out (Obj.cells #[.slice a5 B1.length c5, .slice a6 E1.length c6, .int .i64 r1, .int .i64 t1] 29)) (Obj.cells #[.int .i64 p1, .slice a7 G1.length c7, .string s1] 32))
      have rb3 := hid (RS.al EBlob.stable (RS.al EBlob.stable r_A_2.out (Obj.cells #[.slice a5 B1.length c5, .slice a6 E1.length c6, .int .i64 r1, .int .i64 t1] 29)) (Obj.cells #[.int .i64 p1, .slice a7 G1.length c7, .string s1] 32))
      have re3 := hid (RS.al EEntry.stable (RS.al EEntry.stable r_X_2.out (Obj.cells #[.slice a5 B1.length c5, .slice a6 E1.length c6, .int .i64 r1, .int .i64 t1] 29)) (Obj.cells #[.int .i64 p1, .slice a7 G1.length c7, .string s1] 32))
      have og3 := hid (OS.alloc (OS.alloc og.out (Obj.cells #[.slice a5 B1.length c5, .slice a6 E1.length c6, .int .i64 r1, .int .i64 t1] 29)) (Obj.cells #[.int .i64 p1, .slice a7 G1.length c7, .string s1] 32))
      generalize (w2.alloc (Obj.cells #[.slice a5 B1.length c5, .slice a6 E1.length c6, .int .i64 r1, .int .i64 t1] 29)).alloc (Obj.cells #[.int .i64 p1, .slice a7 G1.length c7, .string s1] 32) = w3 at *
      clear x_q_0 x_q_1 x_q_2 x_q_3 l_q x_k_0 x_k_1 x_k_2 l_k
      obtain ⟨x0, x1, x2, x3⟩ := box4f hx3.out
      obtain ⟨e0, e1', e2, -⟩ := box3f hn3.out
      have hnS := hx3.out
      have hnC := hn3.out
      have ne1 : w2.heap.size ≠ w.heap.size + 1 + 1 := by omega
      have ne2 : w2.heap.size ≠ w.heap.size + 1 + 1 + 1 := by omega
      have ne3 : w2.heap.size + 1 ≠ w.heap.size + 1 + 1 := by omega
      have ne4 : w2.heap.size + 1 ≠ w.heap.size + 1 + 1 + 1 := by omega
      obtain ⟨y0, y1, y2, y3⟩ := box4f hp3.out
      obtain ⟨z0, z1, z2, -⟩ := box3f hd3.out
      have g0 := frozen_heap hp3.out 0
      have g1 := frozen_heap hp3.out 1
      have g2 := frozen_heap hp3.out 2
      have g3 := frozen_heap hp3.out 3
      have kf0 := frozen_heap hd3.out 0
      have kf1 := frozen_heap hd3.out 1
      have kf2 := frozen_heap hd3.out 2
      have hS := box4f hnS
      have hC := box3f hnC
      go_wp2_with fail
      go_region_held3 (fun w' => w'.cell? ⟨w2.heap.size, 0, none⟩ = some (.slice a5 B1.length c5) ∧ w'.cell? ⟨w2.heap.size, 1, none⟩ = some (.slice a6 E1.length c6) ∧ w'.cell? ⟨w2.heap.size, 2, none⟩ = some (.int .i64 r1) ∧ w'.cell? ⟨w2.heap.size, 3, none⟩ = some (.int .i64 t1) ∧ w'.cell? ⟨w2.heap.size + 1, 0, none⟩ = some (.int .i64 p1) ∧ w'.cell? ⟨w2.heap.size + 1, 1, none⟩ = some (.slice a7 G1.length c7) ∧ w'.cell? ⟨w2.heap.size + 1, 2, none⟩ = some (.string s1))
        (first
          | with_reducible exact ⟨hS.1, hS.2.1, hS.2.2.1, hS.2.2.2, hC.1, hC.2.1, hC.2.2.1⟩
          | (have h1 := box4f (heap_drewn (box4_other (q := w.heap.size + 1 + 1) (u0 := .slice a5 B1.length c5) (u1 := .slice a6 E1.length c6) (u2 := .int .i64 r1) (u3 := .int .i64 t1) hnS ne1))
             have h2 := box3f (heap_drewn (box4_other (q := w.heap.size + 1 + 1) (u0 := .slice a5 B1.length c5) (u1 := .slice a6 E1.length c6) (u2 := .int .i64 r1) (u3 := .int .i64 t1) hnC ne3))
             unfold World.box4 at h1 h2
             (try unfold World.box3 at h1 h2)
             with_reducible exact ⟨h1.1, h1.2.1, h1.2.2.1, h1.2.2.2, h2.1, h2.2.1, h2.2.2.1⟩)
          | (have h1 := box4f (heap_drewn (box3_other (q := w.heap.size + 1 + 1 + 1) (u0 := .int .i64 p1) (u1 := .slice a7 G1.length c7) (u2 := .string s1) (box4_other (q := w.heap.size + 1 + 1) (u0 := .slice a5 B1.length c5) (u1 := .slice a6 E1.length c6) (u2 := .int .i64 r1) (u3 := .int .i64 t1) hnS ne1) ne2))
             have h2 := box3f (heap_drewn (box3_other (q := w.heap.size + 1 + 1 + 1) (u0 := .int .i64 p1) (u1 := .slice a7 G1.length c7) (u2 := .string s1) (box4_other (q := w.heap.size + 1 + 1) (u0 := .slice a5 B1.length c5) (u1 := .slice a6 E1.length c6) (u2 := .int .i64 r1) (u3 := .int .i64 t1) hnC ne3) ne4))
             unfold World.box4 at h1 h2
             (try unfold World.box3 at h1 h2)
             with_reducible exact ⟨h1.1, h1.2.1, h1.2.2.1, h1.2.2.2, h2.1, h2.2.1, h2.2.2.1⟩)
          | go_keep
          | fail)
        (fail)
      go_wp2_with fail
      have hbox := (⟨_, _, _, _, _, _, _, _, hp3.out⟩ : ∃ a n c a' n' c' r t, w3.heap[w.heap.size + 1 + 1]? = some (.cells #[.slice a n c, .slice a' n' c', .int .i64 r, .int .i64 t] 29 (0, 0)))
      have hdx := box4_other (q := w.heap.size + 1 + 1) (u0 := .slice a5 B1.length c5) (u1 := .slice a6 E1.length c6) (u2 := .int .i64 r1) (u3 := .int .i64 t1) hd3.out (by omega)
      have rl9 := ((rb3.out.box4 EBlob.writes hbox a5 B1.length c5 a6 E1.length c6 r1 t1).box3 EBlob.writesC ⟨_, _, _, _, _, hdx⟩ p1 a7 G1.length c7 s1).mono EBlob.stable (Below.refl _ _).drew
      have re9 := ((re3.out.box4 EEntry.writes hbox a5 B1.length c5 a6 E1.length c6 r1 t1).box3 EEntry.writesC ⟨_, _, _, _, _, hdx⟩ p1 a7 G1.length c7 s1).mono EEntry.stable (Below.refl _ _).drew
      unfold World.box4 World.box3 at rl9 re9
      have os9 := OS.drew (OS.boxS3 (u0 := .int .i64 p1) (u1 := .slice a7 G1.length c7) (u2 := .string s1) (OS.boxS4 (u0 := .slice a5 B1.length c5) (u1 := .slice a6 E1.length c6) (u2 := .int .i64 r1) (u3 := .int .i64 t1) og3.out hp3.out (by decide)) hdx (by decide))
      have rt9 := reads_str os9 bnd.out szs.out
      unfold World.box4 World.box3 at os9 rt9
      have hp9 := heap_drewn (box3_other (q := w.heap.size + 1 + 1 + 1) (u0 := .int .i64 p1) (u1 := .slice a7 G1.length c7) (u2 := .string s1) (box4_same (u0 := .slice a5 B1.length c5) (u1 := .slice a6 E1.length c6) (u2 := .int .i64 r1) (u3 := .int .i64 t1) hp3.out) (by omega))
      have hd9 := heap_drewn (box3_same (u0 := .int .i64 p1) (u1 := .slice a7 G1.length c7) (u2 := .string s1) (box4_other (q := w.heap.size + 1 + 1) (u0 := .slice a5 B1.length c5) (u1 := .slice a6 E1.length c6) (u2 := .int .i64 r1) (u3 := .int .i64 t1) hd3.out (by omega)))
      have hb9 := (b_box3 (b_box4 hb3.out (q := w.heap.size + 1 + 1) (by omega) (.slice a5 B1.length c5) (.slice a6 E1.length c6) (.int .i64 r1) (.int .i64 t1)) (q := w.heap.size + 1 + 1 + 1) (by omega) (.int .i64 p1) (.slice a7 G1.length c7) (.string s1)).drew
      obtain ⟨m0, m1, m2, m3⟩ := box4f hp9
      obtain ⟨n0, n1, n2, -⟩ := box3f hd9
      unfold World.box4 World.box3 at m0 m1 m2 m3 n0 n1 n2 hb9
      (try simp only [Exit.inBlock, Exit.then])
      refine bodyPost_ret (by simp [results, Tryz.results52, go_sem, m0, m1, m2, m3, n0, n1, n2]; try rfl) rfl ?_
      exact coD_any hd.out rl9 re9 rt9 os9 hb9
    · by_cases h2 : ph = 2
      · subst h2
        replace hsw := hid (hsw rfl)
        have hd := hid (tick_2 (M := M) (S := S))
        clear hms h1
        obtain ⟨ser, ⟨B1, E1, r1, t1⟩, sp, spl, sg⟩ := S
        simp only at hsw hd
        generalize tickC 0 2 M _ = o9 at *
        generalize tickD 0 2 _ = d9 at *
        go_enter Tryz.func52, Tryz.ntmps52
        go_wp2_with fail
        ((with_reducible refine (hch.out _ (hR.out.mono EBlob.stable (b_alloc (b_alloc (b_alloc (b_alloc (Below.refl w.heap.size w) _) _) _) _)) (hE.out.mono EEntry.stable (b_alloc (b_alloc (b_alloc (b_alloc (Below.refl w.heap.size w) _) _) _) _)) (hG.out.mono EStr.stable (b_alloc (b_alloc (b_alloc (b_alloc (Below.refl w.heap.size w) _) _) _) _))).mono ?_); rintro e1 w1 ⟨rfl, b1⟩)
        have hq_q_1 := hid (stays b1 (hold (hold (hold (heap_put w _ (w.heap.size) (by simp))))))
        have hq_k_1 := hid (stays b1 (hold (hold (heap_put _ _ (w.heap.size + 1) (by simp)))))
        have hq_p_1 := hid (stays b1 (hold (heap_put _ _ (w.heap.size + 1 + 1) (by simp))))
        have hq_d_1 := hid (stays b1 (heap_put _ _ (w.heap.size + 1 + 1 + 1) (by simp)))
        have hb1 := hid (b_call (b_alloc (b_alloc (b_alloc (b_alloc (Below.refl w.heap.size w) _) _) _) _) b1)
        have r_R_1 := hid (hR.out.mono EBlob.stable (b_call (b_alloc (b_alloc (b_alloc (b_alloc (Below.refl w.heap.size w) _) _) _) _) b1))
        have r_E_1 := hid (hE.out.mono EEntry.stable (b_call (b_alloc (b_alloc (b_alloc (b_alloc (Below.refl w.heap.size w) _) _) _) _) b1))
        have r_G_1 := hid (hG.out.mono EStr.stable (b_call (b_alloc (b_alloc (b_alloc (b_alloc (Below.refl w.heap.size w) _) _) _) _) b1))
        clear b1
        obtain ⟨x_q_0, x_q_1, x_q_2, x_q_3⟩ := box4f hq_q_1.out
        obtain ⟨x_k_0, x_k_1, x_k_2, -⟩ := box3f hq_k_1.out
        go_wp2_with fail
        ((with_reducible refine (hsw.out _ r_R_1.out r_E_1.out).mono ?_); rintro e2 w2 ⟨_, rfl, ⟨A1, D1, rfl, rA, rD⟩, b2⟩)
        clear x_q_0 x_q_1 x_q_2 x_q_3 x_k_0 x_k_1 x_k_2
        have hq_q_2 := hid (stays b2 hq_q_1.out)
        have hq_k_2 := hid (stays b2 hq_k_1.out)
        have hq_p_2 := hid (stays b2 hq_p_1.out)
        have hq_d_2 := hid (stays b2 hq_d_1.out)
        have hb2 := hid (b_call hb1.out b2)
        have r_R_2 := hid (r_R_1.out.mono EBlob.stable (b_call (Below.refl w1.heap.size w1) b2))
        have r_E_2 := hid (r_E_1.out.mono EEntry.stable (b_call (Below.refl w1.heap.size w1) b2))
        have r_G_2 := hid (r_G_1.out.mono EStr.stable (b_call (Below.refl w1.heap.size w1) b2))
        have r_A_2 := hid rA
        have r_X_2 := hid rD
        clear hq_q_1 hq_k_1 hq_p_1 hq_d_1 hb1 r_R_1 r_E_1 r_G_1 rA rD b2
        obtain ⟨a5, c5, rfl, -⟩ := id r_A_2.out
        obtain ⟨a6, c6, rfl, -⟩ := id r_X_2.out
        obtain ⟨x_q_0, x_q_1, x_q_2, x_q_3⟩ := box4f hq_q_2.out
        obtain ⟨x_k_0, x_k_1, x_k_2, -⟩ := box3f hq_k_2.out
        obtain ⟨x_p_0, x_p_1, x_p_2, x_p_3⟩ := box4f hq_p_2.out
        have g_p_0 := frozen_heap hq_p_2.out 0
        have g_p_1 := frozen_heap hq_p_2.out 1
        have g_p_2 := frozen_heap hq_p_2.out 2
        have g_p_3 := frozen_heap hq_p_2.out 3
        obtain ⟨x_d_0, x_d_1, x_d_2, -⟩ := box3f hq_d_2.out
        have g_d_0 := frozen_heap hq_d_2.out 0
        have g_d_1 := frozen_heap hq_d_2.out 1
        have g_d_2 := frozen_heap hq_d_2.out 2
        go_wp2_with fail
        have hbox := (⟨_, _, _, _, _, _, _, _, hq_p_2.out⟩ : ∃ a n c a' n' c' r t, w2.heap[w.heap.size + 1 + 1]? = some (.cells #[.slice a n c, .slice a' n' c', .int .i64 r, .int .i64 t] 29 (0, 0)))
        have hdx := box4_other (q := w.heap.size + 1 + 1) (u0 := .slice a5 B1.length c5) (u1 := .slice a6 E1.length c6) (u2 := .int .i64 r1) (u3 := .int .i64 t1) hq_d_2.out (by omega)
        have rl9 := (r_A_2.out.box4 EBlob.writes hbox a5 B1.length c5 a6 E1.length c6 r1 t1).box3 EBlob.writesC ⟨_, _, _, _, _, hdx⟩ sp none 0 0 spl
        have re9 := (r_X_2.out.box4 EEntry.writes hbox a5 B1.length c5 a6 E1.length c6 r1 t1).box3 EEntry.writesC ⟨_, _, _, _, _, hdx⟩ sp none 0 0 spl
        unfold World.box4 World.box3 at rl9 re9
        have hp9 := box3_other (q := w.heap.size + 1 + 1 + 1) (u0 := .int .i64 sp) (u1 := .slice none 0 0) (u2 := .string spl) (box4_same (u0 := .slice a5 B1.length c5) (u1 := .slice a6 E1.length c6) (u2 := .int .i64 r1) (u3 := .int .i64 t1) hq_p_2.out) (by omega)
        have hd9 := box3_same (u0 := .int .i64 sp) (u1 := .slice none 0 0) (u2 := .string spl) (box4_other (q := w.heap.size + 1 + 1) (u0 := .slice a5 B1.length c5) (u1 := .slice a6 E1.length c6) (u2 := .int .i64 r1) (u3 := .int .i64 t1) hq_d_2.out (by omega))
        have hb9 := b_box3 (b_box4 hb2.out (q := w.heap.size + 1 + 1) (by omega) (.slice a5 B1.length c5) (.slice a6 E1.length c6) (.int .i64 r1) (.int .i64 t1)) (q := w.heap.size + 1 + 1 + 1) (by omega) (.int .i64 sp) (.slice none 0 0) (.string spl)
        obtain ⟨m0, m1, m2, m3⟩ := box4f hp9
        obtain ⟨n0, n1, n2, -⟩ := box3f hd9
        unfold World.box4 World.box3 at m0 m1 m2 m3 n0 n1 n2 hb9
        (try simp only [Exit.inBlock, Exit.then])
        refine bodyPost_ret (by simp [results, Tryz.results52, go_sem, m0, m1, m2, m3, n0, n1, n2]; try rfl) rfl ?_
        exact coD_any hd.out rl9 re9 RS.nil OS.nil hb9
      · have n1 : (ph == 1) = false := by simp [h1]
        have n2 : (ph == 2) = false := by simp [h2]
        have hd := hid (tick_0 (M := M) (S := S) h1 h2)
        replace h1 := hid h1
        replace h2 := hid h2
        clear hms hsw
        go_enter Tryz.func52, Tryz.ntmps52
        go_wp2_with fail
        ((with_reducible refine (hch.out _ (hR.out.mono EBlob.stable (b_alloc (b_alloc (b_alloc (b_alloc (Below.refl w.heap.size w) _) _) _) _)) (hE.out.mono EEntry.stable (b_alloc (b_alloc (b_alloc (b_alloc (Below.refl w.heap.size w) _) _) _) _)) (hG.out.mono EStr.stable (b_alloc (b_alloc (b_alloc (b_alloc (Below.refl w.heap.size w) _) _) _) _))).mono ?_); rintro e1 w1 ⟨rfl, b1⟩)
        have hq_q_1 := hid (stays b1 (hold (hold (hold (heap_put w _ (w.heap.size) (by simp))))))
        have hq_k_1 := hid (stays b1 (hold (hold (heap_put _ _ (w.heap.size + 1) (by simp)))))
        have hq_p_1 := hid (stays b1 (hold (heap_put _ _ (w.heap.size + 1 + 1) (by simp))))
        have hq_d_1 := hid (stays b1 (heap_put _ _ (w.heap.size + 1 + 1 + 1) (by simp)))
        have hb1 := hid (b_call (b_alloc (b_alloc (b_alloc (b_alloc (Below.refl w.heap.size w) _) _) _) _) b1)
        have r_R_1 := hid (hR.out.mono EBlob.stable (b_call (b_alloc (b_alloc (b_alloc (b_alloc (Below.refl w.heap.size w) _) _) _) _) b1))
        have r_E_1 := hid (hE.out.mono EEntry.stable (b_call (b_alloc (b_alloc (b_alloc (b_alloc (Below.refl w.heap.size w) _) _) _) _) b1))
        have r_G_1 := hid (hG.out.mono EStr.stable (b_call (b_alloc (b_alloc (b_alloc (b_alloc (Below.refl w.heap.size w) _) _) _) _) b1))
        clear b1
        obtain ⟨x_q_0, x_q_1, x_q_2, x_q_3⟩ := box4f hq_q_1.out
        obtain ⟨x_k_0, x_k_1, x_k_2, -⟩ := box3f hq_k_1.out
        obtain ⟨x_p_0, x_p_1, x_p_2, x_p_3⟩ := box4f hq_p_1.out
        have g_p_0 := frozen_heap hq_p_1.out 0
        have g_p_1 := frozen_heap hq_p_1.out 1
        have g_p_2 := frozen_heap hq_p_1.out 2
        have g_p_3 := frozen_heap hq_p_1.out 3
        obtain ⟨x_d_0, x_d_1, x_d_2, -⟩ := box3f hq_d_1.out
        have g_d_0 := frozen_heap hq_d_1.out 0
        have g_d_1 := frozen_heap hq_d_1.out 1
        have g_d_2 := frozen_heap hq_d_1.out 2
        go_wp2_with fail
        have hp9 := box3_other (q := w.heap.size + 1 + 1 + 1) (u0 := .int .i64 0) (u1 := .slice none 0 0) (u2 := .string ⟨#[]⟩) (box4_same (u0 := .slice none 0 0) (u1 := .slice none 0 0) (u2 := .int .i64 0) (u3 := .int .i64 0) hq_p_1.out) (by omega)
        have hd9 := box3_same (u0 := .int .i64 0) (u1 := .slice none 0 0) (u2 := .string ⟨#[]⟩) (box4_other (q := w.heap.size + 1 + 1) (u0 := .slice none 0 0) (u1 := .slice none 0 0) (u2 := .int .i64 0) (u3 := .int .i64 0) hq_d_1.out (by omega))
        have hb9 := b_box3 (b_box4 hb1.out (q := w.heap.size + 1 + 1) (by omega) (.slice none 0 0) (.slice none 0 0) (.int .i64 0) (.int .i64 0)) (q := w.heap.size + 1 + 1 + 1) (by omega) (.int .i64 0) (.slice none 0 0) (.string ⟨#[]⟩)
        obtain ⟨m0, m1, m2, m3⟩ := box4f hp9
        obtain ⟨n0, n1, n2, -⟩ := box3f hd9
        unfold World.box4 World.box3 at m0 m1 m2 m3 n0 n1 n2 hb9
        (try simp only [Exit.inBlock, Exit.then])
        refine bodyPost_ret (by simp [results, Tryz.results52, go_sem, m0, m1, m2, m3, n0, n1, n2]; try rfl) rfl ?_
        exact coD_no hd.out hb9
  · have ht : (z != 0) = true := by simp [hz]
    have hd := hid (tick_bad (ph := ph) (M := M) (S := S) hz)
    replace hz := hid hz
    clear hms hsw
    go_enter Tryz.func52, Tryz.ntmps52
    go_wp2_with fail
    ((with_reducible refine (hch.out _ (hR.out.mono EBlob.stable (b_alloc (b_alloc (b_alloc (b_alloc (Below.refl w.heap.size w) _) _) _) _)) (hE.out.mono EEntry.stable (b_alloc (b_alloc (b_alloc (b_alloc (Below.refl w.heap.size w) _) _) _) _)) (hG.out.mono EStr.stable (b_alloc (b_alloc (b_alloc (b_alloc (Below.refl w.heap.size w) _) _) _) _))).mono ?_); rintro e1 w1 ⟨rfl, b1⟩)
    have hq_q_1 := hid (stays b1 (hold (hold (hold (heap_put w _ (w.heap.size) (by simp))))))
    have hq_k_1 := hid (stays b1 (hold (hold (heap_put _ _ (w.heap.size + 1) (by simp)))))
    have hq_p_1 := hid (stays b1 (hold (heap_put _ _ (w.heap.size + 1 + 1) (by simp))))
    have hq_d_1 := hid (stays b1 (heap_put _ _ (w.heap.size + 1 + 1 + 1) (by simp)))
    have hb1 := hid (b_call (b_alloc (b_alloc (b_alloc (b_alloc (Below.refl w.heap.size w) _) _) _) _) b1)
    have r_R_1 := hid (hR.out.mono EBlob.stable (b_call (b_alloc (b_alloc (b_alloc (b_alloc (Below.refl w.heap.size w) _) _) _) _) b1))
    have r_E_1 := hid (hE.out.mono EEntry.stable (b_call (b_alloc (b_alloc (b_alloc (b_alloc (Below.refl w.heap.size w) _) _) _) _) b1))
    have r_G_1 := hid (hG.out.mono EStr.stable (b_call (b_alloc (b_alloc (b_alloc (b_alloc (Below.refl w.heap.size w) _) _) _) _) b1))
    clear b1
    obtain ⟨x_q_0, x_q_1, x_q_2, x_q_3⟩ := box4f hq_q_1.out
    obtain ⟨x_k_0, x_k_1, x_k_2, -⟩ := box3f hq_k_1.out
    obtain ⟨x_p_0, x_p_1, x_p_2, x_p_3⟩ := box4f hq_p_1.out
    have g_p_0 := frozen_heap hq_p_1.out 0
    have g_p_1 := frozen_heap hq_p_1.out 1
    have g_p_2 := frozen_heap hq_p_1.out 2
    have g_p_3 := frozen_heap hq_p_1.out 3
    obtain ⟨x_d_0, x_d_1, x_d_2, -⟩ := box3f hq_d_1.out
    have g_d_0 := frozen_heap hq_d_1.out 0
    have g_d_1 := frozen_heap hq_d_1.out 1
    have g_d_2 := frozen_heap hq_d_1.out 2
    go_wp2_with fail
    have hp9 := box3_other (q := w.heap.size + 1 + 1 + 1) (u0 := .int .i64 0) (u1 := .slice none 0 0) (u2 := .string ⟨#[]⟩) (box4_same (u0 := .slice none 0 0) (u1 := .slice none 0 0) (u2 := .int .i64 0) (u3 := .int .i64 0) hq_p_1.out) (by omega)
    have hd9 := box3_same (u0 := .int .i64 0) (u1 := .slice none 0 0) (u2 := .string ⟨#[]⟩) (box4_other (q := w.heap.size + 1 + 1) (u0 := .slice none 0 0) (u1 := .slice none 0 0) (u2 := .int .i64 0) (u3 := .int .i64 0) hq_d_1.out (by omega))
    have hb9 := b_box3 (b_box4 hb1.out (q := w.heap.size + 1 + 1) (by omega) (.slice none 0 0) (.slice none 0 0) (.int .i64 0) (.int .i64 0)) (q := w.heap.size + 1 + 1 + 1) (by omega) (.int .i64 0) (.slice none 0 0) (.string ⟨#[]⟩)
    obtain ⟨m0, m1, m2, m3⟩ := box4f hp9
    obtain ⟨n0, n1, n2, -⟩ := box3f hd9
    unfold World.box4 World.box3 at m0 m1 m2 m3 n0 n1 n2 hb9
    (try simp only [Exit.inBlock, Exit.then])
    refine bodyPost_ret (by simp [results, Tryz.results52, go_sem, m0, m1, m2, m3, n0, n1, n2]; try rfl) rfl ?_
    exact coD_no hd.out hb9

set_option maxRecDepth 100000 in
set_option maxHeartbeats 4000000 in
theorem ref_CollectTick' (v u gv : Value) (bs : List Blob) (es : List Entry) (r t ph : Int) (pl : ByteArray) (gy : List ByteArray) (w : World) (h : RBl w v bs) (g : RE w u es) (hg : RT w gv gy) (z : Int) (M : CoOut) (S : SwOut)
    (hch : ∀ w, RBl w v bs → RE w u es → RT w gv gy → Calls Tryz.prog 53 #[.agg #[v, u, .int .i64 r, .int .i64 t], .agg #[.int .i64 ph, gv, .string pl]] w fun e w' => e = .returned (.int .i64 z) ∧ Below w.heap.size w w')
    (hms : ph = 1 → ∀ w, RBl w v bs → RE w u es → RT w gv gy → Calls Tryz.prog 128 #[.agg #[v, u, .int .i64 r, .int .i64 t], .agg #[.int .i64 ph, gv, .string pl]] w (CoResO M w))
    (hsw : ph = 2 → ∀ w, RBl w v bs → RE w u es → Calls Tryz.prog 129 #[.agg #[v, u, .int .i64 r, .int .i64 t], .agg #[.int .i64 ph, gv, .string pl]] w (SwRes S w)) :
    Calls Tryz.prog 55 #[.agg #[v, u, .int .i64 r, .int .i64 t], .agg #[.int .i64 ph, gv, .string pl]] w (CoResD (tickC z ph M S) (tickD z ph S) w) := by
  replace hch := hid hch
  have hR := hid h
  have hE := hid g
  have hG := hid hg
  obtain ⟨a, c, rfl, -⟩ := h
  obtain ⟨a2, c2, rfl, -⟩ := g
  obtain ⟨ga, gc, rfl, -⟩ := hg
  unfold CoResO VS at hms
  unfold SwRes VS at hsw
  by_cases hz : z = 0
  · subst hz
    by_cases h1 : ph = 1
    · subst h1
      replace hms := hid (hms rfl)
      have hd := hid (tick_1 (M := M) (S := S))
      clear hsw
      obtain ⟨er, ⟨B1, E1, r1, t1⟩, ⟨p1, G1, s1⟩⟩ := M
      simp only at hms
      generalize tickC 0 1 _ S = o9 at *
      generalize tickD 0 1 S = d9 at *
      go_enter Tryz.func55, Tryz.ntmps55
      go_wp2_with fail
      ((with_reducible refine (hch.out _ (hR.out.mono EBlob.stable (b_alloc (b_alloc (b_alloc (b_alloc (Below.refl w.heap.size w) _) _) _) _)) (hE.out.mono EEntry.stable (b_alloc (b_alloc (b_alloc (b_alloc (Below.refl w.heap.size w) _) _) _) _)) (hG.out.mono EStr.stable (b_alloc (b_alloc (b_alloc (b_alloc (Below.refl w.heap.size w) _) _) _) _))).mono ?_); rintro e1 w1 ⟨rfl, b1⟩)
      have hq_q_1 := hid (stays b1 (hold (hold (hold (heap_put w _ (w.heap.size) (by simp))))))
      have hq_k_1 := hid (stays b1 (hold (hold (heap_put _ _ (w.heap.size + 1) (by simp)))))
      have hq_p_1 := hid (stays b1 (hold (heap_put _ _ (w.heap.size + 1 + 1) (by simp))))
      have hq_d_1 := hid (stays b1 (heap_put _ _ (w.heap.size + 1 + 1 + 1) (by simp)))
      have hb1 := hid (b_call (b_alloc (b_alloc (b_alloc (b_alloc (Below.refl w.heap.size w) _) _) _) _) b1)
      have r_R_1 := hid (hR.out.mono EBlob.stable (b_call (b_alloc (b_alloc (b_alloc (b_alloc (Below.refl w.heap.size w) _) _) _) _) b1))
      have r_E_1 := hid (hE.out.mono EEntry.stable (b_call (b_alloc (b_alloc (b_alloc (b_alloc (Below.refl w.heap.size w) _) _) _) _) b1))
      have r_G_1 := hid (hG.out.mono EStr.stable (b_call (b_alloc (b_alloc (b_alloc (b_alloc (Below.refl w.heap.size w) _) _) _) _) b1))
      clear b1
      obtain ⟨x_q_0, x_q_1, x_q_2, x_q_3⟩ := box4f hq_q_1.out
      obtain ⟨x_k_0, x_k_1, x_k_2, -⟩ := box3f hq_k_1.out
      go_wp2_with fail
      ((with_reducible refine (hms.out _ r_R_1.out r_E_1.out r_G_1.out).mono ?_); rintro e2 w2 ⟨_, g1, rfl, ⟨A1, D1, rfl, rA, rD⟩, rg, og, b2⟩)
      clear x_q_0 x_q_1 x_q_2 x_q_3 x_k_0 x_k_1 x_k_2
      have hq_q_2 := hid (stays b2 hq_q_1.out)
      have hq_k_2 := hid (stays b2 hq_k_1.out)
      have hq_p_2 := hid (stays b2 hq_p_1.out)
      have hq_d_2 := hid (stays b2 hq_d_1.out)
      have hb2 := hid (b_call hb1.out b2)
      have r_R_2 := hid (r_R_1.out.mono EBlob.stable (b_call (Below.refl w1.heap.size w1) b2))
      have r_E_2 := hid (r_E_1.out.mono EEntry.stable (b_call (Below.refl w1.heap.size w1) b2))
      have r_G_2 := hid (r_G_1.out.mono EStr.stable (b_call (Below.refl w1.heap.size w1) b2))
      have r_A_2 := hid rA
      have r_X_2 := hid rD
      have r_N_2 := hid rg
      replace og := hid (OS.mono og hb1.out.size)
      clear hq_q_1 hq_k_1 hq_p_1 hq_d_1 hb1 r_R_1 r_E_1 r_G_1 rA rD rg b2
      obtain ⟨a5, c5, rfl, -⟩ := id r_A_2.out
      obtain ⟨a6, c6, rfl, -⟩ := id r_X_2.out
      obtain ⟨a7, c7, rfl, -⟩ := id r_N_2.out
      have bnd := hid (rt_bound r_N_2.out)
      have szs := hid (rt_sizes r_N_2.out)
      have hs2 : w.heap.size + 4 ≤ w2.heap.size := by have := heap_lt hq_d_2.out; omega
      obtain ⟨x_q_0, x_q_1, x_q_2, x_q_3⟩ := box4f hq_q_2.out
      have l_q := heap_lt hq_q_2.out
      obtain ⟨x_k_0, x_k_1, x_k_2, -⟩ := box3f hq_k_2.out
      have l_k := heap_lt hq_k_2.out
      go_upto_region 6 with fail
      have hx3 := hid (alloc_keep (o := Obj.cells #[.int .i64 p1, .slice a7 G1.length c7, .string s1] 32) (heap_alloc_new w2 (Obj.cells #[.slice a5 B1.length c5, .slice a6 E1.length c6, .int .i64 r1, .int .i64 t1] 29)))
      have hn3 := hid (heap_put (w2.alloc (Obj.cells #[.slice a5 B1.length c5, .slice a6 E1.length c6, .int .i64 r1, .int .i64 t1] 29)) (Obj.cells #[.int .i64 p1, .slice a7 G1.length c7, .string s1] 32) (w2.heap.size + 1) (by simp))
      have hp3 := hid (alloc_keep (o := Obj.cells #[.int .i64 p1, .slice a7 G1.length c7, .string s1] 32) (alloc_keep (o := Obj.cells #[.slice a5 B1.length c5, .slice a6 E1.length c6, .int .i64 r1, .int .i64 t1] 29) hq_p_2.out))
      have hd3 := hid (alloc_keep (o := Obj.cells #[.int .i64 p1, .slice a7 G1.length c7, .string s1] 32) (alloc_keep (o := Obj.cells #[.slice a5 B1.length c5, .slice a6 E1.length c6, .int .i64 r1, .int .i64 t1] 29) hq_d_2.out))
      have hb3 := hid (b_alloc (b_alloc hb2.out (Obj.cells #[.slice a5 B1.length c5, .slice a6 E1.length c6, .int .i64 r1, .int .i64 t1] 29)) (Obj.cells #[.int .i64 p1, .slice a7 G1.length c7, .string s1] 32))
      have rb3 := hid (RS.al EBlob.stable (RS.al EBlob.stable r_A_2.out (Obj.cells #[.slice a5 B1.length c5, .slice a6 E1.length c6, .int .i64 r1, .int .i64 t1] 29)) (Obj.cells #[.int .i64 p1, .slice a7 G1.length c7, .string s1] 32))
      have re3 := hid (RS.al EEntry.stable (RS.al EEntry.stable r_X_2.out (Obj.cells #[.slice a5 B1.length c5, .slice a6 E1.length c6, .int .i64 r1, .int .i64 t1] 29)) (Obj.cells #[.int .i64 p1, .slice a7 G1.length c7, .string s1] 32))
      have og3 := hid (OS.alloc (OS.alloc og.out (Obj.cells #[.slice a5 B1.length c5, .slice a6 E1.length c6, .int .i64 r1, .int .i64 t1] 29)) (Obj.cells #[.int .i64 p1, .slice a7 G1.length c7, .string s1] 32))
      generalize (w2.alloc (Obj.cells #[.slice a5 B1.length c5, .slice a6 E1.length c6, .int .i64 r1, .int .i64 t1] 29)).alloc (Obj.cells #[.int .i64 p1, .slice a7 G1.length c7, .string s1] 32) = w3 at *
      clear x_q_0 x_q_1 x_q_2 x_q_3 l_q x_k_0 x_k_1 x_k_2 l_k
      obtain ⟨x0, x1, x2, x3⟩ := box4f hx3.out
      obtain ⟨e0, e1', e2, -⟩ := box3f hn3.out
      have hnS := hx3.out
      have hnC := hn3.out
      have ne1 : w2.heap.size ≠ w.heap.size + 1 + 1 := by omega
      have ne2 : w2.heap.size ≠ w.heap.size + 1 + 1 + 1 := by omega
      have ne3 : w2.heap.size + 1 ≠ w.heap.size + 1 + 1 := by omega
      have ne4 : w2.heap.size + 1 ≠ w.heap.size + 1 + 1 + 1 := by omega
      obtain ⟨y0, y1, y2, y3⟩ := box4f hp3.out
      obtain ⟨z0, z1, z2, -⟩ := box3f hd3.out
      have g0 := frozen_heap hp3.out 0
      have g1 := frozen_heap hp3.out 1
      have g2 := frozen_heap hp3.out 2
      have g3 := frozen_heap hp3.out 3
      have kf0 := frozen_heap hd3.out 0
      have kf1 := frozen_heap hd3.out 1
      have kf2 := frozen_heap hd3.out 2
      have hS := box4f hnS
      have hC := box3f hnC
      go_wp2_with fail
      go_region_held3 (fun w' => w'.cell? ⟨w2.heap.size, 0, none⟩ = some (.slice a5 B1.length c5) ∧ w'.cell? ⟨w2.heap.size, 1, none⟩ = some (.slice a6 E1.length c6) ∧ w'.cell? ⟨w2.heap.size, 2, none⟩ = some (.int .i64 r1) ∧ w'.cell? ⟨w2.heap.size, 3, none⟩ = some (.int .i64 t1) ∧ w'.cell? ⟨w2.heap.size + 1, 0, none⟩ = some (.int .i64 p1) ∧ w'.cell? ⟨w2.heap.size + 1, 1, none⟩ = some (.slice a7 G1.length c7) ∧ w'.cell? ⟨w2.heap.size + 1, 2, none⟩ = some (.string s1))
        (first
          | with_reducible exact ⟨hS.1, hS.2.1, hS.2.2.1, hS.2.2.2, hC.1, hC.2.1, hC.2.2.1⟩
          | (have h1 := box4f (heap_drewn (box4_other (q := w.heap.size + 1 + 1) (u0 := .slice a5 B1.length c5) (u1 := .slice a6 E1.length c6) (u2 := .int .i64 r1) (u3 := .int .i64 t1) hnS ne1))
             have h2 := box3f (heap_drewn (box4_other (q := w.heap.size + 1 + 1) (u0 := .slice a5 B1.length c5) (u1 := .slice a6 E1.length c6) (u2 := .int .i64 r1) (u3 := .int .i64 t1) hnC ne3))
             unfold World.box4 at h1 h2
             (try unfold World.box3 at h1 h2)
             with_reducible exact ⟨h1.1, h1.2.1, h1.2.2.1, h1.2.2.2, h2.1, h2.2.1, h2.2.2.1⟩)
          | (have h1 := box4f (heap_drewn (box3_other (q := w.heap.size + 1 + 1 + 1) (u0 := .int .i64 p1) (u1 := .slice a7 G1.length c7) (u2 := .string s1) (box4_other (q := w.heap.size + 1 + 1) (u0 := .slice a5 B1.length c5) (u1 := .slice a6 E1.length c6) (u2 := .int .i64 r1) (u3 := .int .i64 t1) hnS ne1) ne2))
             have h2 := box3f (heap_drewn (box3_other (q := w.heap.size + 1 + 1 + 1) (u0 := .int .i64 p1) (u1 := .slice a7 G1.length c7) (u2 := .string s1) (box4_other (q := w.heap.size + 1 + 1) (u0 := .slice a5 B1.length c5) (u1 := .slice a6 E1.length c6) (u2 := .int .i64 r1) (u3 := .int .i64 t1) hnC ne3) ne4))
             unfold World.box4 at h1 h2
             (try unfold World.box3 at h1 h2)
             with_reducible exact ⟨h1.1, h1.2.1, h1.2.2.1, h1.2.2.2, h2.1, h2.2.1, h2.2.2.1⟩)
          | go_keep
          | fail)
        (fail)
      go_wp2_with fail
      have hbox := (⟨_, _, _, _, _, _, _, _, hp3.out⟩ : ∃ a n c a' n' c' r t, w3.heap[w.heap.size + 1 + 1]? = some (.cells #[.slice a n c, .slice a' n' c', .int .i64 r, .int .i64 t] 29 (0, 0)))
      have hdx := box4_other (q := w.heap.size + 1 + 1) (u0 := .slice a5 B1.length c5) (u1 := .slice a6 E1.length c6) (u2 := .int .i64 r1) (u3 := .int .i64 t1) hd3.out (by omega)
      have rl9 := ((rb3.out.box4 EBlob.writes hbox a5 B1.length c5 a6 E1.length c6 r1 t1).box3 EBlob.writesC ⟨_, _, _, _, _, hdx⟩ p1 a7 G1.length c7 s1).mono EBlob.stable (Below.refl _ _).drew
      have re9 := ((re3.out.box4 EEntry.writes hbox a5 B1.length c5 a6 E1.length c6 r1 t1).box3 EEntry.writesC ⟨_, _, _, _, _, hdx⟩ p1 a7 G1.length c7 s1).mono EEntry.stable (Below.refl _ _).drew
      unfold World.box4 World.box3 at rl9 re9
      have os9 := OS.drew (OS.boxS3 (u0 := .int .i64 p1) (u1 := .slice a7 G1.length c7) (u2 := .string s1) (OS.boxS4 (u0 := .slice a5 B1.length c5) (u1 := .slice a6 E1.length c6) (u2 := .int .i64 r1) (u3 := .int .i64 t1) og3.out hp3.out (by decide)) hdx (by decide))
      have rt9 := reads_str os9 bnd.out szs.out
      unfold World.box4 World.box3 at os9 rt9
      have hp9 := heap_drewn (box3_other (q := w.heap.size + 1 + 1 + 1) (u0 := .int .i64 p1) (u1 := .slice a7 G1.length c7) (u2 := .string s1) (box4_same (u0 := .slice a5 B1.length c5) (u1 := .slice a6 E1.length c6) (u2 := .int .i64 r1) (u3 := .int .i64 t1) hp3.out) (by omega))
      have hd9 := heap_drewn (box3_same (u0 := .int .i64 p1) (u1 := .slice a7 G1.length c7) (u2 := .string s1) (box4_other (q := w.heap.size + 1 + 1) (u0 := .slice a5 B1.length c5) (u1 := .slice a6 E1.length c6) (u2 := .int .i64 r1) (u3 := .int .i64 t1) hd3.out (by omega)))
      have hb9 := (b_box3 (b_box4 hb3.out (q := w.heap.size + 1 + 1) (by omega) (.slice a5 B1.length c5) (.slice a6 E1.length c6) (.int .i64 r1) (.int .i64 t1)) (q := w.heap.size + 1 + 1 + 1) (by omega) (.int .i64 p1) (.slice a7 G1.length c7) (.string s1)).drew
      obtain ⟨m0, m1, m2, m3⟩ := box4f hp9
      obtain ⟨n0, n1, n2, -⟩ := box3f hd9
      unfold World.box4 World.box3 at m0 m1 m2 m3 n0 n1 n2 hb9
      (try simp only [Exit.inBlock, Exit.then])
      refine bodyPost_ret (by simp [results, Tryz.results55, go_sem, m0, m1, m2, m3, n0, n1, n2]; try rfl) rfl ?_
      exact coD_any hd.out rl9 re9 rt9 os9 hb9
    · by_cases h2 : ph = 2
      · subst h2
        replace hsw := hid (hsw rfl)
        have hd := hid (tick_2 (M := M) (S := S))
        clear hms h1
        obtain ⟨ser, ⟨B1, E1, r1, t1⟩, sp, spl, sg⟩ := S
        simp only at hsw hd
        generalize tickC 0 2 M _ = o9 at *
        generalize tickD 0 2 _ = d9 at *
        go_enter Tryz.func55, Tryz.ntmps55
        go_wp2_with fail
        ((with_reducible refine (hch.out _ (hR.out.mono EBlob.stable (b_alloc (b_alloc (b_alloc (b_alloc (Below.refl w.heap.size w) _) _) _) _)) (hE.out.mono EEntry.stable (b_alloc (b_alloc (b_alloc (b_alloc (Below.refl w.heap.size w) _) _) _) _)) (hG.out.mono EStr.stable (b_alloc (b_alloc (b_alloc (b_alloc (Below.refl w.heap.size w) _) _) _) _))).mono ?_); rintro e1 w1 ⟨rfl, b1⟩)
        have hq_q_1 := hid (stays b1 (hold (hold (hold (heap_put w _ (w.heap.size) (by simp))))))
        have hq_k_1 := hid (stays b1 (hold (hold (heap_put _ _ (w.heap.size + 1) (by simp)))))
        have hq_p_1 := hid (stays b1 (hold (heap_put _ _ (w.heap.size + 1 + 1) (by simp))))
        have hq_d_1 := hid (stays b1 (heap_put _ _ (w.heap.size + 1 + 1 + 1) (by simp)))
        have hb1 := hid (b_call (b_alloc (b_alloc (b_alloc (b_alloc (Below.refl w.heap.size w) _) _) _) _) b1)
        have r_R_1 := hid (hR.out.mono EBlob.stable (b_call (b_alloc (b_alloc (b_alloc (b_alloc (Below.refl w.heap.size w) _) _) _) _) b1))
        have r_E_1 := hid (hE.out.mono EEntry.stable (b_call (b_alloc (b_alloc (b_alloc (b_alloc (Below.refl w.heap.size w) _) _) _) _) b1))
        have r_G_1 := hid (hG.out.mono EStr.stable (b_call (b_alloc (b_alloc (b_alloc (b_alloc (Below.refl w.heap.size w) _) _) _) _) b1))
        clear b1
        obtain ⟨x_q_0, x_q_1, x_q_2, x_q_3⟩ := box4f hq_q_1.out
        obtain ⟨x_k_0, x_k_1, x_k_2, -⟩ := box3f hq_k_1.out
        go_wp2_with fail
        ((with_reducible refine (hsw.out _ r_R_1.out r_E_1.out).mono ?_); rintro e2 w2 ⟨_, rfl, ⟨A1, D1, rfl, rA, rD⟩, b2⟩)
        clear x_q_0 x_q_1 x_q_2 x_q_3 x_k_0 x_k_1 x_k_2
        have hq_q_2 := hid (stays b2 hq_q_1.out)
        have hq_k_2 := hid (stays b2 hq_k_1.out)
        have hq_p_2 := hid (stays b2 hq_p_1.out)
        have hq_d_2 := hid (stays b2 hq_d_1.out)
        have hb2 := hid (b_call hb1.out b2)
        have r_R_2 := hid (r_R_1.out.mono EBlob.stable (b_call (Below.refl w1.heap.size w1) b2))
        have r_E_2 := hid (r_E_1.out.mono EEntry.stable (b_call (Below.refl w1.heap.size w1) b2))
        have r_G_2 := hid (r_G_1.out.mono EStr.stable (b_call (Below.refl w1.heap.size w1) b2))
        have r_A_2 := hid rA
        have r_X_2 := hid rD
        clear hq_q_1 hq_k_1 hq_p_1 hq_d_1 hb1 r_R_1 r_E_1 r_G_1 rA rD b2
        obtain ⟨a5, c5, rfl, -⟩ := id r_A_2.out
        obtain ⟨a6, c6, rfl, -⟩ := id r_X_2.out
        obtain ⟨x_q_0, x_q_1, x_q_2, x_q_3⟩ := box4f hq_q_2.out
        obtain ⟨x_k_0, x_k_1, x_k_2, -⟩ := box3f hq_k_2.out
        obtain ⟨x_p_0, x_p_1, x_p_2, x_p_3⟩ := box4f hq_p_2.out
        have g_p_0 := frozen_heap hq_p_2.out 0
        have g_p_1 := frozen_heap hq_p_2.out 1
        have g_p_2 := frozen_heap hq_p_2.out 2
        have g_p_3 := frozen_heap hq_p_2.out 3
        obtain ⟨x_d_0, x_d_1, x_d_2, -⟩ := box3f hq_d_2.out
        have g_d_0 := frozen_heap hq_d_2.out 0
        have g_d_1 := frozen_heap hq_d_2.out 1
        have g_d_2 := frozen_heap hq_d_2.out 2
        go_wp2_with fail
        have hbox := (⟨_, _, _, _, _, _, _, _, hq_p_2.out⟩ : ∃ a n c a' n' c' r t, w2.heap[w.heap.size + 1 + 1]? = some (.cells #[.slice a n c, .slice a' n' c', .int .i64 r, .int .i64 t] 29 (0, 0)))
        have hdx := box4_other (q := w.heap.size + 1 + 1) (u0 := .slice a5 B1.length c5) (u1 := .slice a6 E1.length c6) (u2 := .int .i64 r1) (u3 := .int .i64 t1) hq_d_2.out (by omega)
        have rl9 := (r_A_2.out.box4 EBlob.writes hbox a5 B1.length c5 a6 E1.length c6 r1 t1).box3 EBlob.writesC ⟨_, _, _, _, _, hdx⟩ sp none 0 0 spl
        have re9 := (r_X_2.out.box4 EEntry.writes hbox a5 B1.length c5 a6 E1.length c6 r1 t1).box3 EEntry.writesC ⟨_, _, _, _, _, hdx⟩ sp none 0 0 spl
        unfold World.box4 World.box3 at rl9 re9
        have hp9 := box3_other (q := w.heap.size + 1 + 1 + 1) (u0 := .int .i64 sp) (u1 := .slice none 0 0) (u2 := .string spl) (box4_same (u0 := .slice a5 B1.length c5) (u1 := .slice a6 E1.length c6) (u2 := .int .i64 r1) (u3 := .int .i64 t1) hq_p_2.out) (by omega)
        have hd9 := box3_same (u0 := .int .i64 sp) (u1 := .slice none 0 0) (u2 := .string spl) (box4_other (q := w.heap.size + 1 + 1) (u0 := .slice a5 B1.length c5) (u1 := .slice a6 E1.length c6) (u2 := .int .i64 r1) (u3 := .int .i64 t1) hq_d_2.out (by omega))
        have hb9 := b_box3 (b_box4 hb2.out (q := w.heap.size + 1 + 1) (by omega) (.slice a5 B1.length c5) (.slice a6 E1.length c6) (.int .i64 r1) (.int .i64 t1)) (q := w.heap.size + 1 + 1 + 1) (by omega) (.int .i64 sp) (.slice none 0 0) (.string spl)
        obtain ⟨m0, m1, m2, m3⟩ := box4f hp9
        obtain ⟨n0, n1, n2, -⟩ := box3f hd9
        unfold World.box4 World.box3 at m0 m1 m2 m3 n0 n1 n2 hb9
        (try simp only [Exit.inBlock, Exit.then])
        refine bodyPost_ret (by simp [results, Tryz.results55, go_sem, m0, m1, m2, m3, n0, n1, n2]; try rfl) rfl ?_
        exact coD_any hd.out rl9 re9 RS.nil OS.nil hb9
      · have n1 : (ph == 1) = false := by simp [h1]
        have n2 : (ph == 2) = false := by simp [h2]
        have hd := hid (tick_0 (M := M) (S := S) h1 h2)
        replace h1 := hid h1
        replace h2 := hid h2
        clear hms hsw
        go_enter Tryz.func55, Tryz.ntmps55
        go_wp2_with fail
        ((with_reducible refine (hch.out _ (hR.out.mono EBlob.stable (b_alloc (b_alloc (b_alloc (b_alloc (Below.refl w.heap.size w) _) _) _) _)) (hE.out.mono EEntry.stable (b_alloc (b_alloc (b_alloc (b_alloc (Below.refl w.heap.size w) _) _) _) _)) (hG.out.mono EStr.stable (b_alloc (b_alloc (b_alloc (b_alloc (Below.refl w.heap.size w) _) _) _) _))).mono ?_); rintro e1 w1 ⟨rfl, b1⟩)
        have hq_q_1 := hid (stays b1 (hold (hold (hold (heap_put w _ (w.heap.size) (by simp))))))
        have hq_k_1 := hid (stays b1 (hold (hold (heap_put _ _ (w.heap.size + 1) (by simp)))))
        have hq_p_1 := hid (stays b1 (hold (heap_put _ _ (w.heap.size + 1 + 1) (by simp))))
        have hq_d_1 := hid (stays b1 (heap_put _ _ (w.heap.size + 1 + 1 + 1) (by simp)))
        have hb1 := hid (b_call (b_alloc (b_alloc (b_alloc (b_alloc (Below.refl w.heap.size w) _) _) _) _) b1)
        have r_R_1 := hid (hR.out.mono EBlob.stable (b_call (b_alloc (b_alloc (b_alloc (b_alloc (Below.refl w.heap.size w) _) _) _) _) b1))
        have r_E_1 := hid (hE.out.mono EEntry.stable (b_call (b_alloc (b_alloc (b_alloc (b_alloc (Below.refl w.heap.size w) _) _) _) _) b1))
        have r_G_1 := hid (hG.out.mono EStr.stable (b_call (b_alloc (b_alloc (b_alloc (b_alloc (Below.refl w.heap.size w) _) _) _) _) b1))
        clear b1
        obtain ⟨x_q_0, x_q_1, x_q_2, x_q_3⟩ := box4f hq_q_1.out
        obtain ⟨x_k_0, x_k_1, x_k_2, -⟩ := box3f hq_k_1.out
        obtain ⟨x_p_0, x_p_1, x_p_2, x_p_3⟩ := box4f hq_p_1.out
        have g_p_0 := frozen_heap hq_p_1.out 0
        have g_p_1 := frozen_heap hq_p_1.out 1
        have g_p_2 := frozen_heap hq_p_1.out 2
        have g_p_3 := frozen_heap hq_p_1.out 3
        obtain ⟨x_d_0, x_d_1, x_d_2, -⟩ := box3f hq_d_1.out
        have g_d_0 := frozen_heap hq_d_1.out 0
        have g_d_1 := frozen_heap hq_d_1.out 1
        have g_d_2 := frozen_heap hq_d_1.out 2
        go_wp2_with fail
        have hp9 := box3_other (q := w.heap.size + 1 + 1 + 1) (u0 := .int .i64 0) (u1 := .slice none 0 0) (u2 := .string ⟨#[]⟩) (box4_same (u0 := .slice none 0 0) (u1 := .slice none 0 0) (u2 := .int .i64 0) (u3 := .int .i64 0) hq_p_1.out) (by omega)
        have hd9 := box3_same (u0 := .int .i64 0) (u1 := .slice none 0 0) (u2 := .string ⟨#[]⟩) (box4_other (q := w.heap.size + 1 + 1) (u0 := .slice none 0 0) (u1 := .slice none 0 0) (u2 := .int .i64 0) (u3 := .int .i64 0) hq_d_1.out (by omega))
        have hb9 := b_box3 (b_box4 hb1.out (q := w.heap.size + 1 + 1) (by omega) (.slice none 0 0) (.slice none 0 0) (.int .i64 0) (.int .i64 0)) (q := w.heap.size + 1 + 1 + 1) (by omega) (.int .i64 0) (.slice none 0 0) (.string ⟨#[]⟩)
        obtain ⟨m0, m1, m2, m3⟩ := box4f hp9
        obtain ⟨n0, n1, n2, -⟩ := box3f hd9
        unfold World.box4 World.box3 at m0 m1 m2 m3 n0 n1 n2 hb9
        (try simp only [Exit.inBlock, Exit.then])
        refine bodyPost_ret (by simp [results, Tryz.results55, go_sem, m0, m1, m2, m3, n0, n1, n2]; try rfl) rfl ?_
        exact coD_no hd.out hb9
  · have ht : (z != 0) = true := by simp [hz]
    have hd := hid (tick_bad (ph := ph) (M := M) (S := S) hz)
    replace hz := hid hz
    clear hms hsw
    go_enter Tryz.func55, Tryz.ntmps55
    go_wp2_with fail
    ((with_reducible refine (hch.out _ (hR.out.mono EBlob.stable (b_alloc (b_alloc (b_alloc (b_alloc (Below.refl w.heap.size w) _) _) _) _)) (hE.out.mono EEntry.stable (b_alloc (b_alloc (b_alloc (b_alloc (Below.refl w.heap.size w) _) _) _) _)) (hG.out.mono EStr.stable (b_alloc (b_alloc (b_alloc (b_alloc (Below.refl w.heap.size w) _) _) _) _))).mono ?_); rintro e1 w1 ⟨rfl, b1⟩)
    have hq_q_1 := hid (stays b1 (hold (hold (hold (heap_put w _ (w.heap.size) (by simp))))))
    have hq_k_1 := hid (stays b1 (hold (hold (heap_put _ _ (w.heap.size + 1) (by simp)))))
    have hq_p_1 := hid (stays b1 (hold (heap_put _ _ (w.heap.size + 1 + 1) (by simp))))
    have hq_d_1 := hid (stays b1 (heap_put _ _ (w.heap.size + 1 + 1 + 1) (by simp)))
    have hb1 := hid (b_call (b_alloc (b_alloc (b_alloc (b_alloc (Below.refl w.heap.size w) _) _) _) _) b1)
    have r_R_1 := hid (hR.out.mono EBlob.stable (b_call (b_alloc (b_alloc (b_alloc (b_alloc (Below.refl w.heap.size w) _) _) _) _) b1))
    have r_E_1 := hid (hE.out.mono EEntry.stable (b_call (b_alloc (b_alloc (b_alloc (b_alloc (Below.refl w.heap.size w) _) _) _) _) b1))
    have r_G_1 := hid (hG.out.mono EStr.stable (b_call (b_alloc (b_alloc (b_alloc (b_alloc (Below.refl w.heap.size w) _) _) _) _) b1))
    clear b1
    obtain ⟨x_q_0, x_q_1, x_q_2, x_q_3⟩ := box4f hq_q_1.out
    obtain ⟨x_k_0, x_k_1, x_k_2, -⟩ := box3f hq_k_1.out
    obtain ⟨x_p_0, x_p_1, x_p_2, x_p_3⟩ := box4f hq_p_1.out
    have g_p_0 := frozen_heap hq_p_1.out 0
    have g_p_1 := frozen_heap hq_p_1.out 1
    have g_p_2 := frozen_heap hq_p_1.out 2
    have g_p_3 := frozen_heap hq_p_1.out 3
    obtain ⟨x_d_0, x_d_1, x_d_2, -⟩ := box3f hq_d_1.out
    have g_d_0 := frozen_heap hq_d_1.out 0
    have g_d_1 := frozen_heap hq_d_1.out 1
    have g_d_2 := frozen_heap hq_d_1.out 2
    go_wp2_with fail
    have hp9 := box3_other (q := w.heap.size + 1 + 1 + 1) (u0 := .int .i64 0) (u1 := .slice none 0 0) (u2 := .string ⟨#[]⟩) (box4_same (u0 := .slice none 0 0) (u1 := .slice none 0 0) (u2 := .int .i64 0) (u3 := .int .i64 0) hq_p_1.out) (by omega)
    have hd9 := box3_same (u0 := .int .i64 0) (u1 := .slice none 0 0) (u2 := .string ⟨#[]⟩) (box4_other (q := w.heap.size + 1 + 1) (u0 := .slice none 0 0) (u1 := .slice none 0 0) (u2 := .int .i64 0) (u3 := .int .i64 0) hq_d_1.out (by omega))
    have hb9 := b_box3 (b_box4 hb1.out (q := w.heap.size + 1 + 1) (by omega) (.slice none 0 0) (.slice none 0 0) (.int .i64 0) (.int .i64 0)) (q := w.heap.size + 1 + 1 + 1) (by omega) (.int .i64 0) (.slice none 0 0) (.string ⟨#[]⟩)
    obtain ⟨m0, m1, m2, m3⟩ := box4f hp9
    obtain ⟨n0, n1, n2, -⟩ := box3f hd9
    unfold World.box4 World.box3 at m0 m1 m2 m3 n0 n1 n2 hb9
    (try simp only [Exit.inBlock, Exit.then])
    refine bodyPost_ret (by simp [results, Tryz.results55, go_sem, m0, m1, m2, m3, n0, n1, n2]; try rfl) rfl ?_
    exact coD_no hd.out hb9
end Go.Proofs.YtpcnhldlfmdlhaaGreat
