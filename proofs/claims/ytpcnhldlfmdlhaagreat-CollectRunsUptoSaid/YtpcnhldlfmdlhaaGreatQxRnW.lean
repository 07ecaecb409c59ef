/-
  collect.Run and CollectRun over all arguments; the law CollectRuns: its walk. Printed by gen_rnw.py.
-/
import Derived.Test.YtpcnhldlfmdlhaaGreatQxRnI
import Derived.Test.YtpcnhldlfmdlhaaGreatQxRnR
import Derived.Test.YtpcnhldlfmdlhaaGreatQxTkW
import Derived.Test.YtpcnhldlfmdlhaaGreatQxOpC
namespace Go.Proofs.YtpcnhldlfmdlhaaGreat
open Go.RowKit

theorem mea_small {bs : List Blob} {es : List Entry} {r t ph : Int} {gy : List ByteArray} {pl : ByteArray} (hgl : gy.length ≤ 4000000) (h : collF bs es r t ph gy pl = 0) : mea ⟨bs, es, r, t⟩ ⟨ph, gy, pl⟩ ≤ 4194304 := by
  have hb : bs.length ≤ 24 := (store_small (coll_store (S := ⟨bs, es, r, t⟩) (C := ⟨ph, gy, pl⟩) h)).1
  have h1 := unm_le bs
  have h2 := cnt_le pl bs
  unfold mea
  split
  · omega
  · split
    · show 9 * unm bs + gy.length + 100 ≤ 4194304
      omega
    · show cnt pl bs + 1 ≤ 4194304
      omega
theorem phase_pos {bs : List Blob} {es : List Entry} {r t ph : Int} {gy : List ByteArray} {pl : ByteArray} (h : collF bs es r t ph gy pl = 0) : 0 ≤ ph := by
  have hs : shapeE ph gy pl = 0 := by
    apply Classical.byContradiction
    intro hn
    unfold collF at h
    by_cases hz : storeFault bs es r t = 0
    · rw [hz, coll_s hn] at h; exact hn h
    · rw [coll_z hz] at h; exact hz h
  rcases (shape_zero hs).1 with rfl | rfl | rfl <;> decide
theorem collect_Run (v u gv : Value) (bs : List Blob) (es : List Entry) (r t ph : Int) (pl : ByteArray) (gy : List ByteArray) (w : World) (h : RBl w v bs) (g : RE w u es) (hg : RT w gv gy) (hpl : pl.size ≤ 140737488351232) (hgl : gy.length ≤ 4000000) :
    Calls Tryz.prog 20 #[.agg #[v, u, .int .i64 r, .int .i64 t], .agg #[.int .i64 ph, gv, .string pl]] w (RunRes (runOut (collF bs es r t ph gy pl) ⟨bs, es, r, t⟩ ⟨ph, gy, pl⟩) w) :=
  collect_Run' v u gv bs es r t ph pl gy w h g hg _ (mea_small hgl) hpl (by omega) phase_pos (fun w h g hg => collect_Check v u gv bs es r t ph pl gy w h g hg hpl (by omega))
    (fun v u gv S C w h g hg h1 h2 => collect_Tick v u gv S.blobs S.entries S.room S.clock C.phase C.place C.grey w h g hg h2 h1)
theorem ref_CollectRun (v u gv : Value) (bs : List Blob) (es : List Entry) (r t ph : Int) (pl : ByteArray) (gy : List ByteArray) (w : World) (h : RBl w v bs) (g : RE w u es) (hg : RT w gv gy) (hpl : pl.size ≤ 140737488351232) (hgl : gy.length ≤ 4000000) :
    Calls Tryz.prog 21 #[.agg #[v, u, .int .i64 r, .int .i64 t], .agg #[.int .i64 ph, gv, .string pl]] w (RunRes (runOut (collF bs es r t ph gy pl) ⟨bs, es, r, t⟩ ⟨ph, gy, pl⟩) w) :=
  ref_CollectRun' v u gv bs es r t ph pl gy w h g hg _ (mea_small hgl) hpl (by omega) phase_pos (fun w h g hg => ref_CollectFault v u gv bs es r t ph pl gy w h g hg hpl (by omega))
    (fun v u gv S C w h g hg h1 h2 => ref_CollectTick v u gv S.blobs S.entries S.room S.clock C.phase C.place C.grey w h g hg h2 h1)

set_option maxRecDepth 100000 in
set_option maxHeartbeats 2000000 in
theorem CollectRuns_walk' (v u gv : Value) (bs : List Blob) (es : List Entry) (r t ph : Int) (pl : ByteArray) (gy : List ByteArray) (w : World) (h : RBl w v bs) (g : RE w u es) (hg : RT w gv gy) (hpl : pl.size ≤ 140737488351232) (hgl : gy.length ≤ 4000000) :
    Calls Tryz.prog 6 #[.agg #[v, u, .int .i64 r, .int .i64 t], .agg #[.int .i64 ph, gv, .string pl]] w fun e w' => e = .returned (.bool true) ∧ Below w.heap.size w w' := by
  have f1 := hid fun w (h : RBl w v bs) (g : RE w u es) (hg : RT w gv gy) => collect_Run v u gv bs es r t ph pl gy w h g hg hpl hgl
  have f2 := hid fun w (h : RBl w v bs) (g : RE w u es) (hg : RT w gv gy) => ref_CollectRun v u gv bs es r t ph pl gy w h g hg hpl hgl
  have hR := hid h
  have hE := hid g
  have hG := hid hg
  obtain ⟨a, c, rfl, -⟩ := h
  obtain ⟨a2, c2, rfl, -⟩ := g
  obtain ⟨ga, gc, rfl, -⟩ := hg
  unfold RunRes VS at f1 f2
  generalize runOut (collF bs es r t ph gy pl) ⟨bs, es, r, t⟩ ⟨ph, gy, pl⟩ = R at *
  obtain ⟨z, ⟨B1, E1, r1, t1⟩, C1, TL⟩ := R
  simp only at f1 f2
  clear hpl hgl
  go_enter Tryz.func6, Tryz.ntmps6
  go_wp2_with fail
  ((with_reducible refine (f1.out _ (hR.out.mono EBlob.stable (b_alloc (b_alloc (Below.refl w.heap.size w) _) _)) (hE.out.mono EEntry.stable (b_alloc (b_alloc (Below.refl w.heap.size w) _) _)) (hG.out.mono EStr.stable (b_alloc (b_alloc (Below.refl w.heap.size w) _) _))).mono ?_); rintro e1 w1 ⟨_, pv1, rfl, ⟨A1, D1, rfl, ra1, rd1⟩, rp1, -, b1⟩)
  have hq_q_1 := hid (stays b1 (hold (heap_put w _ (w.heap.size) (by simp))))
  have hq_k_1 := hid (stays b1 (heap_put _ _ (w.heap.size + 1) (by simp)))
  have hb1 := hid (b_call (b_alloc (b_alloc (Below.refl w.heap.size w) _) _) b1)
  have r_R_1 := hid (hR.out.mono EBlob.stable (b_call (b_alloc (b_alloc (Below.refl w.heap.size w) _) _) b1))
  have r_E_1 := hid (hE.out.mono EEntry.stable (b_call (b_alloc (b_alloc (Below.refl w.heap.size w) _) _) b1))
  have r_G_1 := hid (hG.out.mono EStr.stable (b_call (b_alloc (b_alloc (Below.refl w.heap.size w) _) _) b1))
  have r_a1_1 := hid ra1
  have r_d1_1 := hid rd1
  have r_p1_1 := hid rp1
  clear ra1 rd1 rp1 b1
  obtain ⟨a_1, c_1, rfl, -⟩ := id r_a1_1.out
  obtain ⟨e_1, d_1, rfl, -⟩ := id r_d1_1.out
  obtain ⟨g_1, k_1, rfl, -⟩ := id r_p1_1.out
  obtain ⟨x_q_0, x_q_1, x_q_2, x_q_3⟩ := box4f hq_q_1.out
  have l_q := heap_lt hq_q_1.out
  obtain ⟨x_k_0, x_k_1, x_k_2, -⟩ := box3f hq_k_1.out
  have l_k := heap_lt hq_k_1.out
  go_wp2_with fail
  ((with_reducible refine (f2.out _ (r_R_1.out.mono EBlob.stable (b_alloc (Below.refl w1.heap.size w1) _)) (r_E_1.out.mono EEntry.stable (b_alloc (Below.refl w1.heap.size w1) _)) (r_G_1.out.mono EStr.stable (b_alloc (Below.refl w1.heap.size w1) _))).mono ?_); rintro e2 w2 ⟨_, pv2, rfl, ⟨A2, D2, rfl, ra2, rd2⟩, rp2, -, b2⟩)
  clear x_q_0 x_q_1 x_q_2 x_q_3 l_q x_k_0 x_k_1 x_k_2 l_k
  have hq_x1_2 := hid (stays b2 (heap_alloc_new w1 _))
  have hq_q_2 := hid (stays b2 (hold hq_q_1.out))
  have hq_k_2 := hid (stays b2 (hold hq_k_1.out))
  have hb2 := hid (b_call (b_alloc hb1.out _) b2)
  have r_R_2 := hid (r_R_1.out.mono EBlob.stable (b_call (b_alloc (Below.refl w1.heap.size w1) _) b2))
  have r_E_2 := hid (r_E_1.out.mono EEntry.stable (b_call (b_alloc (Below.refl w1.heap.size w1) _) b2))
  have r_G_2 := hid (r_G_1.out.mono EStr.stable (b_call (b_alloc (Below.refl w1.heap.size w1) _) b2))
  have r_a1_2 := hid (r_a1_1.out.mono EBlob.stable (b_call (b_alloc (Below.refl w1.heap.size w1) _) b2))
  have r_d1_2 := hid (r_d1_1.out.mono EEntry.stable (b_call (b_alloc (Below.refl w1.heap.size w1) _) b2))
  have r_p1_2 := hid (r_p1_1.out.mono EStr.stable (b_call (b_alloc (Below.refl w1.heap.size w1) _) b2))
  have r_a2_2 := hid ra2
  have r_d2_2 := hid rd2
  have r_p2_2 := hid rp2
  clear hq_q_1 hq_k_1 hb1 r_R_1 r_E_1 r_G_1 r_a1_1 r_d1_1 r_p1_1 ra2 rd2 rp2 b2
  obtain ⟨a_2, c_2, rfl, -⟩ := id r_a2_2.out
  obtain ⟨e_2, d_2, rfl, -⟩ := id r_d2_2.out
  obtain ⟨g_2, k_2, rfl, -⟩ := id r_p2_2.out
  obtain ⟨x_x1_0, x_x1_1, x_x1_2, x_x1_3⟩ := box4f hq_x1_2.out
  have l_x1 := heap_lt hq_x1_2.out
  obtain ⟨x_q_0, x_q_1, x_q_2, x_q_3⟩ := box4f hq_q_2.out
  have l_q := heap_lt hq_q_2.out
  obtain ⟨x_k_0, x_k_1, x_k_2, -⟩ := box3f hq_k_2.out
  have l_k := heap_lt hq_k_2.out
  go_wp2_with fail
  ((with_reducible refine (law_sameStore_yes _ _ _ _ B1 E1 r1 t1 _ (r_a1_2.out.mono EBlob.stable (b_alloc (Below.refl w2.heap.size w2) _)) (r_d1_2.out.mono EEntry.stable (b_alloc (Below.refl w2.heap.size w2) _)) (r_a2_2.out.mono EBlob.stable (b_alloc (Below.refl w2.heap.size w2) _)) (r_d2_2.out.mono EEntry.stable (b_alloc (Below.refl w2.heap.size w2) _))).mono ?_); rintro e3 w3 ⟨rfl, b3⟩)
  clear x_x1_0 x_x1_1 x_x1_2 x_x1_3 l_x1 x_q_0 x_q_1 x_q_2 x_q_3 l_q x_k_0 x_k_1 x_k_2 l_k
  have hq_x2_3 := hid (stays b3 (heap_alloc_new w2 _))
  have hq_x1_3 := hid (stays b3 (hold hq_x1_2.out))
  have hq_q_3 := hid (stays b3 (hold hq_q_2.out))
  have hq_k_3 := hid (stays b3 (hold hq_k_2.out))
  have hb3 := hid (b_call (b_alloc hb2.out _) b3)
  have r_R_3 := hid (r_R_2.out.mono EBlob.stable (b_call (b_alloc (Below.refl w2.heap.size w2) _) b3))
  have r_E_3 := hid (r_E_2.out.mono EEntry.stable (b_call (b_alloc (Below.refl w2.heap.size w2) _) b3))
  have r_G_3 := hid (r_G_2.out.mono EStr.stable (b_call (b_alloc (Below.refl w2.heap.size w2) _) b3))
  have r_a1_3 := hid (r_a1_2.out.mono EBlob.stable (b_call (b_alloc (Below.refl w2.heap.size w2) _) b3))
  have r_d1_3 := hid (r_d1_2.out.mono EEntry.stable (b_call (b_alloc (Below.refl w2.heap.size w2) _) b3))
  have r_p1_3 := hid (r_p1_2.out.mono EStr.stable (b_call (b_alloc (Below.refl w2.heap.size w2) _) b3))
  have r_a2_3 := hid (r_a2_2.out.mono EBlob.stable (b_call (b_alloc (Below.refl w2.heap.size w2) _) b3))
  have r_d2_3 := hid (r_d2_2.out.mono EEntry.stable (b_call (b_alloc (Below.refl w2.heap.size w2) _) b3))
  have r_p2_3 := hid (r_p2_2.out.mono EStr.stable (b_call (b_alloc (Below.refl w2.heap.size w2) _) b3))
  clear hq_x1_2 hq_q_2 hq_k_2 hb2 r_R_2 r_E_2 r_G_2 r_a1_2 r_d1_2 r_p1_2 r_a2_2 r_d2_2 r_p2_2 b3
  go_wp2_with fail
  ((with_reducible refine (law_sameTexts_yes _ _ _ TL r_p1_3.out r_p2_3.out).mono ?_); rintro e4 w4 ⟨rfl, b4⟩)
  have hq_x2_4 := hid (stays b4 hq_x2_3.out)
  have hq_x1_4 := hid (stays b4 hq_x1_3.out)
  have hq_q_4 := hid (stays b4 hq_q_3.out)
  have hq_k_4 := hid (stays b4 hq_k_3.out)
  have hb4 := hid (b_call hb3.out b4)
  have r_R_4 := hid (r_R_3.out.mono EBlob.stable (b_call (Below.refl w3.heap.size w3) b4))
  have r_E_4 := hid (r_E_3.out.mono EEntry.stable (b_call (Below.refl w3.heap.size w3) b4))
  have r_G_4 := hid (r_G_3.out.mono EStr.stable (b_call (Below.refl w3.heap.size w3) b4))
  have r_a1_4 := hid (r_a1_3.out.mono EBlob.stable (b_call (Below.refl w3.heap.size w3) b4))
  have r_d1_4 := hid (r_d1_3.out.mono EEntry.stable (b_call (Below.refl w3.heap.size w3) b4))
  have r_p1_4 := hid (r_p1_3.out.mono EStr.stable (b_call (Below.refl w3.heap.size w3) b4))
  have r_a2_4 := hid (r_a2_3.out.mono EBlob.stable (b_call (Below.refl w3.heap.size w3) b4))
  have r_d2_4 := hid (r_d2_3.out.mono EEntry.stable (b_call (Below.refl w3.heap.size w3) b4))
  have r_p2_4 := hid (r_p2_3.out.mono EStr.stable (b_call (Below.refl w3.heap.size w3) b4))
  clear hq_x2_3 hq_x1_3 hq_q_3 hq_k_3 hb3 r_R_3 r_E_3 r_G_3 r_a1_3 r_d1_3 r_p1_3 r_a2_3 r_d2_3 r_p2_3 b4
  have q2 : (z == z) = true := by simp
  go_wp2_with fail
  go_ret
  exact ⟨rfl, hb4.out⟩
theorem CollectRuns_walk (w : World) (cs : Array Value) (x : Store) (ds : Array Value) (y : Coll) (hx : VStore w cs.toList x) (hy : VColl w ds.toList y) (hgl : y.grey.length ≤ 1048576) :
    Calls Tryz.prog 6 #[.agg cs, .agg ds] w fun e w' => e = .returned (.bool true) ∧ Below w.heap.size w w' := by
  obtain ⟨bv, ev, hc, hp, he, -⟩ := hx
  obtain rfl : cs = #[bv, ev, .int .i64 x.room, .int .i64 x.clock] := by
    cases cs
    simp only at hc
    rw [hc]
  obtain ⟨gv, hd, hg, hpl, -⟩ := hy
  obtain rfl : ds = #[.int .i64 y.phase, gv, .string y.place] := by
    cases ds
    simp only at hd
    rw [hd]
  exact CollectRuns_walk' bv ev gv x.blobs x.entries x.room x.clock y.phase y.place y.grey w hp he hg hpl (by omega)
end Go.Proofs.YtpcnhldlfmdlhaaGreat
