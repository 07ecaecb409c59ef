/-
  barrier.Put and the reference over all arguments; the law BarrierPuts: its walk. Printed by gen_brw.py.
-/
import Derived.Test.YtkbijjglodnfbaaGreatQbBrP
import Derived.Test.YtkbijjglodnfbaaGreatQbBrQ
import Derived.Test.YtkbijjglodnfbaaGreatQbSpx
import Derived.Test.YtkbijjglodnfbaaGreatQbChc
import Derived.Test.YtkbijjglodnfbaaGreatQbOpC
namespace Go.Proofs.YtkbijjglodnfbaaGreat
open Go.RowKit

noncomputable def putOut (bs : List Blob) (es : List Entry) (r t ph : Int) (gy : List ByteArray) (pl : ByteArray) (s : ByteArray) (L : List Part) : CoOut := barOut (collF bs es r t ph gy pl) (spsE bs es r t s L) ⟨bs, putL (spX s L t) es, r, t + 1⟩ ph gy pl (L.map (·.digest))
theorem sps_parts {bs : List Blob} {es : List Entry} {r t ph : Int} {gy : List ByteArray} {pl s : ByteArray} {L : List Part} (_ : collF bs es r t ph gy pl = 0) (h : spsE bs es r t s L = 0) : L.length ≤ 8 := by
  unfold spsE at h
  have h3 : partsFault L = 0 := by
    apply Classical.byContradiction
    intro hn
    by_cases h1 : storeFault bs es r t = 0
    · by_cases h2 : hexFault s = 0
      · rw [h1, h2, spE_3 hn] at h; exact hn h
      · rw [h1, spE_2 h2] at h; exact h2 h
    · rw [spE_1 h1] at h; exact h1 h
  have := (partsFault_zero h3).1
  omega
theorem barrier_Put (v u gv : Value) (bs : List Blob) (es : List Entry) (r t ph : Int) (pl : ByteArray) (gy : List ByteArray) (b : Value) (s : ByteArray) (L : List Part) (w : World) (h : RBl w v bs) (g : RE w u es) (hg : RT w gv gy) (gd : RP w b L) (hs : s.size ≤ 140737488351232) (hpl : pl.size ≤ 140737488351232) (hgl : gy.length ≤ 8388608) :
    Calls Tryz.prog 35 #[.agg #[v, u, .int .i64 r, .int .i64 t], .agg #[.int .i64 ph, gv, .string pl], .string s, b] w (CoResO (putOut bs es r t ph gy pl s L) w) :=
  barrier_Put' v u gv bs es r t ph pl gy b s L w h g hg gd (collF bs es r t ph gy pl) (spsE bs es r t s L) bs (putL (spX s L t) es) r (t + 1) (sps_parts) hgl (fun w h g hg => collect_Check v u gv bs es r t ph pl gy w h g hg hpl hgl) (fun w h g gd => store_Put v u b bs es r t s L w h g gd hs)
theorem ref_KeptPut (v u gv : Value) (bs : List Blob) (es : List Entry) (r t ph : Int) (pl : ByteArray) (gy : List ByteArray) (b : Value) (s : ByteArray) (L : List Part) (w : World) (h : RBl w v bs) (g : RE w u es) (hg : RT w gv gy) (gd : RP w b L) (hs : s.size ≤ 140737488351232) (hpl : pl.size ≤ 140737488351232) (hgl : gy.length ≤ 8388608) :
    Calls Tryz.prog 36 #[.agg #[v, u, .int .i64 r, .int .i64 t], .agg #[.int .i64 ph, gv, .string pl], .string s, b] w (CoResO (putOut bs es r t ph gy pl s L) w) :=
  ref_KeptPut' v u gv bs es r t ph pl gy b s L w h g hg gd (collF bs es r t ph gy pl) (spsE bs es r t s L) bs (putL (spX s L t) es) r (t + 1) (sps_parts) hgl (fun w h g hg => ref_CollectFault v u gv bs es r t ph pl gy w h g hg hpl hgl) (fun w h g gd => ref_StorePut v u b bs es r t s L w h g gd hs)

set_option maxRecDepth 100000 in
set_option maxHeartbeats 2000000 in
theorem BarrierPuts_walk' (v u gv : Value) (bs : List Blob) (es : List Entry) (r t ph : Int) (pl : ByteArray) (gy : List ByteArray) (b : Value) (s : ByteArray) (L : List Part) (w : World) (h : RBl w v bs) (g : RE w u es) (hg : RT w gv gy) (gd : RP w b L) (hs : s.size ≤ 140737488351232) (hpl : pl.size ≤ 140737488351232) (hgl : gy.length ≤ 8388608) :
    Calls Tryz.prog 10 #[.agg #[v, u, .int .i64 r, .int .i64 t], .agg #[.int .i64 ph, gv, .string pl], .string s, b] w fun e w' => e = .returned (.bool true) ∧ Below w.heap.size w w' := by
  have f1 := hid fun w (h : RBl w v bs) (g : RE w u es) (hg : RT w gv gy) (gd : RP w b L) => barrier_Put v u gv bs es r t ph pl gy b s L w h g hg gd hs hpl hgl
  have f2 := hid fun w (h : RBl w v bs) (g : RE w u es) (hg : RT w gv gy) (gd : RP w b L) => ref_KeptPut v u gv bs es r t ph pl gy b s L w h g hg gd hs hpl hgl
  have hR := hid h
  have hE := hid g
  have hG := hid hg
  have hD := hid gd
  obtain ⟨a, c, rfl, -⟩ := h
  obtain ⟨a2, c2, rfl, -⟩ := g
  obtain ⟨ga, gc, rfl, -⟩ := hg
  unfold CoResO VS at f1 f2
  generalize hO : putOut bs es r t ph gy pl s L = S1 at *
  clear hO
  obtain ⟨err, ⟨B1, E1, r1, t1⟩, ⟨p1, G1, s1⟩⟩ := S1
  simp only at f1 f2
  clear hpl hgl
  go_enter Tryz.func10, Tryz.ntmps10
  go_wp2_with fail
  ((with_reducible refine (f1.out _ (hR.out.mono EBlob.stable (b_alloc (b_alloc (Below.refl w.heap.size w) _) _)) (hE.out.mono EEntry.stable (b_alloc (b_alloc (Below.refl w.heap.size w) _) _)) (hG.out.mono EStr.stable (b_alloc (b_alloc (Below.refl w.heap.size w) _) _)) (hD.out.mono EPart.stable (b_alloc (b_alloc (Below.refl w.heap.size w) _) _))).mono ?_); rintro e1 w1 ⟨_, _, rfl, ⟨A1, D1, rfl, ra1, rd1⟩, rg1, -, b1⟩)
  have hq_q_1 := hid (stays b1 (hold (heap_put w _ (w.heap.size) (by simp))))
  have hq_k_1 := hid (stays b1 (heap_put _ _ (w.heap.size + 1) (by simp)))
  have hb1 := hid (b_call (b_alloc (b_alloc (Below.refl w.heap.size w) _) _) b1)
  have r_R_1 := hid (hR.out.mono EBlob.stable (b_call (b_alloc (b_alloc (Below.refl w.heap.size w) _) _) b1))
  have r_E_1 := hid (hE.out.mono EEntry.stable (b_call (b_alloc (b_alloc (Below.refl w.heap.size w) _) _) b1))
  have r_G_1 := hid (hG.out.mono EStr.stable (b_call (b_alloc (b_alloc (Below.refl w.heap.size w) _) _) b1))
  have r_D_1 := hid (hD.out.mono EPart.stable (b_call (b_alloc (b_alloc (Below.refl w.heap.size w) _) _) b1))
  have r_a1_1 := hid ra1
  have r_d1_1 := hid rd1
  have r_g1_1 := hid rg1
  clear ra1 rd1 rg1 b1
  obtain ⟨a_1, c_1, rfl, -⟩ := id r_a1_1.out
  obtain ⟨e_1, d_1, rfl, -⟩ := id r_d1_1.out
  obtain ⟨g_1, h_1, rfl, -⟩ := id r_g1_1.out
  obtain ⟨x_q_0, x_q_1, x_q_2, x_q_3⟩ := box4f hq_q_1.out
  have l_q := heap_lt hq_q_1.out
  obtain ⟨x_k_0, x_k_1, x_k_2, -⟩ := box3f hq_k_1.out
  have l_k := heap_lt hq_k_1.out
  go_wp2_with fail
  ((with_reducible refine (f2.out _ (r_R_1.out.mono EBlob.stable (b_alloc (b_alloc (Below.refl w1.heap.size w1) _) _)) (r_E_1.out.mono EEntry.stable (b_alloc (b_alloc (Below.refl w1.heap.size w1) _) _)) (r_G_1.out.mono EStr.stable (b_alloc (b_alloc (Below.refl w1.heap.size w1) _) _)) (r_D_1.out.mono EPart.stable (b_alloc (b_alloc (Below.refl w1.heap.size w1) _) _))).mono ?_); rintro e2 w2 ⟨_, _, rfl, ⟨A2, D2, rfl, ra2, rd2⟩, rg2, -, b2⟩)
  clear x_q_0 x_q_1 x_q_2 x_q_3 l_q x_k_0 x_k_1 x_k_2 l_k
  have hq_x1_2 := hid (stays b2 (hold (heap_put w1 _ (w1.heap.size) (by simp))))
  have hq_n1_2 := hid (stays b2 (heap_put _ _ (w1.heap.size + 1) (by simp)))
  have hq_q_2 := hid (stays b2 (hold (hold hq_q_1.out)))
  have hq_k_2 := hid (stays b2 (hold (hold hq_k_1.out)))
  have hb2 := hid (b_call (b_alloc (b_alloc hb1.out _) _) b2)
  have r_R_2 := hid (r_R_1.out.mono EBlob.stable (b_call (b_alloc (b_alloc (Below.refl w1.heap.size w1) _) _) b2))
  have r_E_2 := hid (r_E_1.out.mono EEntry.stable (b_call (b_alloc (b_alloc (Below.refl w1.heap.size w1) _) _) b2))
  have r_G_2 := hid (r_G_1.out.mono EStr.stable (b_call (b_alloc (b_alloc (Below.refl w1.heap.size w1) _) _) b2))
  have r_D_2 := hid (r_D_1.out.mono EPart.stable (b_call (b_alloc (b_alloc (Below.refl w1.heap.size w1) _) _) b2))
  have r_a1_2 := hid (r_a1_1.out.mono EBlob.stable (b_call (b_alloc (b_alloc (Below.refl w1.heap.size w1) _) _) b2))
  have r_d1_2 := hid (r_d1_1.out.mono EEntry.stable (b_call (b_alloc (b_alloc (Below.refl w1.heap.size w1) _) _) b2))
  have r_g1_2 := hid (r_g1_1.out.mono EStr.stable (b_call (b_alloc (b_alloc (Below.refl w1.heap.size w1) _) _) b2))
  have r_a2_2 := hid ra2
  have r_d2_2 := hid rd2
  have r_g2_2 := hid rg2
  clear hq_q_1 hq_k_1 hb1 r_R_1 r_E_1 r_G_1 r_D_1 r_a1_1 r_d1_1 r_g1_1 ra2 rd2 rg2 b2
  obtain ⟨a_2, c_2, rfl, -⟩ := id r_a2_2.out
  obtain ⟨e_2, d_2, rfl, -⟩ := id r_d2_2.out
  obtain ⟨g_2, h_2, rfl, -⟩ := id r_g2_2.out
  obtain ⟨x_x1_0, x_x1_1, x_x1_2, x_x1_3⟩ := box4f hq_x1_2.out
  have l_x1 := heap_lt hq_x1_2.out
  obtain ⟨x_n1_0, x_n1_1, x_n1_2, -⟩ := box3f hq_n1_2.out
  have l_n1 := heap_lt hq_n1_2.out
  obtain ⟨x_q_0, x_q_1, x_q_2, x_q_3⟩ := box4f hq_q_2.out
  have l_q := heap_lt hq_q_2.out
  obtain ⟨x_k_0, x_k_1, x_k_2, -⟩ := box3f hq_k_2.out
  have l_k := heap_lt hq_k_2.out
  go_wp2_with fail
  ((with_reducible refine (law_sameStore_yes _ _ _ _ B1 E1 r1 t1 _ (r_a1_2.out.mono EBlob.stable (b_alloc (b_alloc (Below.refl w2.heap.size w2) _) _)) (r_d1_2.out.mono EEntry.stable (b_alloc (b_alloc (Below.refl w2.heap.size w2) _) _)) (r_a2_2.out.mono EBlob.stable (b_alloc (b_alloc (Below.refl w2.heap.size w2) _) _)) (r_d2_2.out.mono EEntry.stable (b_alloc (b_alloc (Below.refl w2.heap.size w2) _) _))).mono ?_); rintro e3 w3 ⟨rfl, b3⟩)
  clear x_x1_0 x_x1_1 x_x1_2 x_x1_3 l_x1 x_n1_0 x_n1_1 x_n1_2 l_n1 x_q_0 x_q_1 x_q_2 x_q_3 l_q x_k_0 x_k_1 x_k_2 l_k
  have hq_x2_3 := hid (stays b3 (hold (heap_put w2 _ (w2.heap.size) (by simp))))
  have hq_n2_3 := hid (stays b3 (heap_put _ _ (w2.heap.size + 1) (by simp)))
  have hq_x1_3 := hid (stays b3 (hold (hold hq_x1_2.out)))
  have hq_n1_3 := hid (stays b3 (hold (hold hq_n1_2.out)))
  have hq_q_3 := hid (stays b3 (hold (hold hq_q_2.out)))
  have hq_k_3 := hid (stays b3 (hold (hold hq_k_2.out)))
  have hb3 := hid (b_call (b_alloc (b_alloc hb2.out _) _) b3)
  have r_R_3 := hid (r_R_2.out.mono EBlob.stable (b_call (b_alloc (b_alloc (Below.refl w2.heap.size w2) _) _) b3))
  have r_E_3 := hid (r_E_2.out.mono EEntry.stable (b_call (b_alloc (b_alloc (Below.refl w2.heap.size w2) _) _) b3))
  have r_G_3 := hid (r_G_2.out.mono EStr.stable (b_call (b_alloc (b_alloc (Below.refl w2.heap.size w2) _) _) b3))
  have r_D_3 := hid (r_D_2.out.mono EPart.stable (b_call (b_alloc (b_alloc (Below.refl w2.heap.size w2) _) _) b3))
  have r_a1_3 := hid (r_a1_2.out.mono EBlob.stable (b_call (b_alloc (b_alloc (Below.refl w2.heap.size w2) _) _) b3))
  have r_d1_3 := hid (r_d1_2.out.mono EEntry.stable (b_call (b_alloc (b_alloc (Below.refl w2.heap.size w2) _) _) b3))
  have r_g1_3 := hid (r_g1_2.out.mono EStr.stable (b_call (b_alloc (b_alloc (Below.refl w2.heap.size w2) _) _) b3))
  have r_a2_3 := hid (r_a2_2.out.mono EBlob.stable (b_call (b_alloc (b_alloc (Below.refl w2.heap.size w2) _) _) b3))
  have r_d2_3 := hid (r_d2_2.out.mono EEntry.stable (b_call (b_alloc (b_alloc (Below.refl w2.heap.size w2) _) _) b3))
  have r_g2_3 := hid (r_g2_2.out.mono EStr.stable (b_call (b_alloc (b_alloc (Below.refl w2.heap.size w2) _) _) b3))
  clear hq_x1_2 hq_n1_2 hq_q_2 hq_k_2 hb2 r_R_2 r_E_2 r_G_2 r_D_2 r_a1_2 r_d1_2 r_g1_2 r_a2_2 r_d2_2 r_g2_2 b3
  obtain ⟨x_n1_0, x_n1_1, x_n1_2, -⟩ := box3f hq_n1_3.out
  obtain ⟨x_n2_0, x_n2_1, x_n2_2, -⟩ := box3f hq_n2_3.out
  go_wp2_with fail
  ((with_reducible refine (law_sameCollector_yes p1 _ _ s1 _ G1 r_g1_3.out r_g2_3.out).mono ?_); rintro e4 w4 ⟨rfl, b4⟩)
  clear x_n1_0 x_n1_1 x_n1_2 x_n2_0 x_n2_1 x_n2_2
  have hq_x2_4 := hid (stays b4 hq_x2_3.out)
  have hq_n2_4 := hid (stays b4 hq_n2_3.out)
  have hq_x1_4 := hid (stays b4 hq_x1_3.out)
  have hq_n1_4 := hid (stays b4 hq_n1_3.out)
  have hq_q_4 := hid (stays b4 hq_q_3.out)
  have hq_k_4 := hid (stays b4 hq_k_3.out)
  have hb4 := hid (b_call hb3.out b4)
  have r_R_4 := hid (r_R_3.out.mono EBlob.stable (b_call (Below.refl w3.heap.size w3) b4))
  have r_E_4 := hid (r_E_3.out.mono EEntry.stable (b_call (Below.refl w3.heap.size w3) b4))
  have r_G_4 := hid (r_G_3.out.mono EStr.stable (b_call (Below.refl w3.heap.size w3) b4))
  have r_D_4 := hid (r_D_3.out.mono EPart.stable (b_call (Below.refl w3.heap.size w3) b4))
  have r_a1_4 := hid (r_a1_3.out.mono EBlob.stable (b_call (Below.refl w3.heap.size w3) b4))
  have r_d1_4 := hid (r_d1_3.out.mono EEntry.stable (b_call (Below.refl w3.heap.size w3) b4))
  have r_g1_4 := hid (r_g1_3.out.mono EStr.stable (b_call (Below.refl w3.heap.size w3) b4))
  have r_a2_4 := hid (r_a2_3.out.mono EBlob.stable (b_call (Below.refl w3.heap.size w3) b4))
  have r_d2_4 := hid (r_d2_3.out.mono EEntry.stable (b_call (Below.refl w3.heap.size w3) b4))
  have r_g2_4 := hid (r_g2_3.out.mono EStr.stable (b_call (Below.refl w3.heap.size w3) b4))
  clear hq_x2_3 hq_n2_3 hq_x1_3 hq_n1_3 hq_q_3 hq_k_3 hb3 r_R_3 r_E_3 r_G_3 r_D_3 r_a1_3 r_d1_3 r_g1_3 r_a2_3 r_d2_3 r_g2_3 b4
  go_wp2_with fail
  go_ret
  exact ⟨rfl, hb4.out⟩
theorem BarrierPuts_walk (w : World) (cs : Array Value) (x : Store) (ds : Array Value) (y : Coll) (s : ByteArray) (b : Value) (L : List Part) (hx : VStore w cs.toList x) (hy : VColl w ds.toList y) (hs : s.size ≤ 140737488351232) (gd : RP w b L) (hgl : y.grey.length ≤ 4194304) :
    Calls Tryz.prog 10 #[.agg cs, .agg ds, .string s, b] w fun e w' => e = .returned (.bool true) ∧ Below w.heap.size w w' := by
  obtain ⟨bv, ev, hc, hp, he, -⟩ := hx
  obtain rfl : cs = #[bv, ev, .int .i64 x.room, .int .i64 x.clock] := by
    cases cs
    simp only at hc
    rw [hc]
  obtain ⟨gv, hd, hg, hpl, -⟩ := hy
  obtain rfl : ds = #[.int .i64 y.phase, gv, .string y.place] := by
    cases ds
    simp only at hd
    rw [hd]
  exact BarrierPuts_walk' bv ev gv x.blobs x.entries x.room x.clock y.phase y.place y.grey b s L w hp he hg gd hs hpl (by omega)
end Go.Proofs.YtkbijjglodnfbaaGreat
