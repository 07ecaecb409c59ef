/-
  stats.Count, stats.Lines and the references over all arguments; the law StatsTells: its walk. Printed by gen_stw.py.
-/
import Derived.Test.YtpcnhldlfmdlhaaGreatDoorSxStK
namespace Go.Proofs.YtpcnhldlfmdlhaaGreatDoor
open Go.RowKit

theorem loft_phase {bs : List Blob} {es : List Entry} {r t ph : Int} {gy : List ByteArray} {pl : ByteArray} {fl : List Flight} (h : loftF bs es r t ph gy pl fl = 0) : ph = 0 ∨ ph = 1 ∨ ph = 2 := by
  have hc : collF bs es r t ph gy pl = 0 := by
    apply Classical.byContradiction
    intro hn
    unfold loftF at h
    rw [loft_c hn] at h
    exact hn h
  have hs : shapeE ph gy pl = 0 := by
    apply Classical.byContradiction
    intro hn
    unfold collF at hc
    by_cases hz : storeFault bs es r t = 0
    · rw [hz, coll_s hn] at hc; exact hn hc
    · rw [coll_z hz] at hc; exact hz hc
  exact (shape_zero hs).1
theorem stats_Count (v u gv fv : Value) (bs : List Blob) (es : List Entry) (r t ph : Int) (pl : ByteArray) (gy : List ByteArray) (fl : List Flight) (w : World) (h : RBl w v bs) (g : RE w u es) (hg : RT w gv gy) (hfl : RF w fv fl) (hpl : pl.size ≤ 140737488351232) (hgl : gy.length ≤ 8388608) : Calls Tryz.prog 4 #[.agg #[v, u, .int .i64 r, .int .i64 t, .int .i64 ph, gv, .string pl, fv]] w (CntPost (loftF bs es r t ph gy pl fl) bs es fl w) :=
  stats_Count' v u gv fv bs es r t ph pl gy fl w h g hg hfl _ (fun w h g hg hf => exec_Check v u gv fv bs es r t ph pl gy fl w h g hg hf hpl hgl)
theorem ref_StatsCount (v u gv fv : Value) (bs : List Blob) (es : List Entry) (r t ph : Int) (pl : ByteArray) (gy : List ByteArray) (fl : List Flight) (w : World) (h : RBl w v bs) (g : RE w u es) (hg : RT w gv gy) (hfl : RF w fv fl) (hpl : pl.size ≤ 140737488351232) (hgl : gy.length ≤ 8388608) : Calls Tryz.prog 6 #[.agg #[v, u, .int .i64 r, .int .i64 t, .int .i64 ph, gv, .string pl, fv]] w (CntPost (loftF bs es r t ph gy pl fl) bs es fl w) :=
  ref_StatsCount' v u gv fv bs es r t ph pl gy fl w h g hg hfl _ (fun w h g hg hf => ref_LoftFault v u gv fv bs es r t ph pl gy fl w h g hg hf hpl hgl)
theorem stats_Lines (v u gv fv : Value) (bs : List Blob) (es : List Entry) (r t ph : Int) (pl : ByteArray) (gy : List ByteArray) (fl : List Flight) (w : World) (h : RBl w v bs) (g : RE w u es) (hg : RT w gv gy) (hfl : RF w fv fl) (hpl : pl.size ≤ 140737488351232) (hgl : gy.length ≤ 8388608) (hr : I64 r) (ht : Pow10 w) : Calls Tryz.prog 5 #[.agg #[v, u, .int .i64 r, .int .i64 t, .int .i64 ph, gv, .string pl, fv]] w (LnPost (loftF bs es r t ph gy pl fl) (linesL ph bs.length (used bs) es.length fl.length (waits fl) gy.length r) w) :=
  stats_Lines' v u gv fv bs es r t ph pl gy fl w h g hg hfl _ hr ht loft_phase (fun w h g hg hf => stats_Count v u gv fv bs es r t ph pl gy fl w h g hg hf hpl hgl)
theorem ref_StatsLines (v u gv fv : Value) (bs : List Blob) (es : List Entry) (r t ph : Int) (pl : ByteArray) (gy : List ByteArray) (fl : List Flight) (w : World) (h : RBl w v bs) (g : RE w u es) (hg : RT w gv gy) (hfl : RF w fv fl) (hpl : pl.size ≤ 140737488351232) (hgl : gy.length ≤ 8388608) (hr : I64 r) (ht : Pow10 w) : Calls Tryz.prog 7 #[.agg #[v, u, .int .i64 r, .int .i64 t, .int .i64 ph, gv, .string pl, fv]] w (LnPost (loftF bs es r t ph gy pl fl) (linesL ph bs.length (used bs) es.length fl.length (waits fl) gy.length r) w) :=
  ref_StatsLines' v u gv fv bs es r t ph pl gy fl w h g hg hfl _ hr ht loft_phase (fun w h g hg hf => ref_StatsCount v u gv fv bs es r t ph pl gy fl w h g hg hf hpl hgl)

set_option maxRecDepth 100000 in
set_option maxHeartbeats 4000000 in
theorem StatsTells_walk' (v u gv fv : Value) (bs : List Blob) (es : List Entry) (r t ph : Int) (pl : ByteArray) (gy : List ByteArray) (fl : List Flight) (w : World) (h : RBl w v bs) (g : RE w u es) (hg : RT w gv gy) (hfl : RF w fv fl) (hpl : pl.size ≤ 140737488351232) (hgl : gy.length ≤ 8388608) (hr : I64 r) (ht : Pow10 w) :
    Calls Tryz.prog 3 #[.agg #[v, u, .int .i64 r, .int .i64 t, .int .i64 ph, gv, .string pl, fv]] w fun e w' => e = .returned (.bool true) ∧ Below w.heap.size w w' := by
  have f1 := hid fun w (h : RBl w v bs) (g : RE w u es) (hg : RT w gv gy) (hfl : RF w fv fl) => stats_Count v u gv fv bs es r t ph pl gy fl w h g hg hfl hpl hgl
  have f2 := hid fun w (ht : Pow10 w) (h : RBl w v bs) (g : RE w u es) (hg : RT w gv gy) (hfl : RF w fv fl) => stats_Lines v u gv fv bs es r t ph pl gy fl w h g hg hfl hpl hgl hr ht
  have f3 := hid fun w (h : RBl w v bs) (g : RE w u es) (hg : RT w gv gy) (hfl : RF w fv fl) => ref_StatsCount v u gv fv bs es r t ph pl gy fl w h g hg hfl hpl hgl
  have f4 := hid fun w (ht : Pow10 w) (h : RBl w v bs) (g : RE w u es) (hg : RT w gv gy) (hfl : RF w fv fl) => ref_StatsLines v u gv fv bs es r t ph pl gy fl w h g hg hfl hpl hgl hr ht
  have hR := hid h
  have hE := hid g
  have hG := hid hg
  have hF := hid hfl
  obtain ⟨a, c, rfl, -⟩ := h
  obtain ⟨a2, c2, rfl, -⟩ := g
  obtain ⟨ga, gc, rfl, -⟩ := hg
  obtain ⟨fa, fc, rfl, -⟩ := hfl
  unfold CntPost at f1 f3
  unfold LnPost at f2 f4
  generalize linesL ph bs.length (used bs) es.length fl.length (waits fl) gy.length r = L at *
  generalize loftF bs es r t ph gy pl fl = z at *
  generalize (if z = 0 then L else []) = TL at *
  generalize cz z (bs.length : Int) = A1 at *
  generalize cz z (used bs) = A2 at *
  generalize cz z (es.length : Int) = A3 at *
  generalize cz z (waits fl) = A4 at *
  replace ht := hid ht
  clear hpl hgl hr
  have q1 : (A1 == A1) = true := by simp
  have q2 : (A2 == A2) = true := by simp
  have q3 : (A3 == A3) = true := by simp
  have q4 : (A4 == A4) = true := by simp
  have q5 : (z == z) = true := by simp
  go_enter Tryz.func3, Tryz.ntmps3
  go_wp2_with fail
  ((with_reducible refine (f1.out _ (hR.out.mono EBlob.stable (b_alloc (Below.refl w.heap.size w) _)) (hE.out.mono EEntry.stable (b_alloc (Below.refl w.heap.size w) _)) (hG.out.mono EStr.stable (b_alloc (Below.refl w.heap.size w) _)) (hF.out.mono EFlight.stable (b_alloc (Below.refl w.heap.size w) _))).mono ?_); rintro e1 w1 ⟨rfl, b1⟩)
  have hq_q_1 := hid (stays b1 (heap_alloc_new w _))
  have hb1 := hid (b_call (b_alloc (Below.refl w.heap.size w) _) b1)
  have r_R_1 := hid (hR.out.mono EBlob.stable (b_call (b_alloc (Below.refl w.heap.size w) _) b1))
  have r_E_1 := hid (hE.out.mono EEntry.stable (b_call (b_alloc (Below.refl w.heap.size w) _) b1))
  have r_G_1 := hid (hG.out.mono EStr.stable (b_call (b_alloc (Below.refl w.heap.size w) _) b1))
  have r_F_1 := hid (hF.out.mono EFlight.stable (b_call (b_alloc (Below.refl w.heap.size w) _) b1))
  clear b1
  obtain ⟨x_q_0, x_q_1, x_q_2, x_q_3, x_q_4, x_q_5, x_q_6, x_q_7⟩ := box8f hq_q_1.out
  have l_q := heap_lt hq_q_1.out
  go_wp2_with fail
  ((with_reducible refine (f2.out _ (tab_below ht.out hb1.out) r_R_1.out r_E_1.out r_G_1.out r_F_1.out).mono ?_); rintro e2 w2 ⟨v2, rfl, s2, b2⟩)
  clear x_q_0 x_q_1 x_q_2 x_q_3 x_q_4 x_q_5 x_q_6 x_q_7 l_q
  have hq_q_2 := hid (stays b2 hq_q_1.out)
  have hb2 := hid (b_call hb1.out b2)
  have r_R_2 := hid (r_R_1.out.mono EBlob.stable (b_call (Below.refl w1.heap.size w1) b2))
  have r_E_2 := hid (r_E_1.out.mono EEntry.stable (b_call (Below.refl w1.heap.size w1) b2))
  have r_G_2 := hid (r_G_1.out.mono EStr.stable (b_call (Below.refl w1.heap.size w1) b2))
  have r_F_2 := hid (r_F_1.out.mono EFlight.stable (b_call (Below.refl w1.heap.size w1) b2))
  have r_s_2 := hid s2
  clear hq_q_1 hb1 r_R_1 r_E_1 r_G_1 r_F_1 s2 b2
  obtain ⟨ys, zs, rfl, -⟩ := id r_s_2.out
  obtain ⟨x_q_0, x_q_1, x_q_2, x_q_3, x_q_4, x_q_5, x_q_6, x_q_7⟩ := box8f hq_q_2.out
  have l_q := heap_lt hq_q_2.out
  go_wp2_with fail
  ((with_reducible refine (f3.out _ r_R_2.out r_E_2.out r_G_2.out r_F_2.out).mono ?_); rintro e3 w3 ⟨rfl, b3⟩)
  clear x_q_0 x_q_1 x_q_2 x_q_3 x_q_4 x_q_5 x_q_6 x_q_7 l_q
  have hq_q_3 := hid (stays b3 hq_q_2.out)
  have hb3 := hid (b_call hb2.out b3)
  have r_R_3 := hid (r_R_2.out.mono EBlob.stable (b_call (Below.refl w2.heap.size w2) b3))
  have r_E_3 := hid (r_E_2.out.mono EEntry.stable (b_call (Below.refl w2.heap.size w2) b3))
  have r_G_3 := hid (r_G_2.out.mono EStr.stable (b_call (Below.refl w2.heap.size w2) b3))
  have r_F_3 := hid (r_F_2.out.mono EFlight.stable (b_call (Below.refl w2.heap.size w2) b3))
  have r_s_3 := hid (r_s_2.out.mono EStr.stable (b_call (Below.refl w2.heap.size w2) b3))
  clear hq_q_2 hb2 r_R_2 r_E_2 r_G_2 r_F_2 r_s_2 b3
  obtain ⟨x_q_0, x_q_1, x_q_2, x_q_3, x_q_4, x_q_5, x_q_6, x_q_7⟩ := box8f hq_q_3.out
  have l_q := heap_lt hq_q_3.out
  go_wp2_with fail
  ((with_reducible refine (f4.out _ (tab_below ht.out hb3.out) r_R_3.out r_E_3.out r_G_3.out r_F_3.out).mono ?_); rintro e4 w4 ⟨v4, rfl, s4, b4⟩)
  clear x_q_0 x_q_1 x_q_2 x_q_3 x_q_4 x_q_5 x_q_6 x_q_7 l_q
  have hq_q_4 := hid (stays b4 hq_q_3.out)
  have hb4 := hid (b_call hb3.out b4)
  have r_R_4 := hid (r_R_3.out.mono EBlob.stable (b_call (Below.refl w3.heap.size w3) b4))
  have r_E_4 := hid (r_E_3.out.mono EEntry.stable (b_call (Below.refl w3.heap.size w3) b4))
  have r_G_4 := hid (r_G_3.out.mono EStr.stable (b_call (Below.refl w3.heap.size w3) b4))
  have r_F_4 := hid (r_F_3.out.mono EFlight.stable (b_call (Below.refl w3.heap.size w3) b4))
  have r_s_4 := hid (r_s_3.out.mono EStr.stable (b_call (Below.refl w3.heap.size w3) b4))
  have r_t_4 := hid s4
  clear hq_q_3 hb3 r_R_3 r_E_3 r_G_3 r_F_3 r_s_3 s4 b4
  obtain ⟨yt, zt, rfl, -⟩ := id r_t_4.out
  obtain ⟨x_q_0, x_q_1, x_q_2, x_q_3, x_q_4, x_q_5, x_q_6, x_q_7⟩ := box8f hq_q_4.out
  have l_q := heap_lt hq_q_4.out
  go_wp2_with fail
  ((with_reducible refine (law_sameTexts_yes _ _ _ TL r_s_4.out r_t_4.out).mono ?_); rintro e5 w5 ⟨rfl, b5⟩)
  clear x_q_0 x_q_1 x_q_2 x_q_3 x_q_4 x_q_5 x_q_6 x_q_7 l_q
  have hq_q_5 := hid (stays b5 hq_q_4.out)
  have hb5 := hid (b_call hb4.out b5)
  have r_R_5 := hid (r_R_4.out.mono EBlob.stable (b_call (Below.refl w4.heap.size w4) b5))
  have r_E_5 := hid (r_E_4.out.mono EEntry.stable (b_call (Below.refl w4.heap.size w4) b5))
  have r_G_5 := hid (r_G_4.out.mono EStr.stable (b_call (Below.refl w4.heap.size w4) b5))
  have r_F_5 := hid (r_F_4.out.mono EFlight.stable (b_call (Below.refl w4.heap.size w4) b5))
  have r_s_5 := hid (r_s_4.out.mono EStr.stable (b_call (Below.refl w4.heap.size w4) b5))
  have r_t_5 := hid (r_t_4.out.mono EStr.stable (b_call (Below.refl w4.heap.size w4) b5))
  clear hq_q_4 hb4 r_R_4 r_E_4 r_G_4 r_F_4 r_s_4 r_t_4 b5
  go_wp2_with fail
  go_ret
  exact ⟨rfl, hb5.out⟩
theorem StatsTells_walk (w : World) (cs : Array Value) (x : Loft) (hx : VLoft w cs.toList x) (hl : x.coll.grey.length ≤ 8388608) (ht : Pow10 w) :
    Calls Tryz.prog 3 #[.agg cs] w fun e w' => e = .returned (.bool true) ∧ Below w.heap.size w w' := by
  obtain ⟨bv, ev, gv, fv, hc, hp, he, hg, hf, hpl, hwf, -⟩ := hx
  obtain rfl : cs = #[bv, ev, .int .i64 x.store.room, .int .i64 x.store.clock, .int .i64 x.coll.phase, gv, .string x.coll.place, fv] := by
    cases cs
    simp only at hc
    rw [hc]
  have hr : I64 x.store.room := by
    simp only [Lit.wf, IntKind.min, IntKind.max, IntKind.signed, IntKind.bits, Bool.and_eq_true, decide_eq_true_eq, if_true] at hwf
    unfold I64
    omega
  exact StatsTells_walk' bv ev gv fv x.store.blobs x.store.entries x.store.room x.store.clock x.coll.phase x.coll.place x.coll.grey x.flights w hp he hg hf hpl hl hr ht
end Go.Proofs.YtpcnhldlfmdlhaaGreatDoor
