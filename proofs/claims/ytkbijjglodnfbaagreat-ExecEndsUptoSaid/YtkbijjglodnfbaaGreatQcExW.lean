import Derived.Test.YtkbijjglodnfbaaGreatQcExI
import Derived.Test.YtkbijjglodnfbaaGreatQcExF
import Derived.Test.YtkbijjglodnfbaaGreatQcBpW
namespace Go.Proofs.YtkbijjglodnfbaaGreat
open Go.RowKit
noncomputable def exDone (bs : List Blob) (es : List Entry) (r t ph : Int) (pl : ByteArray) (gy : List ByteArray) (fl : List Flight) (s : ByteArray) (ps : List Part) : LfOut :=
 doneOut (loftF bs es r t ph gy pl fl) (endE (flightsFault fl) s fl) (putOut bs es r t ph gy pl s ps) (endL (flightsFault fl) s fl) (endW (flightsFault fl) s fl)
noncomputable def exFail (bs : List Blob) (es : List Entry) (r t ph : Int) (pl : ByteArray) (gy : List ByteArray) (fl : List Flight) (s : ByteArray) : LfOut :=
 failOut (loftF bs es r t ph gy pl fl) (endE (flightsFault fl) s fl) ⟨bs, es, r, t⟩ ⟨ph, gy, pl⟩ (endL (flightsFault fl) s fl) (endW (flightsFault fl) s fl)
theorem exec_Done (v u gv fv : Value) (bs : List Blob) (es : List Entry) (r t ph : Int) (pl : ByteArray) (gy : List ByteArray) (fl : List Flight) (s : ByteArray) (b : Value) (ps : List Part) (w : World) (h : RBl w v bs) (g : RE w u es) (hg : RT w gv gy) (hfl : RF w fv fl) (gd : RP w b ps) (hs : s.size ≤ 140737488351232) (hpl : pl.size ≤ 140737488351232) (hgl : gy.length ≤ 8388608) :
 Calls Tryz.prog 39 #[.agg #[v, u, .int .i64 r, .int .i64 t, .int .i64 ph, gv, .string pl, fv], .string s, b] w (LfRes (exDone bs es r t ph pl gy fl s ps) w) :=
 exec_Done' v u gv fv bs es r t ph pl gy fl s b ps w h g hg hfl gd _ _ _ _ _ (fun w h g hg hf => exec_Check v u gv fv bs es r t ph pl gy fl w h g hg hf hpl hgl)
  (fun w h => (flight_EndO fv fl s w h (flightsFault fl) (fun hz => flights_fit hz) (fun w h => flight_Check fv fl w h)).mono fun _ _ h => h) (fun w h g hg gd => barrier_Put v u gv bs es r t ph pl gy b s ps w h g hg gd hs hpl hgl)
theorem ref_LoftDone (v u gv fv : Value) (bs : List Blob) (es : List Entry) (r t ph : Int) (pl : ByteArray) (gy : List ByteArray) (fl : List Flight) (s : ByteArray) (b : Value) (ps : List Part) (w : World) (h : RBl w v bs) (g : RE w u es) (hg : RT w gv gy) (hfl : RF w fv fl) (gd : RP w b ps) (hs : s.size ≤ 140737488351232) (hpl : pl.size ≤ 140737488351232) (hgl : gy.length ≤ 8388608) :
 Calls Tryz.prog 41 #[.agg #[v, u, .int .i64 r, .int .i64 t, .int .i64 ph, gv, .string pl, fv], .string s, b] w (LfRes (exDone bs es r t ph pl gy fl s ps) w) :=
 ref_LoftDone' v u gv fv bs es r t ph pl gy fl s b ps w h g hg hfl gd _ _ _ _ _ (fun w h g hg hf => ref_LoftFault v u gv fv bs es r t ph pl gy fl w h g hg hf hpl hgl)
  (fun w h => (ref_FlightEndedO fv fl s w h (flightsFault fl) (fun hz => flights_fit hz) (fun w h => ref_FlightsFault fv fl w h)).mono fun _ _ h => h) (fun w h g hg gd => ref_KeptPut v u gv bs es r t ph pl gy b s ps w h g hg gd hs hpl hgl)
theorem exec_Failed (v u gv fv : Value) (bs : List Blob) (es : List Entry) (r t ph : Int) (pl : ByteArray) (gy : List ByteArray) (fl : List Flight) (s : ByteArray) (w : World) (h : RBl w v bs) (g : RE w u es) (hg : RT w gv gy) (hfl : RF w fv fl) (hpl : pl.size ≤ 140737488351232) (hgl : gy.length ≤ 8388608) :
 Calls Tryz.prog 40 #[.agg #[v, u, .int .i64 r, .int .i64 t, .int .i64 ph, gv, .string pl, fv], .string s] w (LfRes (exFail bs es r t ph pl gy fl s) w) :=
 exec_Failed' v u gv fv bs es r t ph pl gy fl s w h g hg hfl _ _ _ _ (fun w h g hg hf => exec_Check v u gv fv bs es r t ph pl gy fl w h g hg hf hpl hgl)
  (fun w h => (flight_EndO fv fl s w h (flightsFault fl) (fun hz => flights_fit hz) (fun w h => flight_Check fv fl w h)).mono fun _ _ h => h) (fun w h g hg hf => exec_CopyO v u gv fv bs es r t ph pl gy fl w h g hg hf)
theorem ref_LoftFailed (v u gv fv : Value) (bs : List Blob) (es : List Entry) (r t ph : Int) (pl : ByteArray) (gy : List ByteArray) (fl : List Flight) (s : ByteArray) (w : World) (h : RBl w v bs) (g : RE w u es) (hg : RT w gv gy) (hfl : RF w fv fl) (hpl : pl.size ≤ 140737488351232) (hgl : gy.length ≤ 8388608) :
 Calls Tryz.prog 42 #[.agg #[v, u, .int .i64 r, .int .i64 t, .int .i64 ph, gv, .string pl, fv], .string s] w (LfRes (exFail bs es r t ph pl gy fl s) w) :=
 ref_LoftFailed' v u gv fv bs es r t ph pl gy fl s w h g hg hfl _ _ _ _ (fun w h g hg hf => ref_LoftFault v u gv fv bs es r t ph pl gy fl w h g hg hf hpl hgl)
  (fun w h => (ref_FlightEndedO fv fl s w h (flightsFault fl) (fun hz => flights_fit hz) (fun w h => ref_FlightsFault fv fl w h)).mono fun _ _ h => h) (fun w h g hg hf => ref_LoftCopyO v u gv fv bs es r t ph pl gy fl w h g hg hf)
set_option maxRecDepth 100000 in
set_option maxHeartbeats 4000000 in
theorem ExecEnds_walk' (v u gv fv : Value) (bs : List Blob) (es : List Entry) (r t ph : Int) (pl : ByteArray) (gy : List ByteArray) (fl : List Flight) (s : ByteArray) (b : Value) (ps : List Part) (w : World) (h : RBl w v bs) (g : RE w u es) (hg : RT w gv gy) (hfl : RF w fv fl) (gd : RP w b ps) (hs : s.size ≤ 140737488351232) (hpl : pl.size ≤ 140737488351232) (hgl : gy.length ≤ 8388608) :
 Calls Tryz.prog 12 #[.agg #[v, u, .int .i64 r, .int .i64 t, .int .i64 ph, gv, .string pl, fv], .string s, b] w fun e w' => e = .returned (.bool true) ∧ Below w.heap.size w w' := by
 have f1 := hid fun w (h : RBl w v bs) (g : RE w u es) (hg : RT w gv gy) (hfl : RF w fv fl) (gd : RP w b ps) => exec_Done v u gv fv bs es r t ph pl gy fl s b ps w h g hg hfl gd hs hpl hgl
 have f2 := hid fun w (h : RBl w v bs) (g : RE w u es) (hg : RT w gv gy) (hfl : RF w fv fl) => exec_Failed v u gv fv bs es r t ph pl gy fl s w h g hg hfl hpl hgl
 have f3 := hid fun w (h : RBl w v bs) (g : RE w u es) (hg : RT w gv gy) (hfl : RF w fv fl) (gd : RP w b ps) => ref_LoftDone v u gv fv bs es r t ph pl gy fl s b ps w h g hg hfl gd hs hpl hgl
 have f4 := hid fun w (h : RBl w v bs) (g : RE w u es) (hg : RT w gv gy) (hfl : RF w fv fl) => ref_LoftFailed v u gv fv bs es r t ph pl gy fl s w h g hg hfl hpl hgl
 have hR := hid h
 have hE := hid g
 have hG := hid hg
 have hF := hid hfl
 have hD := hid gd
 obtain ⟨a, c, rfl, -⟩ := h
 obtain ⟨a2, c2, rfl, -⟩ := g
 obtain ⟨ga, gc, rfl, -⟩ := hg
 obtain ⟨fa, fc, rfl, -⟩ := hfl
 unfold LfRes at f1 f2 f3 f4
 generalize exDone bs es r t ph pl gy fl s ps = S1 at *
 generalize exFail bs es r t ph pl gy fl s = S2 at *
 obtain ⟨er1, ⟨B1, E1, r1, t1⟩, ⟨p1, G1, s1⟩, L1, H1⟩ := S1
 obtain ⟨er2, ⟨B2, E2, r2, t2⟩, ⟨p2, G2, s2⟩, L2, H2⟩ := S2
 simp only at f1 f2 f3 f4
 clear hpl hgl
 go_enter Tryz.func12, Tryz.ntmps12
 go_wp2_with fail
 ((with_reducible refine (f1.out _ (hR.out.mono EBlob.stable (b_alloc (Below.refl _ w) _)) (hE.out.mono EEntry.stable (b_alloc (Below.refl _ w) _)) (hG.out.mono EStr.stable (b_alloc (Below.refl _ w) _)) (hF.out.mono EFlight.stable (b_alloc (Below.refl _ w) _)) (hD.out.mono EPart.stable (b_alloc (Below.refl _ w) _))).mono ?_); rintro e1 w1 ⟨v1, v2, v3, v4, v5, rfl, q1_1, q2_1, q3_1, q4_1, q5_1, b1⟩)
 have hq_q_1 := hid (stays b1 (heap_alloc_new w _))
 have hb1 := hid (b_call (b_alloc (Below.refl _ w) _) b1)
 have r_R_1 := hid (hR.out.mono EBlob.stable (b_call (b_alloc (Below.refl _ w) _) b1))
 have r_E_1 := hid (hE.out.mono EEntry.stable (b_call (b_alloc (Below.refl _ w) _) b1))
 have r_G_1 := hid (hG.out.mono EStr.stable (b_call (b_alloc (Below.refl _ w) _) b1))
 have r_F_1 := hid (hF.out.mono EFlight.stable (b_call (b_alloc (Below.refl _ w) _) b1))
 have r_D_1 := hid (hD.out.mono EPart.stable (b_call (b_alloc (Below.refl _ w) _) b1))
 have r_a1_1 := hid q1_1
 have r_b1_1 := hid q2_1
 have r_c1_1 := hid q3_1
 have r_d1_1 := hid q4_1
 have r_e1_1 := hid q5_1
 clear q1_1 q2_1 q3_1 q4_1 q5_1 b1
 obtain ⟨ya1, za1, rfl, -⟩ := id r_a1_1.out
 obtain ⟨yb1, zb1, rfl, -⟩ := id r_b1_1.out
 obtain ⟨yc1, zc1, rfl, -⟩ := id r_c1_1.out
 obtain ⟨yd1, zd1, rfl, -⟩ := id r_d1_1.out
 obtain ⟨ye1, ze1, rfl, -⟩ := id r_e1_1.out
 obtain ⟨x_q_0, x_q_1, x_q_2, x_q_3, x_q_4, x_q_5, x_q_6, x_q_7⟩ := box8f hq_q_1.out
 have l_q := heap_lt hq_q_1.out
 go_wp2_with fail
 ((with_reducible refine (f2.out _ (r_R_1.out.mono EBlob.stable (b_alloc (Below.refl w1.heap.size w1) _)) (r_E_1.out.mono EEntry.stable (b_alloc (Below.refl w1.heap.size w1) _)) (r_G_1.out.mono EStr.stable (b_alloc (Below.refl w1.heap.size w1) _)) (r_F_1.out.mono EFlight.stable (b_alloc (Below.refl w1.heap.size w1) _))).mono ?_); rintro e2 w2 ⟨v1, v2, v3, v4, v5, rfl, q1_2, q2_2, q3_2, q4_2, q5_2, b2⟩)
 clear x_q_0 x_q_1 x_q_2 x_q_3 x_q_4 x_q_5 x_q_6 x_q_7 l_q
 have hq_x1_2 := hid (stays b2 (heap_alloc_new w1 _))
 have hq_q_2 := hid (stays b2 (hold hq_q_1.out))
 have hb2 := hid (b_call (b_alloc hb1.out _) b2)
 have r_R_2 := hid (r_R_1.out.mono EBlob.stable (b_call (b_alloc (Below.refl w1.heap.size w1) _) b2))
 have r_E_2 := hid (r_E_1.out.mono EEntry.stable (b_call (b_alloc (Below.refl w1.heap.size w1) _) b2))
 have r_G_2 := hid (r_G_1.out.mono EStr.stable (b_call (b_alloc (Below.refl w1.heap.size w1) _) b2))
 have r_F_2 := hid (r_F_1.out.mono EFlight.stable (b_call (b_alloc (Below.refl w1.heap.size w1) _) b2))
 have r_D_2 := hid (r_D_1.out.mono EPart.stable (b_call (b_alloc (Below.refl w1.heap.size w1) _) b2))
 have r_a1_2 := hid (r_a1_1.out.mono EBlob.stable (b_call (b_alloc (Below.refl w1.heap.size w1) _) b2))
 have r_b1_2 := hid (r_b1_1.out.mono EEntry.stable (b_call (b_alloc (Below.refl w1.heap.size w1) _) b2))
 have r_c1_2 := hid (r_c1_1.out.mono EStr.stable (b_call (b_alloc (Below.refl w1.heap.size w1) _) b2))
 have r_d1_2 := hid (r_d1_1.out.mono EFlight.stable (b_call (b_alloc (Below.refl w1.heap.size w1) _) b2))
 have r_e1_2 := hid (r_e1_1.out.mono EI.stable (b_call (b_alloc (Below.refl w1.heap.size w1) _) b2))
 have r_a2_2 := hid q1_2
 have r_b2_2 := hid q2_2
 have r_c2_2 := hid q3_2
 have r_d2_2 := hid q4_2
 have r_e2_2 := hid q5_2
 clear hq_q_1 hb1 r_R_1 r_E_1 r_G_1 r_F_1 r_D_1 r_a1_1 r_b1_1 r_c1_1 r_d1_1 r_e1_1 q1_2 q2_2 q3_2 q4_2 q5_2 b2
 obtain ⟨ya2, za2, rfl, -⟩ := id r_a2_2.out
 obtain ⟨yb2, zb2, rfl, -⟩ := id r_b2_2.out
 obtain ⟨yc2, zc2, rfl, -⟩ := id r_c2_2.out
 obtain ⟨yd2, zd2, rfl, -⟩ := id r_d2_2.out
 obtain ⟨ye2, ze2, rfl, -⟩ := id r_e2_2.out
 obtain ⟨x_x1_0, x_x1_1, x_x1_2, x_x1_3, x_x1_4, x_x1_5, x_x1_6, x_x1_7⟩ := box8f hq_x1_2.out
 have l_x1 := heap_lt hq_x1_2.out
 obtain ⟨x_q_0, x_q_1, x_q_2, x_q_3, x_q_4, x_q_5, x_q_6, x_q_7⟩ := box8f hq_q_2.out
 have l_q := heap_lt hq_q_2.out
 go_wp2_with fail
 ((with_reducible refine (f3.out _ (r_R_2.out.mono EBlob.stable (b_alloc (Below.refl w2.heap.size w2) _)) (r_E_2.out.mono EEntry.stable (b_alloc (Below.refl w2.heap.size w2) _)) (r_G_2.out.mono EStr.stable (b_alloc (Below.refl w2.heap.size w2) _)) (r_F_2.out.mono EFlight.stable (b_alloc (Below.refl w2.heap.size w2) _)) (r_D_2.out.mono EPart.stable (b_alloc (Below.refl w2.heap.size w2) _))).mono ?_); rintro e3 w3 ⟨v1, v2, v3, v4, v5, rfl, q1_3, q2_3, q3_3, q4_3, q5_3, b3⟩)
 clear x_x1_0 x_x1_1 x_x1_2 x_x1_3 x_x1_4 x_x1_5 x_x1_6 x_x1_7 l_x1 x_q_0 x_q_1 x_q_2 x_q_3 x_q_4 x_q_5 x_q_6 x_q_7 l_q
 have hq_x2_3 := hid (stays b3 (heap_alloc_new w2 _))
 have hq_x1_3 := hid (stays b3 (hold hq_x1_2.out))
 have hq_q_3 := hid (stays b3 (hold hq_q_2.out))
 have hb3 := hid (b_call (b_alloc hb2.out _) b3)
 have r_R_3 := hid (r_R_2.out.mono EBlob.stable (b_call (b_alloc (Below.refl w2.heap.size w2) _) b3))
 have r_E_3 := hid (r_E_2.out.mono EEntry.stable (b_call (b_alloc (Below.refl w2.heap.size w2) _) b3))
 have r_G_3 := hid (r_G_2.out.mono EStr.stable (b_call (b_alloc (Below.refl w2.heap.size w2) _) b3))
 have r_F_3 := hid (r_F_2.out.mono EFlight.stable (b_call (b_alloc (Below.refl w2.heap.size w2) _) b3))
 have r_D_3 := hid (r_D_2.out.mono EPart.stable (b_call (b_alloc (Below.refl w2.heap.size w2) _) b3))
 have r_a1_3 := hid (r_a1_2.out.mono EBlob.stable (b_call (b_alloc (Below.refl w2.heap.size w2) _) b3))
 have r_b1_3 := hid (r_b1_2.out.mono EEntry.stable (b_call (b_alloc (Below.refl w2.heap.size w2) _) b3))
 have r_c1_3 := hid (r_c1_2.out.mono EStr.stable (b_call (b_alloc (Below.refl w2.heap.size w2) _) b3))
 have r_d1_3 := hid (r_d1_2.out.mono EFlight.stable (b_call (b_alloc (Below.refl w2.heap.size w2) _) b3))
 have r_e1_3 := hid (r_e1_2.out.mono EI.stable (b_call (b_alloc (Below.refl w2.heap.size w2) _) b3))
 have r_a2_3 := hid (r_a2_2.out.mono EBlob.stable (b_call (b_alloc (Below.refl w2.heap.size w2) _) b3))
 have r_b2_3 := hid (r_b2_2.out.mono EEntry.stable (b_call (b_alloc (Below.refl w2.heap.size w2) _) b3))
 have r_c2_3 := hid (r_c2_2.out.mono EStr.stable (b_call (b_alloc (Below.refl w2.heap.size w2) _) b3))
 have r_d2_3 := hid (r_d2_2.out.mono EFlight.stable (b_call (b_alloc (Below.refl w2.heap.size w2) _) b3))
 have r_e2_3 := hid (r_e2_2.out.mono EI.stable (b_call (b_alloc (Below.refl w2.heap.size w2) _) b3))
 have r_a3_3 := hid q1_3
 have r_b3_3 := hid q2_3
 have r_c3_3 := hid q3_3
 have r_d3_3 := hid q4_3
 have r_e3_3 := hid q5_3
 clear hq_x1_2 hq_q_2 hb2 r_R_2 r_E_2 r_G_2 r_F_2 r_D_2 r_a1_2 r_b1_2 r_c1_2 r_d1_2 r_e1_2 r_a2_2 r_b2_2 r_c2_2 r_d2_2 r_e2_2 q1_3 q2_3 q3_3 q4_3 q5_3 b3
 obtain ⟨ya3, za3, rfl, -⟩ := id r_a3_3.out
 obtain ⟨yb3, zb3, rfl, -⟩ := id r_b3_3.out
 obtain ⟨yc3, zc3, rfl, -⟩ := id r_c3_3.out
 obtain ⟨yd3, zd3, rfl, -⟩ := id r_d3_3.out
 obtain ⟨ye3, ze3, rfl, -⟩ := id r_e3_3.out
 obtain ⟨x_x2_0, x_x2_1, x_x2_2, x_x2_3, x_x2_4, x_x2_5, x_x2_6, x_x2_7⟩ := box8f hq_x2_3.out
 have l_x2 := heap_lt hq_x2_3.out
 obtain ⟨x_x1_0, x_x1_1, x_x1_2, x_x1_3, x_x1_4, x_x1_5, x_x1_6, x_x1_7⟩ := box8f hq_x1_3.out
 have l_x1 := heap_lt hq_x1_3.out
 obtain ⟨x_q_0, x_q_1, x_q_2, x_q_3, x_q_4, x_q_5, x_q_6, x_q_7⟩ := box8f hq_q_3.out
 have l_q := heap_lt hq_q_3.out
 go_wp2_with fail
 ((with_reducible refine (f4.out _ (r_R_3.out.mono EBlob.stable (b_alloc (Below.refl w3.heap.size w3) _)) (r_E_3.out.mono EEntry.stable (b_alloc (Below.refl w3.heap.size w3) _)) (r_G_3.out.mono EStr.stable (b_alloc (Below.refl w3.heap.size w3) _)) (r_F_3.out.mono EFlight.stable (b_alloc (Below.refl w3.heap.size w3) _))).mono ?_); rintro e4 w4 ⟨v1, v2, v3, v4, v5, rfl, q1_4, q2_4, q3_4, q4_4, q5_4, b4⟩)
 clear x_x2_0 x_x2_1 x_x2_2 x_x2_3 x_x2_4 x_x2_5 x_x2_6 x_x2_7 l_x2 x_x1_0 x_x1_1 x_x1_2 x_x1_3 x_x1_4 x_x1_5 x_x1_6 x_x1_7 l_x1 x_q_0 x_q_1 x_q_2 x_q_3 x_q_4 x_q_5 x_q_6 x_q_7 l_q
 have hq_x3_4 := hid (stays b4 (heap_alloc_new w3 _))
 have hq_x2_4 := hid (stays b4 (hold hq_x2_3.out))
 have hq_x1_4 := hid (stays b4 (hold hq_x1_3.out))
 have hq_q_4 := hid (stays b4 (hold hq_q_3.out))
 have hb4 := hid (b_call (b_alloc hb3.out _) b4)
 have r_R_4 := hid (r_R_3.out.mono EBlob.stable (b_call (b_alloc (Below.refl w3.heap.size w3) _) b4))
 have r_E_4 := hid (r_E_3.out.mono EEntry.stable (b_call (b_alloc (Below.refl w3.heap.size w3) _) b4))
 have r_G_4 := hid (r_G_3.out.mono EStr.stable (b_call (b_alloc (Below.refl w3.heap.size w3) _) b4))
 have r_F_4 := hid (r_F_3.out.mono EFlight.stable (b_call (b_alloc (Below.refl w3.heap.size w3) _) b4))
 have r_D_4 := hid (r_D_3.out.mono EPart.stable (b_call (b_alloc (Below.refl w3.heap.size w3) _) b4))
 have r_a1_4 := hid (r_a1_3.out.mono EBlob.stable (b_call (b_alloc (Below.refl w3.heap.size w3) _) b4))
 have r_b1_4 := hid (r_b1_3.out.mono EEntry.stable (b_call (b_alloc (Below.refl w3.heap.size w3) _) b4))
 have r_c1_4 := hid (r_c1_3.out.mono EStr.stable (b_call (b_alloc (Below.refl w3.heap.size w3) _) b4))
 have r_d1_4 := hid (r_d1_3.out.mono EFlight.stable (b_call (b_alloc (Below.refl w3.heap.size w3) _) b4))
 have r_e1_4 := hid (r_e1_3.out.mono EI.stable (b_call (b_alloc (Below.refl w3.heap.size w3) _) b4))
 have r_a2_4 := hid (r_a2_3.out.mono EBlob.stable (b_call (b_alloc (Below.refl w3.heap.size w3) _) b4))
 have r_b2_4 := hid (r_b2_3.out.mono EEntry.stable (b_call (b_alloc (Below.refl w3.heap.size w3) _) b4))
 have r_c2_4 := hid (r_c2_3.out.mono EStr.stable (b_call (b_alloc (Below.refl w3.heap.size w3) _) b4))
 have r_d2_4 := hid (r_d2_3.out.mono EFlight.stable (b_call (b_alloc (Below.refl w3.heap.size w3) _) b4))
 have r_e2_4 := hid (r_e2_3.out.mono EI.stable (b_call (b_alloc (Below.refl w3.heap.size w3) _) b4))
 have r_a3_4 := hid (r_a3_3.out.mono EBlob.stable (b_call (b_alloc (Below.refl w3.heap.size w3) _) b4))
 have r_b3_4 := hid (r_b3_3.out.mono EEntry.stable (b_call (b_alloc (Below.refl w3.heap.size w3) _) b4))
 have r_c3_4 := hid (r_c3_3.out.mono EStr.stable (b_call (b_alloc (Below.refl w3.heap.size w3) _) b4))
 have r_d3_4 := hid (r_d3_3.out.mono EFlight.stable (b_call (b_alloc (Below.refl w3.heap.size w3) _) b4))
 have r_e3_4 := hid (r_e3_3.out.mono EI.stable (b_call (b_alloc (Below.refl w3.heap.size w3) _) b4))
 have r_a4_4 := hid q1_4
 have r_b4_4 := hid q2_4
 have r_c4_4 := hid q3_4
 have r_d4_4 := hid q4_4
 have r_e4_4 := hid q5_4
 clear hq_x2_3 hq_x1_3 hq_q_3 hb3 r_R_3 r_E_3 r_G_3 r_F_3 r_D_3 r_a1_3 r_b1_3 r_c1_3 r_d1_3 r_e1_3 r_a2_3 r_b2_3 r_c2_3 r_d2_3 r_e2_3 r_a3_3 r_b3_3 r_c3_3 r_d3_3 r_e3_3 q1_4 q2_4 q3_4 q4_4 q5_4 b4
 obtain ⟨ya4, za4, rfl, -⟩ := id r_a4_4.out
 obtain ⟨yb4, zb4, rfl, -⟩ := id r_b4_4.out
 obtain ⟨yc4, zc4, rfl, -⟩ := id r_c4_4.out
 obtain ⟨yd4, zd4, rfl, -⟩ := id r_d4_4.out
 obtain ⟨ye4, ze4, rfl, -⟩ := id r_e4_4.out
 obtain ⟨x_x3_0, x_x3_1, x_x3_2, x_x3_3, x_x3_4, x_x3_5, x_x3_6, x_x3_7⟩ := box8f hq_x3_4.out
 have l_x3 := heap_lt hq_x3_4.out
 obtain ⟨x_x2_0, x_x2_1, x_x2_2, x_x2_3, x_x2_4, x_x2_5, x_x2_6, x_x2_7⟩ := box8f hq_x2_4.out
 have l_x2 := heap_lt hq_x2_4.out
 obtain ⟨x_x1_0, x_x1_1, x_x1_2, x_x1_3, x_x1_4, x_x1_5, x_x1_6, x_x1_7⟩ := box8f hq_x1_4.out
 have l_x1 := heap_lt hq_x1_4.out
 obtain ⟨x_q_0, x_q_1, x_q_2, x_q_3, x_q_4, x_q_5, x_q_6, x_q_7⟩ := box8f hq_q_4.out
 have l_q := heap_lt hq_q_4.out
 go_wp2_with fail
 ((with_reducible refine (law_sameLoft_yes _ _ _ _ _ _ _ _ B1 E1 r1 t1 p1 s1 G1 L1 _ (r_a1_4.out.mono EBlob.stable (b_alloc (Below.refl w4.heap.size w4) _)) (r_b1_4.out.mono EEntry.stable (b_alloc (Below.refl w4.heap.size w4) _)) (r_c1_4.out.mono EStr.stable (b_alloc (Below.refl w4.heap.size w4) _)) (r_d1_4.out.mono EFlight.stable (b_alloc (Below.refl w4.heap.size w4) _)) (r_a3_4.out.mono EBlob.stable (b_alloc (Below.refl w4.heap.size w4) _)) (r_b3_4.out.mono EEntry.stable (b_alloc (Below.refl w4.heap.size w4) _)) (r_c3_4.out.mono EStr.stable (b_alloc (Below.refl w4.heap.size w4) _)) (r_d3_4.out.mono EFlight.stable (b_alloc (Below.refl w4.heap.size w4) _))).mono ?_); rintro e5 w5 ⟨rfl, b5⟩)
 clear x_x3_0 x_x3_1 x_x3_2 x_x3_3 x_x3_4 x_x3_5 x_x3_6 x_x3_7 l_x3 x_x2_0 x_x2_1 x_x2_2 x_x2_3 x_x2_4 x_x2_5 x_x2_6 x_x2_7 l_x2 x_x1_0 x_x1_1 x_x1_2 x_x1_3 x_x1_4 x_x1_5 x_x1_6 x_x1_7 l_x1 x_q_0 x_q_1 x_q_2 x_q_3 x_q_4 x_q_5 x_q_6 x_q_7 l_q
 have hq_x4_5 := hid (stays b5 (heap_alloc_new w4 _))
 have hq_x3_5 := hid (stays b5 (hold hq_x3_4.out))
 have hq_x2_5 := hid (stays b5 (hold hq_x2_4.out))
 have hq_x1_5 := hid (stays b5 (hold hq_x1_4.out))
 have hq_q_5 := hid (stays b5 (hold hq_q_4.out))
 have hb5 := hid (b_call (b_alloc hb4.out _) b5)
 have r_R_5 := hid (r_R_4.out.mono EBlob.stable (b_call (b_alloc (Below.refl w4.heap.size w4) _) b5))
 have r_E_5 := hid (r_E_4.out.mono EEntry.stable (b_call (b_alloc (Below.refl w4.heap.size w4) _) b5))
 have r_G_5 := hid (r_G_4.out.mono EStr.stable (b_call (b_alloc (Below.refl w4.heap.size w4) _) b5))
 have r_F_5 := hid (r_F_4.out.mono EFlight.stable (b_call (b_alloc (Below.refl w4.heap.size w4) _) b5))
 have r_D_5 := hid (r_D_4.out.mono EPart.stable (b_call (b_alloc (Below.refl w4.heap.size w4) _) b5))
 have r_a1_5 := hid (r_a1_4.out.mono EBlob.stable (b_call (b_alloc (Below.refl w4.heap.size w4) _) b5))
 have r_b1_5 := hid (r_b1_4.out.mono EEntry.stable (b_call (b_alloc (Below.refl w4.heap.size w4) _) b5))
 have r_c1_5 := hid (r_c1_4.out.mono EStr.stable (b_call (b_alloc (Below.refl w4.heap.size w4) _) b5))
 have r_d1_5 := hid (r_d1_4.out.mono EFlight.stable (b_call (b_alloc (Below.refl w4.heap.size w4) _) b5))
 have r_e1_5 := hid (r_e1_4.out.mono EI.stable (b_call (b_alloc (Below.refl w4.heap.size w4) _) b5))
 have r_a2_5 := hid (r_a2_4.out.mono EBlob.stable (b_call (b_alloc (Below.refl w4.heap.size w4) _) b5))
 have r_b2_5 := hid (r_b2_4.out.mono EEntry.stable (b_call (b_alloc (Below.refl w4.heap.size w4) _) b5))
 have r_c2_5 := hid (r_c2_4.out.mono EStr.stable (b_call (b_alloc (Below.refl w4.heap.size w4) _) b5))
 have r_d2_5 := hid (r_d2_4.out.mono EFlight.stable (b_call (b_alloc (Below.refl w4.heap.size w4) _) b5))
 have r_e2_5 := hid (r_e2_4.out.mono EI.stable (b_call (b_alloc (Below.refl w4.heap.size w4) _) b5))
 have r_a3_5 := hid (r_a3_4.out.mono EBlob.stable (b_call (b_alloc (Below.refl w4.heap.size w4) _) b5))
 have r_b3_5 := hid (r_b3_4.out.mono EEntry.stable (b_call (b_alloc (Below.refl w4.heap.size w4) _) b5))
 have r_c3_5 := hid (r_c3_4.out.mono EStr.stable (b_call (b_alloc (Below.refl w4.heap.size w4) _) b5))
 have r_d3_5 := hid (r_d3_4.out.mono EFlight.stable (b_call (b_alloc (Below.refl w4.heap.size w4) _) b5))
 have r_e3_5 := hid (r_e3_4.out.mono EI.stable (b_call (b_alloc (Below.refl w4.heap.size w4) _) b5))
 have r_a4_5 := hid (r_a4_4.out.mono EBlob.stable (b_call (b_alloc (Below.refl w4.heap.size w4) _) b5))
 have r_b4_5 := hid (r_b4_4.out.mono EEntry.stable (b_call (b_alloc (Below.refl w4.heap.size w4) _) b5))
 have r_c4_5 := hid (r_c4_4.out.mono EStr.stable (b_call (b_alloc (Below.refl w4.heap.size w4) _) b5))
 have r_d4_5 := hid (r_d4_4.out.mono EFlight.stable (b_call (b_alloc (Below.refl w4.heap.size w4) _) b5))
 have r_e4_5 := hid (r_e4_4.out.mono EI.stable (b_call (b_alloc (Below.refl w4.heap.size w4) _) b5))
 clear hq_x3_4 hq_x2_4 hq_x1_4 hq_q_4 hb4 r_R_4 r_E_4 r_G_4 r_F_4 r_D_4 r_a1_4 r_b1_4 r_c1_4 r_d1_4 r_e1_4 r_a2_4 r_b2_4 r_c2_4 r_d2_4 r_e2_4 r_a3_4 r_b3_4 r_c3_4 r_d3_4 r_e3_4 r_a4_4 r_b4_4 r_c4_4 r_d4_4 r_e4_4 b5
 obtain ⟨x_x4_0, x_x4_1, x_x4_2, x_x4_3, x_x4_4, x_x4_5, x_x4_6, x_x4_7⟩ := box8f hq_x4_5.out
 obtain ⟨x_x3_0, x_x3_1, x_x3_2, x_x3_3, x_x3_4, x_x3_5, x_x3_6, x_x3_7⟩ := box8f hq_x3_5.out
 obtain ⟨x_x2_0, x_x2_1, x_x2_2, x_x2_3, x_x2_4, x_x2_5, x_x2_6, x_x2_7⟩ := box8f hq_x2_5.out
 obtain ⟨x_x1_0, x_x1_1, x_x1_2, x_x1_3, x_x1_4, x_x1_5, x_x1_6, x_x1_7⟩ := box8f hq_x1_5.out
 obtain ⟨x_q_0, x_q_1, x_q_2, x_q_3, x_q_4, x_q_5, x_q_6, x_q_7⟩ := box8f hq_q_5.out
 go_wp2_with fail
 ((with_reducible refine (law_sameInts_yes _ _ _ H1 r_e1_5.out r_e3_5.out).mono ?_); rintro e6 w6 ⟨rfl, b6⟩)
 clear x_x4_0 x_x4_1 x_x4_2 x_x4_3 x_x4_4 x_x4_5 x_x4_6 x_x4_7 x_x3_0 x_x3_1 x_x3_2 x_x3_3 x_x3_4 x_x3_5 x_x3_6 x_x3_7 x_x2_0 x_x2_1 x_x2_2 x_x2_3 x_x2_4 x_x2_5 x_x2_6 x_x2_7 x_x1_0 x_x1_1 x_x1_2 x_x1_3 x_x1_4 x_x1_5 x_x1_6 x_x1_7 x_q_0 x_q_1 x_q_2 x_q_3 x_q_4 x_q_5 x_q_6 x_q_7
 have hq_x4_6 := hid (stays b6 hq_x4_5.out)
 have hq_x3_6 := hid (stays b6 hq_x3_5.out)
 have hq_x2_6 := hid (stays b6 hq_x2_5.out)
 have hq_x1_6 := hid (stays b6 hq_x1_5.out)
 have hq_q_6 := hid (stays b6 hq_q_5.out)
 have hb6 := hid (b_call hb5.out b6)
 have r_R_6 := hid (r_R_5.out.mono EBlob.stable (b_call (Below.refl w5.heap.size w5) b6))
 have r_E_6 := hid (r_E_5.out.mono EEntry.stable (b_call (Below.refl w5.heap.size w5) b6))
 have r_G_6 := hid (r_G_5.out.mono EStr.stable (b_call (Below.refl w5.heap.size w5) b6))
 have r_F_6 := hid (r_F_5.out.mono EFlight.stable (b_call (Below.refl w5.heap.size w5) b6))
 have r_D_6 := hid (r_D_5.out.mono EPart.stable (b_call (Below.refl w5.heap.size w5) b6))
 have r_a1_6 := hid (r_a1_5.out.mono EBlob.stable (b_call (Below.refl w5.heap.size w5) b6))
 have r_b1_6 := hid (r_b1_5.out.mono EEntry.stable (b_call (Below.refl w5.heap.size w5) b6))
 have r_c1_6 := hid (r_c1_5.out.mono EStr.stable (b_call (Below.refl w5.heap.size w5) b6))
 have r_d1_6 := hid (r_d1_5.out.mono EFlight.stable (b_call (Below.refl w5.heap.size w5) b6))
 have r_e1_6 := hid (r_e1_5.out.mono EI.stable (b_call (Below.refl w5.heap.size w5) b6))
 have r_a2_6 := hid (r_a2_5.out.mono EBlob.stable (b_call (Below.refl w5.heap.size w5) b6))
 have r_b2_6 := hid (r_b2_5.out.mono EEntry.stable (b_call (Below.refl w5.heap.size w5) b6))
 have r_c2_6 := hid (r_c2_5.out.mono EStr.stable (b_call (Below.refl w5.heap.size w5) b6))
 have r_d2_6 := hid (r_d2_5.out.mono EFlight.stable (b_call (Below.refl w5.heap.size w5) b6))
 have r_e2_6 := hid (r_e2_5.out.mono EI.stable (b_call (Below.refl w5.heap.size w5) b6))
 have r_a3_6 := hid (r_a3_5.out.mono EBlob.stable (b_call (Below.refl w5.heap.size w5) b6))
 have r_b3_6 := hid (r_b3_5.out.mono EEntry.stable (b_call (Below.refl w5.heap.size w5) b6))
 have r_c3_6 := hid (r_c3_5.out.mono EStr.stable (b_call (Below.refl w5.heap.size w5) b6))
 have r_d3_6 := hid (r_d3_5.out.mono EFlight.stable (b_call (Below.refl w5.heap.size w5) b6))
 have r_e3_6 := hid (r_e3_5.out.mono EI.stable (b_call (Below.refl w5.heap.size w5) b6))
 have r_a4_6 := hid (r_a4_5.out.mono EBlob.stable (b_call (Below.refl w5.heap.size w5) b6))
 have r_b4_6 := hid (r_b4_5.out.mono EEntry.stable (b_call (Below.refl w5.heap.size w5) b6))
 have r_c4_6 := hid (r_c4_5.out.mono EStr.stable (b_call (Below.refl w5.heap.size w5) b6))
 have r_d4_6 := hid (r_d4_5.out.mono EFlight.stable (b_call (Below.refl w5.heap.size w5) b6))
 have r_e4_6 := hid (r_e4_5.out.mono EI.stable (b_call (Below.refl w5.heap.size w5) b6))
 clear hq_x4_5 hq_x3_5 hq_x2_5 hq_x1_5 hq_q_5 hb5 r_R_5 r_E_5 r_G_5 r_F_5 r_D_5 r_a1_5 r_b1_5 r_c1_5 r_d1_5 r_e1_5 r_a2_5 r_b2_5 r_c2_5 r_d2_5 r_e2_5 r_a3_5 r_b3_5 r_c3_5 r_d3_5 r_e3_5 r_a4_5 r_b4_5 r_c4_5 r_d4_5 r_e4_5 b6
 obtain ⟨x_x4_0, x_x4_1, x_x4_2, x_x4_3, x_x4_4, x_x4_5, x_x4_6, x_x4_7⟩ := box8f hq_x4_6.out
 obtain ⟨x_x3_0, x_x3_1, x_x3_2, x_x3_3, x_x3_4, x_x3_5, x_x3_6, x_x3_7⟩ := box8f hq_x3_6.out
 obtain ⟨x_x2_0, x_x2_1, x_x2_2, x_x2_3, x_x2_4, x_x2_5, x_x2_6, x_x2_7⟩ := box8f hq_x2_6.out
 obtain ⟨x_x1_0, x_x1_1, x_x1_2, x_x1_3, x_x1_4, x_x1_5, x_x1_6, x_x1_7⟩ := box8f hq_x1_6.out
 obtain ⟨x_q_0, x_q_1, x_q_2, x_q_3, x_q_4, x_q_5, x_q_6, x_q_7⟩ := box8f hq_q_6.out
 go_wp2_with fail
 ((with_reducible refine (law_sameLoft_yes _ _ _ _ _ _ _ _ B2 E2 r2 t2 p2 s2 G2 L2 _ r_a2_6.out r_b2_6.out r_c2_6.out r_d2_6.out r_a4_6.out r_b4_6.out r_c4_6.out r_d4_6.out).mono ?_); rintro e7 w7 ⟨rfl, b7⟩)
 clear x_x4_0 x_x4_1 x_x4_2 x_x4_3 x_x4_4 x_x4_5 x_x4_6 x_x4_7 x_x3_0 x_x3_1 x_x3_2 x_x3_3 x_x3_4 x_x3_5 x_x3_6 x_x3_7 x_x2_0 x_x2_1 x_x2_2 x_x2_3 x_x2_4 x_x2_5 x_x2_6 x_x2_7 x_x1_0 x_x1_1 x_x1_2 x_x1_3 x_x1_4 x_x1_5 x_x1_6 x_x1_7 x_q_0 x_q_1 x_q_2 x_q_3 x_q_4 x_q_5 x_q_6 x_q_7
 have hq_x4_7 := hid (stays b7 hq_x4_6.out)
 have hq_x3_7 := hid (stays b7 hq_x3_6.out)
 have hq_x2_7 := hid (stays b7 hq_x2_6.out)
 have hq_x1_7 := hid (stays b7 hq_x1_6.out)
 have hq_q_7 := hid (stays b7 hq_q_6.out)
 have hb7 := hid (b_call hb6.out b7)
 have r_R_7 := hid (r_R_6.out.mono EBlob.stable (b_call (Below.refl w6.heap.size w6) b7))
 have r_E_7 := hid (r_E_6.out.mono EEntry.stable (b_call (Below.refl w6.heap.size w6) b7))
 have r_G_7 := hid (r_G_6.out.mono EStr.stable (b_call (Below.refl w6.heap.size w6) b7))
 have r_F_7 := hid (r_F_6.out.mono EFlight.stable (b_call (Below.refl w6.heap.size w6) b7))
 have r_D_7 := hid (r_D_6.out.mono EPart.stable (b_call (Below.refl w6.heap.size w6) b7))
 have r_a1_7 := hid (r_a1_6.out.mono EBlob.stable (b_call (Below.refl w6.heap.size w6) b7))
 have r_b1_7 := hid (r_b1_6.out.mono EEntry.stable (b_call (Below.refl w6.heap.size w6) b7))
 have r_c1_7 := hid (r_c1_6.out.mono EStr.stable (b_call (Below.refl w6.heap.size w6) b7))
 have r_d1_7 := hid (r_d1_6.out.mono EFlight.stable (b_call (Below.refl w6.heap.size w6) b7))
 have r_e1_7 := hid (r_e1_6.out.mono EI.stable (b_call (Below.refl w6.heap.size w6) b7))
 have r_a2_7 := hid (r_a2_6.out.mono EBlob.stable (b_call (Below.refl w6.heap.size w6) b7))
 have r_b2_7 := hid (r_b2_6.out.mono EEntry.stable (b_call (Below.refl w6.heap.size w6) b7))
 have r_c2_7 := hid (r_c2_6.out.mono EStr.stable (b_call (Below.refl w6.heap.size w6) b7))
 have r_d2_7 := hid (r_d2_6.out.mono EFlight.stable (b_call (Below.refl w6.heap.size w6) b7))
 have r_e2_7 := hid (r_e2_6.out.mono EI.stable (b_call (Below.refl w6.heap.size w6) b7))
 have r_a3_7 := hid (r_a3_6.out.mono EBlob.stable (b_call (Below.refl w6.heap.size w6) b7))
 have r_b3_7 := hid (r_b3_6.out.mono EEntry.stable (b_call (Below.refl w6.heap.size w6) b7))
 have r_c3_7 := hid (r_c3_6.out.mono EStr.stable (b_call (Below.refl w6.heap.size w6) b7))
 have r_d3_7 := hid (r_d3_6.out.mono EFlight.stable (b_call (Below.refl w6.heap.size w6) b7))
 have r_e3_7 := hid (r_e3_6.out.mono EI.stable (b_call (Below.refl w6.heap.size w6) b7))
 have r_a4_7 := hid (r_a4_6.out.mono EBlob.stable (b_call (Below.refl w6.heap.size w6) b7))
 have r_b4_7 := hid (r_b4_6.out.mono EEntry.stable (b_call (Below.refl w6.heap.size w6) b7))
 have r_c4_7 := hid (r_c4_6.out.mono EStr.stable (b_call (Below.refl w6.heap.size w6) b7))
 have r_d4_7 := hid (r_d4_6.out.mono EFlight.stable (b_call (Below.refl w6.heap.size w6) b7))
 have r_e4_7 := hid (r_e4_6.out.mono EI.stable (b_call (Below.refl w6.heap.size w6) b7))
 clear hq_x4_6 hq_x3_6 hq_x2_6 hq_x1_6 hq_q_6 hb6 r_R_6 r_E_6 r_G_6 r_F_6 r_D_6 r_a1_6 r_b1_6 r_c1_6 r_d1_6 r_e1_6 r_a2_6 r_b2_6 r_c2_6 r_d2_6 r_e2_6 r_a3_6 r_b3_6 r_c3_6 r_d3_6 r_e3_6 r_a4_6 r_b4_6 r_c4_6 r_d4_6 r_e4_6 b7
 obtain ⟨x_x4_0, x_x4_1, x_x4_2, x_x4_3, x_x4_4, x_x4_5, x_x4_6, x_x4_7⟩ := box8f hq_x4_7.out
 obtain ⟨x_x3_0, x_x3_1, x_x3_2, x_x3_3, x_x3_4, x_x3_5, x_x3_6, x_x3_7⟩ := box8f hq_x3_7.out
 obtain ⟨x_x2_0, x_x2_1, x_x2_2, x_x2_3, x_x2_4, x_x2_5, x_x2_6, x_x2_7⟩ := box8f hq_x2_7.out
 obtain ⟨x_x1_0, x_x1_1, x_x1_2, x_x1_3, x_x1_4, x_x1_5, x_x1_6, x_x1_7⟩ := box8f hq_x1_7.out
 obtain ⟨x_q_0, x_q_1, x_q_2, x_q_3, x_q_4, x_q_5, x_q_6, x_q_7⟩ := box8f hq_q_7.out
 go_wp2_with fail
 ((with_reducible refine (law_sameInts_yes _ _ _ H2 r_e2_7.out r_e4_7.out).mono ?_); rintro e8 w8 ⟨rfl, b8⟩)
 clear x_x4_0 x_x4_1 x_x4_2 x_x4_3 x_x4_4 x_x4_5 x_x4_6 x_x4_7 x_x3_0 x_x3_1 x_x3_2 x_x3_3 x_x3_4 x_x3_5 x_x3_6 x_x3_7 x_x2_0 x_x2_1 x_x2_2 x_x2_3 x_x2_4 x_x2_5 x_x2_6 x_x2_7 x_x1_0 x_x1_1 x_x1_2 x_x1_3 x_x1_4 x_x1_5 x_x1_6 x_x1_7 x_q_0 x_q_1 x_q_2 x_q_3 x_q_4 x_q_5 x_q_6 x_q_7
 have hq_x4_8 := hid (stays b8 hq_x4_7.out)
 have hq_x3_8 := hid (stays b8 hq_x3_7.out)
 have hq_x2_8 := hid (stays b8 hq_x2_7.out)
 have hq_x1_8 := hid (stays b8 hq_x1_7.out)
 have hq_q_8 := hid (stays b8 hq_q_7.out)
 have hb8 := hid (b_call hb7.out b8)
 have r_R_8 := hid (r_R_7.out.mono EBlob.stable (b_call (Below.refl w7.heap.size w7) b8))
 have r_E_8 := hid (r_E_7.out.mono EEntry.stable (b_call (Below.refl w7.heap.size w7) b8))
 have r_G_8 := hid (r_G_7.out.mono EStr.stable (b_call (Below.refl w7.heap.size w7) b8))
 have r_F_8 := hid (r_F_7.out.mono EFlight.stable (b_call (Below.refl w7.heap.size w7) b8))
 have r_D_8 := hid (r_D_7.out.mono EPart.stable (b_call (Below.refl w7.heap.size w7) b8))
 have r_a1_8 := hid (r_a1_7.out.mono EBlob.stable (b_call (Below.refl w7.heap.size w7) b8))
 have r_b1_8 := hid (r_b1_7.out.mono EEntry.stable (b_call (Below.refl w7.heap.size w7) b8))
 have r_c1_8 := hid (r_c1_7.out.mono EStr.stable (b_call (Below.refl w7.heap.size w7) b8))
 have r_d1_8 := hid (r_d1_7.out.mono EFlight.stable (b_call (Below.refl w7.heap.size w7) b8))
 have r_e1_8 := hid (r_e1_7.out.mono EI.stable (b_call (Below.refl w7.heap.size w7) b8))
 have r_a2_8 := hid (r_a2_7.out.mono EBlob.stable (b_call (Below.refl w7.heap.size w7) b8))
 have r_b2_8 := hid (r_b2_7.out.mono EEntry.stable (b_call (Below.refl w7.heap.size w7) b8))
 have r_c2_8 := hid (r_c2_7.out.mono EStr.stable (b_call (Below.refl w7.heap.size w7) b8))
 have r_d2_8 := hid (r_d2_7.out.mono EFlight.stable (b_call (Below.refl w7.heap.size w7) b8))
 have r_e2_8 := hid (r_e2_7.out.mono EI.stable (b_call (Below.refl w7.heap.size w7) b8))
 have r_a3_8 := hid (r_a3_7.out.mono EBlob.stable (b_call (Below.refl w7.heap.size w7) b8))
 have r_b3_8 := hid (r_b3_7.out.mono EEntry.stable (b_call (Below.refl w7.heap.size w7) b8))
 have r_c3_8 := hid (r_c3_7.out.mono EStr.stable (b_call (Below.refl w7.heap.size w7) b8))
 have r_d3_8 := hid (r_d3_7.out.mono EFlight.stable (b_call (Below.refl w7.heap.size w7) b8))
 have r_e3_8 := hid (r_e3_7.out.mono EI.stable (b_call (Below.refl w7.heap.size w7) b8))
 have r_a4_8 := hid (r_a4_7.out.mono EBlob.stable (b_call (Below.refl w7.heap.size w7) b8))
 have r_b4_8 := hid (r_b4_7.out.mono EEntry.stable (b_call (Below.refl w7.heap.size w7) b8))
 have r_c4_8 := hid (r_c4_7.out.mono EStr.stable (b_call (Below.refl w7.heap.size w7) b8))
 have r_d4_8 := hid (r_d4_7.out.mono EFlight.stable (b_call (Below.refl w7.heap.size w7) b8))
 have r_e4_8 := hid (r_e4_7.out.mono EI.stable (b_call (Below.refl w7.heap.size w7) b8))
 clear hq_x4_7 hq_x3_7 hq_x2_7 hq_x1_7 hq_q_7 hb7 r_R_7 r_E_7 r_G_7 r_F_7 r_D_7 r_a1_7 r_b1_7 r_c1_7 r_d1_7 r_e1_7 r_a2_7 r_b2_7 r_c2_7 r_d2_7 r_e2_7 r_a3_7 r_b3_7 r_c3_7 r_d3_7 r_e3_7 r_a4_7 r_b4_7 r_c4_7 r_d4_7 r_e4_7 b8
 obtain ⟨x_x4_0, x_x4_1, x_x4_2, x_x4_3, x_x4_4, x_x4_5, x_x4_6, x_x4_7⟩ := box8f hq_x4_8.out
 obtain ⟨x_x3_0, x_x3_1, x_x3_2, x_x3_3, x_x3_4, x_x3_5, x_x3_6, x_x3_7⟩ := box8f hq_x3_8.out
 obtain ⟨x_x2_0, x_x2_1, x_x2_2, x_x2_3, x_x2_4, x_x2_5, x_x2_6, x_x2_7⟩ := box8f hq_x2_8.out
 obtain ⟨x_x1_0, x_x1_1, x_x1_2, x_x1_3, x_x1_4, x_x1_5, x_x1_6, x_x1_7⟩ := box8f hq_x1_8.out
 obtain ⟨x_q_0, x_q_1, x_q_2, x_q_3, x_q_4, x_q_5, x_q_6, x_q_7⟩ := box8f hq_q_8.out
 go_wp2_with fail
 go_ret
 exact ⟨rfl, hb8.out⟩
theorem ExecEnds_walk (w : World) (cs : Array Value) (x : Loft) (s : ByteArray) (b : Value) (ps : List Part) (hx : VLoft w cs.toList x) (hs : s.size ≤ 140737488351232) (gd : RP w b ps) (hl : x.coll.grey.length ≤ 8388608) :
 Calls Tryz.prog 12 #[.agg cs, .string s, b] w fun e w' => e = .returned (.bool true) ∧ Below w.heap.size w w' := by
 obtain ⟨bv, ev, gv, fv, hc, hp, he, hg, hf, hpl, -⟩ := hx
 obtain rfl : cs = #[bv, ev, .int .i64 x.store.room, .int .i64 x.store.clock, .int .i64 x.coll.phase, gv, .string x.coll.place, fv] := by
  cases cs
  simp only at hc
  rw [hc]
 exact ExecEnds_walk' bv ev gv fv x.store.blobs x.store.entries x.store.room x.store.clock x.coll.phase x.coll.place x.coll.grey x.flights s b ps w hp he hg hf gd hs hpl hl
end Go.Proofs.YtkbijjglodnfbaaGreat
