/-
  exec.Ask and LoftAsked over all arguments; the law ExecAsks: its walk. Printed by gen_exc.py.
-/
import Derived.Test.YtpcnhldlfmdlhaaGreatQxExA
import Derived.Test.YtpcnhldlfmdlhaaGreatQxExB
import Derived.Test.YtpcnhldlfmdlhaaGreatQxGtx
import Derived.Test.YtpcnhldlfmdlhaaGreatQxFjW
namespace Go.Proofs.YtpcnhldlfmdlhaaGreat
open Go.RowKit

theorem askF_find (s : ByteArray) (es : List Entry) : (findE (fun x : Entry => x.key) s es == 0) = decide (atKey (fun x : Entry => x.key) s es < es.length) := by
  have hle := atKey_le (fun x : Entry => x.key) s es
  unfold findE
  by_cases h : atKey (fun x : Entry => x.key) s es = es.length
  · rw [if_pos h, h]
    simp
  · rw [if_neg h]
    simp
    omega
theorem someB_not (n : Int) : someB n = !decide (n < 1 ∨ 1000 < n) := by
  unfold someB
  by_cases h1 : n < 1
  · rw [decide_eq_false (by omega), decide_eq_true (Or.inl h1)]; rfl
  · by_cases h2 : 1000 < n
    · rw [decide_eq_false (by omega), decide_eq_true (Or.inr h2)]; rfl
    · rw [decide_eq_true (by omega), decide_eq_false (by omega)]; rfl
noncomputable def exAsk (bs : List Blob) (es : List Entry) (r t ph : Int) (pl : ByteArray) (gy : List ByteArray) (fl : List Flight) (s : ByteArray) (n : Int) : AkOut :=
  askOut (loftF bs es r t ph gy pl fl) (decide (atKey (fun x : Entry => x.key) s es < es.length)) (decide (n < 1 ∨ 1000 < n)) (gtE (storeFault bs es r t) s t es) ⟨bs, gtL s t es, r, t + 1⟩ (gtP s es)
    (joinE (flightsFault fl) (hexFault s) n s fl) (joinL (flightsFault fl) (hexFault s) n s fl) (joinB (flightsFault fl) (hexFault s) n s fl) ⟨bs, es, r, t⟩ ⟨ph, gy, pl⟩ fl
theorem exec_Ask (v u gv fv : Value) (bs : List Blob) (es : List Entry) (r t ph : Int) (pl : ByteArray) (gy : List ByteArray) (fl : List Flight) (s : ByteArray) (n : Int) (w : World) (h : RBl w v bs) (g : RE w u es) (hg : RT w gv gy) (hfl : RF w fv fl) (hs : s.size ≤ 140737488351232) (hwf : (Lit.int .i64 n).wf = true) (hpl : pl.size ≤ 140737488351232) (hgl : gy.length ≤ 8388608) :
    Calls Tryz.prog 24 #[.agg #[v, u, .int .i64 r, .int .i64 t, .int .i64 ph, gv, .string pl, fv], .string s, .int .i64 n] w (AkRes (exAsk bs es r t ph pl gy fl s n) w) :=
  exec_Ask' v u gv fv bs es r t ph pl gy fl s n w h g hg hfl _ _ _ _ _ _ _ _ _ _ _ (askF_find s es) rfl (fun w h g hg hf => exec_Check v u gv fv bs es r t ph pl gy fl w h g hg hf hpl hgl)
    (fun w h g hg hf => exec_CopyO v u gv fv bs es r t ph pl gy fl w h g hg hf) (fun w g => index_Find u es s w g) (fun w h g => store_Get v u bs es r t s w h g) (fun w h => flight_JoinA fv fl s n w h hs hwf)
theorem ref_LoftAsked (v u gv fv : Value) (bs : List Blob) (es : List Entry) (r t ph : Int) (pl : ByteArray) (gy : List ByteArray) (fl : List Flight) (s : ByteArray) (n : Int) (w : World) (h : RBl w v bs) (g : RE w u es) (hg : RT w gv gy) (hfl : RF w fv fl) (hs : s.size ≤ 140737488351232) (hwf : (Lit.int .i64 n).wf = true) (hpl : pl.size ≤ 140737488351232) (hgl : gy.length ≤ 8388608) :
    Calls Tryz.prog 25 #[.agg #[v, u, .int .i64 r, .int .i64 t, .int .i64 ph, gv, .string pl, fv], .string s, .int .i64 n] w (AkRes (exAsk bs es r t ph pl gy fl s n) w) :=
  ref_LoftAsked' v u gv fv bs es r t ph pl gy fl _ s n w h g hg hfl _ _ _ _ _ _ _ _ _ rfl (fun w h g hg hf => ref_LoftFault v u gv fv bs es r t ph pl gy fl w h g hg hf hpl hgl)
    (fun w h g hg hf => ref_LoftCopyO v u gv fv bs es r t ph pl gy fl w h g hg hf) (fun w g => ref_EntryAt u es s w g) (fun w => by rw [← someB_not]; exact ref_someone n w) (fun w h g => ref_StoreGet v u bs es r t s w h g) (fun w h => ref_FlightJoined fv fl s n w h hs hwf)

set_option maxRecDepth 100000 in
set_option maxHeartbeats 4000000 in
theorem ExecAsks_walk' (v u gv fv : Value) (bs : List Blob) (es : List Entry) (r t ph : Int) (pl : ByteArray) (gy : List ByteArray) (fl : List Flight) (s : ByteArray) (n : Int) (w : World) (h : RBl w v bs) (g : RE w u es) (hg : RT w gv gy) (hfl : RF w fv fl) (hs : s.size ≤ 140737488351232) (hwf : (Lit.int .i64 n).wf = true) (hpl : pl.size ≤ 140737488351232) (hgl : gy.length ≤ 8388608) :
    Calls Tryz.prog 7 #[.agg #[v, u, .int .i64 r, .int .i64 t, .int .i64 ph, gv, .string pl, fv], .string s, .int .i64 n] w fun e w' => e = .returned (.bool true) ∧ Below w.heap.size w w' := by
  have f1 := hid fun w (h : RBl w v bs) (g : RE w u es) (hg : RT w gv gy) (hfl : RF w fv fl) => exec_Ask v u gv fv bs es r t ph pl gy fl s n w h g hg hfl hs hwf hpl hgl
  have f2 := hid fun w (h : RBl w v bs) (g : RE w u es) (hg : RT w gv gy) (hfl : RF w fv fl) => ref_LoftAsked v u gv fv bs es r t ph pl gy fl s n w h g hg hfl hs hwf hpl hgl
  have hR := hid h
  have hE := hid g
  have hG := hid hg
  have hF := hid hfl
  obtain ⟨a, c, rfl, -⟩ := h
  obtain ⟨a2, c2, rfl, -⟩ := g
  obtain ⟨ga, gc, rfl, -⟩ := hg
  obtain ⟨fa, fc, rfl, -⟩ := hfl
  unfold AkRes at f1 f2
  generalize exAsk bs es r t ph pl gy fl s n = S1 at *
  obtain ⟨er1, ⟨B1, E1, r1, t1⟩, ⟨p1, G1, s1⟩, L1, H1, I1⟩ := S1
  simp only at f1 f2
  clear hpl hgl hwf hs
  go_enter Tryz.func7, Tryz.ntmps7
  go_wp2_with fail
  ((with_reducible refine (f1.out _ (hR.out.mono EBlob.stable (b_alloc (Below.refl w.heap.size w) _)) (hE.out.mono EEntry.stable (b_alloc (Below.refl w.heap.size w) _)) (hG.out.mono EStr.stable (b_alloc (Below.refl w.heap.size w) _)) (hF.out.mono EFlight.stable (b_alloc (Below.refl w.heap.size w) _))).mono ?_); rintro e1 w1 ⟨v1, v2, v3, v4, v5, rfl, q1_1, q2_1, q3_1, q4_1, q5_1, b1⟩)
  have hq_q_1 := hid (stays b1 (heap_alloc_new w _))
  have hb1 := hid (b_call (b_alloc (Below.refl w.heap.size w) _) b1)
  have r_R_1 := hid (hR.out.mono EBlob.stable (b_call (b_alloc (Below.refl w.heap.size w) _) b1))
  have r_E_1 := hid (hE.out.mono EEntry.stable (b_call (b_alloc (Below.refl w.heap.size w) _) b1))
  have r_G_1 := hid (hG.out.mono EStr.stable (b_call (b_alloc (Below.refl w.heap.size w) _) b1))
  have r_F_1 := hid (hF.out.mono EFlight.stable (b_call (b_alloc (Below.refl w.heap.size w) _) b1))
  have r_a1_1 := hid q1_1
  have r_b1_1 := hid q2_1
  have r_c1_1 := hid q3_1
  have r_d1_1 := hid q4_1
  have r_e1_1 := hid q5_1
  clear q1_1 q2_1 q3_1 q4_1 q5_1 b1
  obtain ⟨ya1, za1, rfl, -⟩ := id r_a1_1.out
  obtain ⟨yb1, zb1, rfl, -⟩ := id r_b1_1.out
  obtain ⟨yc1, zc1, rfl, -⟩ := id r_c1_1.out
  obtain ⟨yd1, zd1, rfl, -⟩ := id r_d1_1.out
  obtain ⟨ye1, ze1, rfl, -⟩ := id r_e1_1.out
  obtain ⟨x_q_0, x_q_1, x_q_2, x_q_3, x_q_4, x_q_5, x_q_6, x_q_7⟩ := box8f hq_q_1.out
  have l_q := heap_lt hq_q_1.out
  go_wp2_with fail
  ((with_reducible refine (f2.out _ (r_R_1.out.mono EBlob.stable (b_alloc (Below.refl w1.heap.size w1) _)) (r_E_1.out.mono EEntry.stable (b_alloc (Below.refl w1.heap.size w1) _)) (r_G_1.out.mono EStr.stable (b_alloc (Below.refl w1.heap.size w1) _)) (r_F_1.out.mono EFlight.stable (b_alloc (Below.refl w1.heap.size w1) _))).mono ?_); rintro e2 w2 ⟨v1, v2, v3, v4, v5, rfl, q1_2, q2_2, q3_2, q4_2, q5_2, b2⟩)
  clear x_q_0 x_q_1 x_q_2 x_q_3 x_q_4 x_q_5 x_q_6 x_q_7 l_q
  have hq_x1_2 := hid (stays b2 (heap_alloc_new w1 _))
  have hq_q_2 := hid (stays b2 (hold hq_q_1.out))
  have hb2 := hid (b_call (b_alloc hb1.out _) b2)
  have r_R_2 := hid (r_R_1.out.mono EBlob.stable (b_call (b_alloc (Below.refl w1.heap.size w1) _) b2))
  have r_E_2 := hid (r_E_1.out.mono EEntry.stable (b_call (b_alloc (Below.refl w1.heap.size w1) _) b2))
  have r_G_2 := hid (r_G_1.out.mono EStr.stable (b_call (b_alloc (Below.refl w1.heap.size w1) _) b2))
  have r_F_2 := hid (r_F_1.out.mono EFlight.stable (b_call (b_alloc (Below.refl w1.heap.size w1) _) b2))
  have r_a1_2 := hid (r_a1_1.out.mono EBlob.stable (b_call (b_alloc (Below.refl w1.heap.size w1) _) b2))
  have r_b1_2 := hid (r_b1_1.out.mono EEntry.stable (b_call (b_alloc (Below.refl w1.heap.size w1) _) b2))
  have r_c1_2 := hid (r_c1_1.out.mono EStr.stable (b_call (b_alloc (Below.refl w1.heap.size w1) _) b2))
  have r_d1_2 := hid (r_d1_1.out.mono EFlight.stable (b_call (b_alloc (Below.refl w1.heap.size w1) _) b2))
  have r_e1_2 := hid (r_e1_1.out.mono EPart.stable (b_call (b_alloc (Below.refl w1.heap.size w1) _) b2))
  have r_a2_2 := hid q1_2
  have r_b2_2 := hid q2_2
  have r_c2_2 := hid q3_2
  have r_d2_2 := hid q4_2
  have r_e2_2 := hid q5_2
  clear hq_q_1 hb1 r_R_1 r_E_1 r_G_1 r_F_1 r_a1_1 r_b1_1 r_c1_1 r_d1_1 r_e1_1 q1_2 q2_2 q3_2 q4_2 q5_2 b2
  obtain ⟨ya2, za2, rfl, -⟩ := id r_a2_2.out
  obtain ⟨yb2, zb2, rfl, -⟩ := id r_b2_2.out
  obtain ⟨yc2, zc2, rfl, -⟩ := id r_c2_2.out
  obtain ⟨yd2, zd2, rfl, -⟩ := id r_d2_2.out
  obtain ⟨ye2, ze2, rfl, -⟩ := id r_e2_2.out
  obtain ⟨x_x1_0, x_x1_1, x_x1_2, x_x1_3, x_x1_4, x_x1_5, x_x1_6, x_x1_7⟩ := box8f hq_x1_2.out
  have l_x1 := heap_lt hq_x1_2.out
  obtain ⟨x_q_0, x_q_1, x_q_2, x_q_3, x_q_4, x_q_5, x_q_6, x_q_7⟩ := box8f hq_q_2.out
  have l_q := heap_lt hq_q_2.out
  go_wp2_with fail
  ((with_reducible refine (law_sameLoft_yes _ _ _ _ _ _ _ _ B1 E1 r1 t1 p1 s1 G1 L1 _ (r_a1_2.out.mono EBlob.stable (b_alloc (Below.refl w2.heap.size w2) _)) (r_b1_2.out.mono EEntry.stable (b_alloc (Below.refl w2.heap.size w2) _)) (r_c1_2.out.mono EStr.stable (b_alloc (Below.refl w2.heap.size w2) _)) (r_d1_2.out.mono EFlight.stable (b_alloc (Below.refl w2.heap.size w2) _)) (r_a2_2.out.mono EBlob.stable (b_alloc (Below.refl w2.heap.size w2) _)) (r_b2_2.out.mono EEntry.stable (b_alloc (Below.refl w2.heap.size w2) _)) (r_c2_2.out.mono EStr.stable (b_alloc (Below.refl w2.heap.size w2) _)) (r_d2_2.out.mono EFlight.stable (b_alloc (Below.refl w2.heap.size w2) _))).mono ?_); rintro e3 w3 ⟨rfl, b3⟩)
  clear x_x1_0 x_x1_1 x_x1_2 x_x1_3 x_x1_4 x_x1_5 x_x1_6 x_x1_7 l_x1 x_q_0 x_q_1 x_q_2 x_q_3 x_q_4 x_q_5 x_q_6 x_q_7 l_q
  have hq_x2_3 := hid (stays b3 (heap_alloc_new w2 _))
  have hq_x1_3 := hid (stays b3 (hold hq_x1_2.out))
  have hq_q_3 := hid (stays b3 (hold hq_q_2.out))
  have hb3 := hid (b_call (b_alloc hb2.out _) b3)
  have r_R_3 := hid (r_R_2.out.mono EBlob.stable (b_call (b_alloc (Below.refl w2.heap.size w2) _) b3))
  have r_E_3 := hid (r_E_2.out.mono EEntry.stable (b_call (b_alloc (Below.refl w2.heap.size w2) _) b3))
  have r_G_3 := hid (r_G_2.out.mono EStr.stable (b_call (b_alloc (Below.refl w2.heap.size w2) _) b3))
  have r_F_3 := hid (r_F_2.out.mono EFlight.stable (b_call (b_alloc (Below.refl w2.heap.size w2) _) b3))
  have r_a1_3 := hid (r_a1_2.out.mono EBlob.stable (b_call (b_alloc (Below.refl w2.heap.size w2) _) b3))
  have r_b1_3 := hid (r_b1_2.out.mono EEntry.stable (b_call (b_alloc (Below.refl w2.heap.size w2) _) b3))
  have r_c1_3 := hid (r_c1_2.out.mono EStr.stable (b_call (b_alloc (Below.refl w2.heap.size w2) _) b3))
  have r_d1_3 := hid (r_d1_2.out.mono EFlight.stable (b_call (b_alloc (Below.refl w2.heap.size w2) _) b3))
  have r_e1_3 := hid (r_e1_2.out.mono EPart.stable (b_call (b_alloc (Below.refl w2.heap.size w2) _) b3))
  have r_a2_3 := hid (r_a2_2.out.mono EBlob.stable (b_call (b_alloc (Below.refl w2.heap.size w2) _) b3))
  have r_b2_3 := hid (r_b2_2.out.mono EEntry.stable (b_call (b_alloc (Below.refl w2.heap.size w2) _) b3))
  have r_c2_3 := hid (r_c2_2.out.mono EStr.stable (b_call (b_alloc (Below.refl w2.heap.size w2) _) b3))
  have r_d2_3 := hid (r_d2_2.out.mono EFlight.stable (b_call (b_alloc (Below.refl w2.heap.size w2) _) b3))
  have r_e2_3 := hid (r_e2_2.out.mono EPart.stable (b_call (b_alloc (Below.refl w2.heap.size w2) _) b3))
  clear hq_x1_2 hq_q_2 hb2 r_R_2 r_E_2 r_G_2 r_F_2 r_a1_2 r_b1_2 r_c1_2 r_d1_2 r_e1_2 r_a2_2 r_b2_2 r_c2_2 r_d2_2 r_e2_2 b3
  go_wp2_with fail
  ((with_reducible refine (law_sameParts_yes _ _ _ H1 r_e1_3.out r_e2_3.out).mono ?_); rintro e4 w4 ⟨rfl, b4⟩)
  have hq_x2_4 := hid (stays b4 hq_x2_3.out)
  have hq_x1_4 := hid (stays b4 hq_x1_3.out)
  have hq_q_4 := hid (stays b4 hq_q_3.out)
  have hb4 := hid (b_call hb3.out b4)
  have r_R_4 := hid (r_R_3.out.mono EBlob.stable (b_call (Below.refl w3.heap.size w3) b4))
  have r_E_4 := hid (r_E_3.out.mono EEntry.stable (b_call (Below.refl w3.heap.size w3) b4))
  have r_G_4 := hid (r_G_3.out.mono EStr.stable (b_call (Below.refl w3.heap.size w3) b4))
  have r_F_4 := hid (r_F_3.out.mono EFlight.stable (b_call (Below.refl w3.heap.size w3) b4))
  have r_a1_4 := hid (r_a1_3.out.mono EBlob.stable (b_call (Below.refl w3.heap.size w3) b4))
  have r_b1_4 := hid (r_b1_3.out.mono EEntry.stable (b_call (Below.refl w3.heap.size w3) b4))
  have r_c1_4 := hid (r_c1_3.out.mono EStr.stable (b_call (Below.refl w3.heap.size w3) b4))
  have r_d1_4 := hid (r_d1_3.out.mono EFlight.stable (b_call (Below.refl w3.heap.size w3) b4))
  have r_e1_4 := hid (r_e1_3.out.mono EPart.stable (b_call (Below.refl w3.heap.size w3) b4))
  have r_a2_4 := hid (r_a2_3.out.mono EBlob.stable (b_call (Below.refl w3.heap.size w3) b4))
  have r_b2_4 := hid (r_b2_3.out.mono EEntry.stable (b_call (Below.refl w3.heap.size w3) b4))
  have r_c2_4 := hid (r_c2_3.out.mono EStr.stable (b_call (Below.refl w3.heap.size w3) b4))
  have r_d2_4 := hid (r_d2_3.out.mono EFlight.stable (b_call (Below.refl w3.heap.size w3) b4))
  have r_e2_4 := hid (r_e2_3.out.mono EPart.stable (b_call (Below.refl w3.heap.size w3) b4))
  clear hq_x2_3 hq_x1_3 hq_q_3 hb3 r_R_3 r_E_3 r_G_3 r_F_3 r_a1_3 r_b1_3 r_c1_3 r_d1_3 r_e1_3 r_a2_3 r_b2_3 r_c2_3 r_d2_3 r_e2_3 b4
  have q1 : (I1 == I1) = true := by simp
  have q2 : (er1 == er1) = true := by simp
  go_wp2_with fail
  go_ret
  exact ⟨rfl, hb4.out⟩
theorem ExecAsks_walk (w : World) (cs : Array Value) (x : Loft) (s : ByteArray) (n : Int) (hx : VLoft w cs.toList x) (hs : s.size ≤ 140737488351232) (hwf : (Lit.int .i64 n).wf = true) (hl : x.coll.grey.length ≤ 8388608) :
    Calls Tryz.prog 7 #[.agg cs, .string s, .int .i64 n] w fun e w' => e = .returned (.bool true) ∧ Below w.heap.size w w' := by
  obtain ⟨bv, ev, gv, fv, hc, hp, he, hg, hf, hpl, -⟩ := hx
  obtain rfl : cs = #[bv, ev, .int .i64 x.store.room, .int .i64 x.store.clock, .int .i64 x.coll.phase, gv, .string x.coll.place, fv] := by
    cases cs
    simp only at hc
    rw [hc]
  exact ExecAsks_walk' bv ev gv fv x.store.blobs x.store.entries x.store.room x.store.clock x.coll.phase x.coll.place x.coll.grey x.flights s n w hp he hg hf hs hwf hpl hl
end Go.Proofs.YtpcnhldlfmdlhaaGreat
