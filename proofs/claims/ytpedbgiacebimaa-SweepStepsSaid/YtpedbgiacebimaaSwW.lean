/-
  sweep.Step and the reference's Swept over all arguments; the law SweepSteps: its walk. Printed by gen_sww.py.
-/
import Derived.Test.YtpedbgiacebimaaSwi
import Derived.Test.YtpedbgiacebimaaSwr
import Derived.Test.YtpedbgiacebimaaOpC
namespace Go.Proofs.Ytpedbgiacebimaa
open Go.RowKit

def swAll (s : ByteArray) (ph : Int) (bs : List Blob) (es : List Entry) (r t : Int) : SwOut :=
  swOut (storeFault bs es r t) (storeFault (bs.take (swAt s bs) ++ bs.drop (swAt s bs + 1)) es r t) ph (swAt s bs) bs es r t
theorem sweep_Step (v u gv : Value) (bs : List Blob) (es : List Entry) (r t ph : Int) (s : ByteArray) (w : World) (h : RBl w v bs) (g : RE w u es) (hgv : ∃ a n c, gv = .slice a n c) :
    Calls Try.prog 16 #[.agg #[v, u, .int .i64 r, .int .i64 t], .agg #[.int .i64 ph, gv, .string s]] w (SwRes (swAll s ph bs es r t) w) :=
  sweep_Step' v u gv bs es r t ph s w h g _ _ hgv (fun w h g => store_Check v u bs es r t w h g) (fun v u w h g => store_Check v u _ es r t w h g)
theorem ref_Swept (v u gv : Value) (bs : List Blob) (es : List Entry) (r t ph : Int) (s : ByteArray) (w : World) (h : RBl w v bs) (g : RE w u es) (hgv : ∃ a n c, gv = .slice a n c) :
    Calls Try.prog 18 #[.agg #[v, u, .int .i64 r, .int .i64 t], .agg #[.int .i64 ph, gv, .string s]] w (SwRes (swAll s ph bs es r t) w) :=
  ref_Swept' v u gv bs es r t ph s w h g _ _ hgv (fun w h g => ref_StoreFault v u bs es r t w h g) (fun v u w h g => ref_StoreFault v u _ es r t w h g)

set_option maxRecDepth 100000 in
set_option maxHeartbeats 1000000 in
theorem SweepSteps_walk' (v u gv : Value) (bs : List Blob) (es : List Entry) (r t ph : Int) (s : ByteArray) (w : World) (h : RBl w v bs) (g : RE w u es) (hgv : ∃ a n c, gv = .slice a n c) :
    Calls Try.prog 5 #[.agg #[v, u, .int .i64 r, .int .i64 t], .agg #[.int .i64 ph, gv, .string s]] w fun e w' => e = .returned (.bool true) ∧ Below w.heap.size w w' := by
  have f0 := hid fun w (h : RBl w v bs) => sweep_Next v bs s w h
  have f1 := hid fun w (h : RBl w v bs) (g : RE w u es) => sweep_Step v u gv bs es r t ph s w h g hgv
  have f3 := hid fun w (h : RBl w v bs) => (ref_SweepNext v bs s w h).mono (fun e w' ⟨h1, h2⟩ => (⟨h1, h2 ▸ Below.refl _ _⟩ : _ ∧ Below w.heap.size w w'))
  have f2 := hid fun w (h : RBl w v bs) (g : RE w u es) => ref_Swept v u gv bs es r t ph s w h g hgv
  have hR := hid h
  have hE := hid g
  have hsi : swI s bs = if swAt s bs = bs.length then 0 else (swAt s bs : Int) := rfl
  have hse : swE s bs = if swAt s bs = bs.length then 5 else 0 := rfl
  obtain ⟨a, c, rfl, -⟩ := h
  obtain ⟨a2, c2', rfl, -⟩ := g
  obtain ⟨ga, gn, gc, rfl⟩ := hgv
  unfold SwRes VS at f1 f2
  generalize swAll s ph bs es r t = S1 at *
  obtain ⟨err, ⟨B1, E1, r1, t1⟩, p1, pl, gone⟩ := S1
  simp only at f1 f2
  generalize swAt s bs = i at *
  by_cases hi : i = bs.length
  · rw [if_pos hi] at hsi hse
    rw [hsi, hse] at f0
    clear hsi hse
    subst hi
    go_enter Try.func5, Try.ntmps5
    go_wp2_with fail
    ((with_reducible refine (f0.out _ (hR.out.mono EBlob.stable (b_alloc (b_alloc (Below.refl w.heap.size w) (Obj.cells #[.slice a bs.length c, .slice a2 es.length c2', .int .i64 r, .int .i64 t] 39)) (Obj.cells #[.int .i64 ph, .slice ga gn gc, .string s] 42)))).mono ?_); rintro e1 w1 ⟨rfl, b1⟩)
    have hq_q_1 := hid (stays b1 ((heap_alloc_old (w.alloc (Obj.cells #[.slice a bs.length c, .slice a2 es.length c2', .int .i64 r, .int .i64 t] 39)) (Obj.cells #[.int .i64 ph, .slice ga gn gc, .string s] 42) (heap_lt (heap_put w (Obj.cells #[.slice a bs.length c, .slice a2 es.length c2', .int .i64 r, .int .i64 t] 39) (w.heap.size) (by simp)))).trans (heap_put w (Obj.cells #[.slice a bs.length c, .slice a2 es.length c2', .int .i64 r, .int .i64 t] 39) (w.heap.size) (by simp))))
    have hq_k_1 := hid (stays b1 (heap_put (w.alloc (Obj.cells #[.slice a bs.length c, .slice a2 es.length c2', .int .i64 r, .int .i64 t] 39)) (Obj.cells #[.int .i64 ph, .slice ga gn gc, .string s] 42) (w.heap.size + 1) (by simp)))
    have hb1 := hid (b_call (b_alloc (b_alloc (Below.refl w.heap.size w) (Obj.cells #[.slice a bs.length c, .slice a2 es.length c2', .int .i64 r, .int .i64 t] 39)) (Obj.cells #[.int .i64 ph, .slice ga gn gc, .string s] 42)) b1)
    have r_R_1 := hid (hR.out.mono EBlob.stable (b_call (b_alloc (b_alloc (Below.refl w.heap.size w) (Obj.cells #[.slice a bs.length c, .slice a2 es.length c2', .int .i64 r, .int .i64 t] 39)) (Obj.cells #[.int .i64 ph, .slice ga gn gc, .string s] 42)) b1))
    have r_E_1 := hid (hE.out.mono EEntry.stable (b_call (b_alloc (b_alloc (Below.refl w.heap.size w) (Obj.cells #[.slice a bs.length c, .slice a2 es.length c2', .int .i64 r, .int .i64 t] 39)) (Obj.cells #[.int .i64 ph, .slice ga gn gc, .string s] 42)) b1))
    clear b1
    obtain ⟨x_q_0, x_q_1, x_q_2, x_q_3⟩ := box4f hq_q_1.out
    have l_q := heap_lt hq_q_1.out
    obtain ⟨x_k_0, x_k_1, x_k_2, -⟩ := box3f hq_k_1.out
    have l_k := heap_lt hq_k_1.out
    go_wp2_with fail
    ((with_reducible refine (f1.out _ r_R_1.out r_E_1.out).mono ?_); rintro e2 w2 ⟨_, rfl, ⟨A1, D1, rfl, ra1, rd1⟩, b2⟩)
    clear x_q_0 x_q_1 x_q_2 x_q_3 l_q x_k_0 x_k_1 x_k_2 l_k
    have hq_q_2 := hid (stays b2 hq_q_1.out)
    have hq_k_2 := hid (stays b2 hq_k_1.out)
    have hb2 := hid (b_call hb1.out b2)
    have r_R_2 := hid (r_R_1.out.mono EBlob.stable (b_call (Below.refl w1.heap.size w1) b2))
    have r_E_2 := hid (r_E_1.out.mono EEntry.stable (b_call (Below.refl w1.heap.size w1) b2))
    have r_a1_2 := hid ra1
    have r_d1_2 := hid rd1
    clear hq_q_1 hq_k_1 hb1 r_R_1 r_E_1 ra1 rd1 b2
    obtain ⟨a_1, c_1, rfl, -⟩ := id r_a1_2.out
    obtain ⟨e_1, d_1, rfl, -⟩ := id r_d1_2.out
    obtain ⟨x_q_0, x_q_1, x_q_2, x_q_3⟩ := box4f hq_q_2.out
    have l_q := heap_lt hq_q_2.out
    obtain ⟨x_k_0, x_k_1, x_k_2, -⟩ := box3f hq_k_2.out
    have l_k := heap_lt hq_k_2.out
    go_wp2_with fail
    ((with_reducible refine (f3.out _ (r_R_2.out.mono EBlob.stable (b_alloc (b_alloc (Below.refl w2.heap.size w2) (Obj.cells #[.slice a_1 B1.length c_1, .slice e_1 E1.length d_1, .int .i64 r1, .int .i64 t1] 39)) (Obj.cells #[.int .i64 p1, .slice none 0 0, .string pl] 42)))).mono ?_); rintro e3 w3 ⟨rfl, b3⟩)
    clear x_q_0 x_q_1 x_q_2 x_q_3 l_q x_k_0 x_k_1 x_k_2 l_k
    have hq_x1_3 := hid (stays b3 ((heap_alloc_old (w2.alloc (Obj.cells #[.slice a_1 B1.length c_1, .slice e_1 E1.length d_1, .int .i64 r1, .int .i64 t1] 39)) (Obj.cells #[.int .i64 p1, .slice none 0 0, .string pl] 42) (heap_lt (heap_put w2 (Obj.cells #[.slice a_1 B1.length c_1, .slice e_1 E1.length d_1, .int .i64 r1, .int .i64 t1] 39) (w2.heap.size) (by simp)))).trans (heap_put w2 (Obj.cells #[.slice a_1 B1.length c_1, .slice e_1 E1.length d_1, .int .i64 r1, .int .i64 t1] 39) (w2.heap.size) (by simp))))
    have hq_n1_3 := hid (stays b3 (heap_put (w2.alloc (Obj.cells #[.slice a_1 B1.length c_1, .slice e_1 E1.length d_1, .int .i64 r1, .int .i64 t1] 39)) (Obj.cells #[.int .i64 p1, .slice none 0 0, .string pl] 42) (w2.heap.size + 1) (by simp)))
    have hq_q_3 := hid (stays b3 ((heap_alloc_old (w2.alloc (Obj.cells #[.slice a_1 B1.length c_1, .slice e_1 E1.length d_1, .int .i64 r1, .int .i64 t1] 39)) (Obj.cells #[.int .i64 p1, .slice none 0 0, .string pl] 42) (heap_lt ((heap_alloc_old w2 (Obj.cells #[.slice a_1 B1.length c_1, .slice e_1 E1.length d_1, .int .i64 r1, .int .i64 t1] 39) (heap_lt hq_q_2.out)).trans hq_q_2.out))).trans ((heap_alloc_old w2 (Obj.cells #[.slice a_1 B1.length c_1, .slice e_1 E1.length d_1, .int .i64 r1, .int .i64 t1] 39) (heap_lt hq_q_2.out)).trans hq_q_2.out)))
    have hq_k_3 := hid (stays b3 ((heap_alloc_old (w2.alloc (Obj.cells #[.slice a_1 B1.length c_1, .slice e_1 E1.length d_1, .int .i64 r1, .int .i64 t1] 39)) (Obj.cells #[.int .i64 p1, .slice none 0 0, .string pl] 42) (heap_lt ((heap_alloc_old w2 (Obj.cells #[.slice a_1 B1.length c_1, .slice e_1 E1.length d_1, .int .i64 r1, .int .i64 t1] 39) (heap_lt hq_k_2.out)).trans hq_k_2.out))).trans ((heap_alloc_old w2 (Obj.cells #[.slice a_1 B1.length c_1, .slice e_1 E1.length d_1, .int .i64 r1, .int .i64 t1] 39) (heap_lt hq_k_2.out)).trans hq_k_2.out)))
    have hb3 := hid (b_call (b_alloc (b_alloc hb2.out (Obj.cells #[.slice a_1 B1.length c_1, .slice e_1 E1.length d_1, .int .i64 r1, .int .i64 t1] 39)) (Obj.cells #[.int .i64 p1, .slice none 0 0, .string pl] 42)) b3)
    have r_R_3 := hid (r_R_2.out.mono EBlob.stable (b_call (b_alloc (b_alloc (Below.refl w2.heap.size w2) (Obj.cells #[.slice a_1 B1.length c_1, .slice e_1 E1.length d_1, .int .i64 r1, .int .i64 t1] 39)) (Obj.cells #[.int .i64 p1, .slice none 0 0, .string pl] 42)) b3))
    have r_E_3 := hid (r_E_2.out.mono EEntry.stable (b_call (b_alloc (b_alloc (Below.refl w2.heap.size w2) (Obj.cells #[.slice a_1 B1.length c_1, .slice e_1 E1.length d_1, .int .i64 r1, .int .i64 t1] 39)) (Obj.cells #[.int .i64 p1, .slice none 0 0, .string pl] 42)) b3))
    have r_a1_3 := hid (r_a1_2.out.mono EBlob.stable (b_call (b_alloc (b_alloc (Below.refl w2.heap.size w2) (Obj.cells #[.slice a_1 B1.length c_1, .slice e_1 E1.length d_1, .int .i64 r1, .int .i64 t1] 39)) (Obj.cells #[.int .i64 p1, .slice none 0 0, .string pl] 42)) b3))
    have r_d1_3 := hid (r_d1_2.out.mono EEntry.stable (b_call (b_alloc (b_alloc (Below.refl w2.heap.size w2) (Obj.cells #[.slice a_1 B1.length c_1, .slice e_1 E1.length d_1, .int .i64 r1, .int .i64 t1] 39)) (Obj.cells #[.int .i64 p1, .slice none 0 0, .string pl] 42)) b3))
    clear hq_q_2 hq_k_2 hb2 r_R_2 r_E_2 r_a1_2 r_d1_2 b3
    obtain ⟨x_x1_0, x_x1_1, x_x1_2, x_x1_3⟩ := box4f hq_x1_3.out
    have l_x1 := heap_lt hq_x1_3.out
    obtain ⟨x_n1_0, x_n1_1, x_n1_2, -⟩ := box3f hq_n1_3.out
    have l_n1 := heap_lt hq_n1_3.out
    obtain ⟨x_q_0, x_q_1, x_q_2, x_q_3⟩ := box4f hq_q_3.out
    have l_q := heap_lt hq_q_3.out
    obtain ⟨x_k_0, x_k_1, x_k_2, -⟩ := box3f hq_k_3.out
    have l_k := heap_lt hq_k_3.out
    go_wp2_with fail
    ((with_reducible refine (f2.out _ r_R_3.out r_E_3.out).mono ?_); rintro e4 w4 ⟨_, rfl, ⟨A2, D2, rfl, ra2, rd2⟩, b4⟩)
    clear x_x1_0 x_x1_1 x_x1_2 x_x1_3 l_x1 x_n1_0 x_n1_1 x_n1_2 l_n1 x_q_0 x_q_1 x_q_2 x_q_3 l_q x_k_0 x_k_1 x_k_2 l_k
    have hq_x1_4 := hid (stays b4 hq_x1_3.out)
    have hq_n1_4 := hid (stays b4 hq_n1_3.out)
    have hq_q_4 := hid (stays b4 hq_q_3.out)
    have hq_k_4 := hid (stays b4 hq_k_3.out)
    have hb4 := hid (b_call hb3.out b4)
    have r_R_4 := hid (r_R_3.out.mono EBlob.stable (b_call (Below.refl w3.heap.size w3) b4))
    have r_E_4 := hid (r_E_3.out.mono EEntry.stable (b_call (Below.refl w3.heap.size w3) b4))
    have r_a1_4 := hid (r_a1_3.out.mono EBlob.stable (b_call (Below.refl w3.heap.size w3) b4))
    have r_d1_4 := hid (r_d1_3.out.mono EEntry.stable (b_call (Below.refl w3.heap.size w3) b4))
    have r_a2_4 := hid ra2
    have r_d2_4 := hid rd2
    clear hq_x1_3 hq_n1_3 hq_q_3 hq_k_3 hb3 r_R_3 r_E_3 r_a1_3 r_d1_3 ra2 rd2 b4
    obtain ⟨a_2, c_2, rfl, -⟩ := id r_a2_4.out
    obtain ⟨e_2, d_2, rfl, -⟩ := id r_d2_4.out
    obtain ⟨x_x1_0, x_x1_1, x_x1_2, x_x1_3⟩ := box4f hq_x1_4.out
    have l_x1 := heap_lt hq_x1_4.out
    obtain ⟨x_n1_0, x_n1_1, x_n1_2, -⟩ := box3f hq_n1_4.out
    have l_n1 := heap_lt hq_n1_4.out
    obtain ⟨x_q_0, x_q_1, x_q_2, x_q_3⟩ := box4f hq_q_4.out
    have l_q := heap_lt hq_q_4.out
    obtain ⟨x_k_0, x_k_1, x_k_2, -⟩ := box3f hq_k_4.out
    have l_k := heap_lt hq_k_4.out
    go_wp2_with fail
    ((with_reducible refine (law_sameStore_yes _ _ _ _ B1 E1 r1 t1 _ (r_a1_4.out.mono EBlob.stable (b_alloc (b_alloc (Below.refl w4.heap.size w4) (Obj.cells #[.slice a_2 B1.length c_2, .slice e_2 E1.length d_2, .int .i64 r1, .int .i64 t1] 39)) (Obj.cells #[.int .i64 p1, .slice none 0 0, .string pl] 42))) (r_d1_4.out.mono EEntry.stable (b_alloc (b_alloc (Below.refl w4.heap.size w4) (Obj.cells #[.slice a_2 B1.length c_2, .slice e_2 E1.length d_2, .int .i64 r1, .int .i64 t1] 39)) (Obj.cells #[.int .i64 p1, .slice none 0 0, .string pl] 42))) (r_a2_4.out.mono EBlob.stable (b_alloc (b_alloc (Below.refl w4.heap.size w4) (Obj.cells #[.slice a_2 B1.length c_2, .slice e_2 E1.length d_2, .int .i64 r1, .int .i64 t1] 39)) (Obj.cells #[.int .i64 p1, .slice none 0 0, .string pl] 42))) (r_d2_4.out.mono EEntry.stable (b_alloc (b_alloc (Below.refl w4.heap.size w4) (Obj.cells #[.slice a_2 B1.length c_2, .slice e_2 E1.length d_2, .int .i64 r1, .int .i64 t1] 39)) (Obj.cells #[.int .i64 p1, .slice none 0 0, .string pl] 42)))).mono ?_); rintro e5 w5 ⟨rfl, b5⟩)
    clear x_x1_0 x_x1_1 x_x1_2 x_x1_3 l_x1 x_n1_0 x_n1_1 x_n1_2 l_n1 x_q_0 x_q_1 x_q_2 x_q_3 l_q x_k_0 x_k_1 x_k_2 l_k
    have hq_x2_5 := hid (stays b5 ((heap_alloc_old (w4.alloc (Obj.cells #[.slice a_2 B1.length c_2, .slice e_2 E1.length d_2, .int .i64 r1, .int .i64 t1] 39)) (Obj.cells #[.int .i64 p1, .slice none 0 0, .string pl] 42) (heap_lt (heap_put w4 (Obj.cells #[.slice a_2 B1.length c_2, .slice e_2 E1.length d_2, .int .i64 r1, .int .i64 t1] 39) (w4.heap.size) (by simp)))).trans (heap_put w4 (Obj.cells #[.slice a_2 B1.length c_2, .slice e_2 E1.length d_2, .int .i64 r1, .int .i64 t1] 39) (w4.heap.size) (by simp))))
    have hq_n2_5 := hid (stays b5 (heap_put (w4.alloc (Obj.cells #[.slice a_2 B1.length c_2, .slice e_2 E1.length d_2, .int .i64 r1, .int .i64 t1] 39)) (Obj.cells #[.int .i64 p1, .slice none 0 0, .string pl] 42) (w4.heap.size + 1) (by simp)))
    have hq_x1_5 := hid (stays b5 ((heap_alloc_old (w4.alloc (Obj.cells #[.slice a_2 B1.length c_2, .slice e_2 E1.length d_2, .int .i64 r1, .int .i64 t1] 39)) (Obj.cells #[.int .i64 p1, .slice none 0 0, .string pl] 42) (heap_lt ((heap_alloc_old w4 (Obj.cells #[.slice a_2 B1.length c_2, .slice e_2 E1.length d_2, .int .i64 r1, .int .i64 t1] 39) (heap_lt hq_x1_4.out)).trans hq_x1_4.out))).trans ((heap_alloc_old w4 (Obj.cells #[.slice a_2 B1.length c_2, .slice e_2 E1.length d_2, .int .i64 r1, .int .i64 t1] 39) (heap_lt hq_x1_4.out)).trans hq_x1_4.out)))
    have hq_n1_5 := hid (stays b5 ((heap_alloc_old (w4.alloc (Obj.cells #[.slice a_2 B1.length c_2, .slice e_2 E1.length d_2, .int .i64 r1, .int .i64 t1] 39)) (Obj.cells #[.int .i64 p1, .slice none 0 0, .string pl] 42) (heap_lt ((heap_alloc_old w4 (Obj.cells #[.slice a_2 B1.length c_2, .slice e_2 E1.length d_2, .int .i64 r1, .int .i64 t1] 39) (heap_lt hq_n1_4.out)).trans hq_n1_4.out))).trans ((heap_alloc_old w4 (Obj.cells #[.slice a_2 B1.length c_2, .slice e_2 E1.length d_2, .int .i64 r1, .int .i64 t1] 39) (heap_lt hq_n1_4.out)).trans hq_n1_4.out)))
    have hq_q_5 := hid (stays b5 ((heap_alloc_old (w4.alloc (Obj.cells #[.slice a_2 B1.length c_2, .slice e_2 E1.length d_2, .int .i64 r1, .int .i64 t1] 39)) (Obj.cells #[.int .i64 p1, .slice none 0 0, .string pl] 42) (heap_lt ((heap_alloc_old w4 (Obj.cells #[.slice a_2 B1.length c_2, .slice e_2 E1.length d_2, .int .i64 r1, .int .i64 t1] 39) (heap_lt hq_q_4.out)).trans hq_q_4.out))).trans ((heap_alloc_old w4 (Obj.cells #[.slice a_2 B1.length c_2, .slice e_2 E1.length d_2, .int .i64 r1, .int .i64 t1] 39) (heap_lt hq_q_4.out)).trans hq_q_4.out)))
    have hq_k_5 := hid (stays b5 ((heap_alloc_old (w4.alloc (Obj.cells #[.slice a_2 B1.length c_2, .slice e_2 E1.length d_2, .int .i64 r1, .int .i64 t1] 39)) (Obj.cells #[.int .i64 p1, .slice none 0 0, .string pl] 42) (heap_lt ((heap_alloc_old w4 (Obj.cells #[.slice a_2 B1.length c_2, .slice e_2 E1.length d_2, .int .i64 r1, .int .i64 t1] 39) (heap_lt hq_k_4.out)).trans hq_k_4.out))).trans ((heap_alloc_old w4 (Obj.cells #[.slice a_2 B1.length c_2, .slice e_2 E1.length d_2, .int .i64 r1, .int .i64 t1] 39) (heap_lt hq_k_4.out)).trans hq_k_4.out)))
    have hb5 := hid (b_call (b_alloc (b_alloc hb4.out (Obj.cells #[.slice a_2 B1.length c_2, .slice e_2 E1.length d_2, .int .i64 r1, .int .i64 t1] 39)) (Obj.cells #[.int .i64 p1, .slice none 0 0, .string pl] 42)) b5)
    have r_R_5 := hid (r_R_4.out.mono EBlob.stable (b_call (b_alloc (b_alloc (Below.refl w4.heap.size w4) (Obj.cells #[.slice a_2 B1.length c_2, .slice e_2 E1.length d_2, .int .i64 r1, .int .i64 t1] 39)) (Obj.cells #[.int .i64 p1, .slice none 0 0, .string pl] 42)) b5))
    have r_E_5 := hid (r_E_4.out.mono EEntry.stable (b_call (b_alloc (b_alloc (Below.refl w4.heap.size w4) (Obj.cells #[.slice a_2 B1.length c_2, .slice e_2 E1.length d_2, .int .i64 r1, .int .i64 t1] 39)) (Obj.cells #[.int .i64 p1, .slice none 0 0, .string pl] 42)) b5))
    have r_a1_5 := hid (r_a1_4.out.mono EBlob.stable (b_call (b_alloc (b_alloc (Below.refl w4.heap.size w4) (Obj.cells #[.slice a_2 B1.length c_2, .slice e_2 E1.length d_2, .int .i64 r1, .int .i64 t1] 39)) (Obj.cells #[.int .i64 p1, .slice none 0 0, .string pl] 42)) b5))
    have r_d1_5 := hid (r_d1_4.out.mono EEntry.stable (b_call (b_alloc (b_alloc (Below.refl w4.heap.size w4) (Obj.cells #[.slice a_2 B1.length c_2, .slice e_2 E1.length d_2, .int .i64 r1, .int .i64 t1] 39)) (Obj.cells #[.int .i64 p1, .slice none 0 0, .string pl] 42)) b5))
    have r_a2_5 := hid (r_a2_4.out.mono EBlob.stable (b_call (b_alloc (b_alloc (Below.refl w4.heap.size w4) (Obj.cells #[.slice a_2 B1.length c_2, .slice e_2 E1.length d_2, .int .i64 r1, .int .i64 t1] 39)) (Obj.cells #[.int .i64 p1, .slice none 0 0, .string pl] 42)) b5))
    have r_d2_5 := hid (r_d2_4.out.mono EEntry.stable (b_call (b_alloc (b_alloc (Below.refl w4.heap.size w4) (Obj.cells #[.slice a_2 B1.length c_2, .slice e_2 E1.length d_2, .int .i64 r1, .int .i64 t1] 39)) (Obj.cells #[.int .i64 p1, .slice none 0 0, .string pl] 42)) b5))
    clear hq_x1_4 hq_n1_4 hq_q_4 hq_k_4 hb4 r_R_4 r_E_4 r_a1_4 r_d1_4 r_a2_4 r_d2_4 b5
    obtain ⟨x_n1_0, x_n1_1, x_n1_2, -⟩ := box3f hq_n1_5.out
    obtain ⟨x_n2_0, x_n2_1, x_n2_2, -⟩ := box3f hq_n2_5.out
    go_wp2_with fail
    ((with_reducible refine (law_sameCollector_yes p1 _ _ pl _ [] RS.nil RS.nil).mono ?_); rintro e6 w6 ⟨rfl, b6⟩)
    clear x_n1_0 x_n1_1 x_n1_2 x_n2_0 x_n2_1 x_n2_2
    have hq_x2_6 := hid (stays b6 hq_x2_5.out)
    have hq_n2_6 := hid (stays b6 hq_n2_5.out)
    have hq_x1_6 := hid (stays b6 hq_x1_5.out)
    have hq_n1_6 := hid (stays b6 hq_n1_5.out)
    have hq_q_6 := hid (stays b6 hq_q_5.out)
    have hq_k_6 := hid (stays b6 hq_k_5.out)
    have hb6 := hid (b_call hb5.out b6)
    have r_R_6 := hid (r_R_5.out.mono EBlob.stable (b_call (Below.refl w5.heap.size w5) b6))
    have r_E_6 := hid (r_E_5.out.mono EEntry.stable (b_call (Below.refl w5.heap.size w5) b6))
    have r_a1_6 := hid (r_a1_5.out.mono EBlob.stable (b_call (Below.refl w5.heap.size w5) b6))
    have r_d1_6 := hid (r_d1_5.out.mono EEntry.stable (b_call (Below.refl w5.heap.size w5) b6))
    have r_a2_6 := hid (r_a2_5.out.mono EBlob.stable (b_call (Below.refl w5.heap.size w5) b6))
    have r_d2_6 := hid (r_d2_5.out.mono EEntry.stable (b_call (Below.refl w5.heap.size w5) b6))
    clear hq_x2_5 hq_n2_5 hq_x1_5 hq_n1_5 hq_q_5 hq_k_5 hb5 r_R_5 r_E_5 r_a1_5 r_d1_5 r_a2_5 r_d2_5 b6
    go_wp2_with fail
    go_ret
    exact ⟨rfl, hb6.out⟩
  · rw [if_neg hi] at hsi hse
    rw [hsi, hse] at f0
    clear hsi hse hi
    go_enter Try.func5, Try.ntmps5
    go_wp2_with fail
    ((with_reducible refine (f0.out _ (hR.out.mono EBlob.stable (b_alloc (b_alloc (Below.refl w.heap.size w) (Obj.cells #[.slice a bs.length c, .slice a2 es.length c2', .int .i64 r, .int .i64 t] 39)) (Obj.cells #[.int .i64 ph, .slice ga gn gc, .string s] 42)))).mono ?_); rintro e1 w1 ⟨rfl, b1⟩)
    have hq_q_1 := hid (stays b1 ((heap_alloc_old (w.alloc (Obj.cells #[.slice a bs.length c, .slice a2 es.length c2', .int .i64 r, .int .i64 t] 39)) (Obj.cells #[.int .i64 ph, .slice ga gn gc, .string s] 42) (heap_lt (heap_put w (Obj.cells #[.slice a bs.length c, .slice a2 es.length c2', .int .i64 r, .int .i64 t] 39) (w.heap.size) (by simp)))).trans (heap_put w (Obj.cells #[.slice a bs.length c, .slice a2 es.length c2', .int .i64 r, .int .i64 t] 39) (w.heap.size) (by simp))))
    have hq_k_1 := hid (stays b1 (heap_put (w.alloc (Obj.cells #[.slice a bs.length c, .slice a2 es.length c2', .int .i64 r, .int .i64 t] 39)) (Obj.cells #[.int .i64 ph, .slice ga gn gc, .string s] 42) (w.heap.size + 1) (by simp)))
    have hb1 := hid (b_call (b_alloc (b_alloc (Below.refl w.heap.size w) (Obj.cells #[.slice a bs.length c, .slice a2 es.length c2', .int .i64 r, .int .i64 t] 39)) (Obj.cells #[.int .i64 ph, .slice ga gn gc, .string s] 42)) b1)
    have r_R_1 := hid (hR.out.mono EBlob.stable (b_call (b_alloc (b_alloc (Below.refl w.heap.size w) (Obj.cells #[.slice a bs.length c, .slice a2 es.length c2', .int .i64 r, .int .i64 t] 39)) (Obj.cells #[.int .i64 ph, .slice ga gn gc, .string s] 42)) b1))
    have r_E_1 := hid (hE.out.mono EEntry.stable (b_call (b_alloc (b_alloc (Below.refl w.heap.size w) (Obj.cells #[.slice a bs.length c, .slice a2 es.length c2', .int .i64 r, .int .i64 t] 39)) (Obj.cells #[.int .i64 ph, .slice ga gn gc, .string s] 42)) b1))
    clear b1
    obtain ⟨x_q_0, x_q_1, x_q_2, x_q_3⟩ := box4f hq_q_1.out
    have l_q := heap_lt hq_q_1.out
    obtain ⟨x_k_0, x_k_1, x_k_2, -⟩ := box3f hq_k_1.out
    have l_k := heap_lt hq_k_1.out
    go_wp2_with fail
    ((with_reducible refine (f1.out _ r_R_1.out r_E_1.out).mono ?_); rintro e2 w2 ⟨_, rfl, ⟨A1, D1, rfl, ra1, rd1⟩, b2⟩)
    clear x_q_0 x_q_1 x_q_2 x_q_3 l_q x_k_0 x_k_1 x_k_2 l_k
    have hq_q_2 := hid (stays b2 hq_q_1.out)
    have hq_k_2 := hid (stays b2 hq_k_1.out)
    have hb2 := hid (b_call hb1.out b2)
    have r_R_2 := hid (r_R_1.out.mono EBlob.stable (b_call (Below.refl w1.heap.size w1) b2))
    have r_E_2 := hid (r_E_1.out.mono EEntry.stable (b_call (Below.refl w1.heap.size w1) b2))
    have r_a1_2 := hid ra1
    have r_d1_2 := hid rd1
    clear hq_q_1 hq_k_1 hb1 r_R_1 r_E_1 ra1 rd1 b2
    obtain ⟨a_1, c_1, rfl, -⟩ := id r_a1_2.out
    obtain ⟨e_1, d_1, rfl, -⟩ := id r_d1_2.out
    obtain ⟨x_q_0, x_q_1, x_q_2, x_q_3⟩ := box4f hq_q_2.out
    have l_q := heap_lt hq_q_2.out
    obtain ⟨x_k_0, x_k_1, x_k_2, -⟩ := box3f hq_k_2.out
    have l_k := heap_lt hq_k_2.out
    go_wp2_with fail
    ((with_reducible refine (f3.out _ (r_R_2.out.mono EBlob.stable (b_alloc (b_alloc (Below.refl w2.heap.size w2) (Obj.cells #[.slice a_1 B1.length c_1, .slice e_1 E1.length d_1, .int .i64 r1, .int .i64 t1] 39)) (Obj.cells #[.int .i64 p1, .slice none 0 0, .string pl] 42)))).mono ?_); rintro e3 w3 ⟨rfl, b3⟩)
    clear x_q_0 x_q_1 x_q_2 x_q_3 l_q x_k_0 x_k_1 x_k_2 l_k
    have hq_x1_3 := hid (stays b3 ((heap_alloc_old (w2.alloc (Obj.cells #[.slice a_1 B1.length c_1, .slice e_1 E1.length d_1, .int .i64 r1, .int .i64 t1] 39)) (Obj.cells #[.int .i64 p1, .slice none 0 0, .string pl] 42) (heap_lt (heap_put w2 (Obj.cells #[.slice a_1 B1.length c_1, .slice e_1 E1.length d_1, .int .i64 r1, .int .i64 t1] 39) (w2.heap.size) (by simp)))).trans (heap_put w2 (Obj.cells #[.slice a_1 B1.length c_1, .slice e_1 E1.length d_1, .int .i64 r1, .int .i64 t1] 39) (w2.heap.size) (by simp))))
    have hq_n1_3 := hid (stays b3 (heap_put (w2.alloc (Obj.cells #[.slice a_1 B1.length c_1, .slice e_1 E1.length d_1, .int .i64 r1, .int .i64 t1] 39)) (Obj.cells #[.int .i64 p1, .slice none 0 0, .string pl] 42) (w2.heap.size + 1) (by simp)))
    have hq_q_3 := hid (stays b3 ((heap_alloc_old (w2.alloc (Obj.cells #[.slice a_1 B1.length c_1, .slice e_1 E1.length d_1, .int .i64 r1, .int .i64 t1] 39)) (Obj.cells #[.int .i64 p1, .slice none 0 0, .string pl] 42) (heap_lt ((heap_alloc_old w2 (Obj.cells #[.slice a_1 B1.length c_1, .slice e_1 E1.length d_1, .int .i64 r1, .int .i64 t1] 39) (heap_lt hq_q_2.out)).trans hq_q_2.out))).trans ((heap_alloc_old w2 (Obj.cells #[.slice a_1 B1.length c_1, .slice e_1 E1.length d_1, .int .i64 r1, .int .i64 t1] 39) (heap_lt hq_q_2.out)).trans hq_q_2.out)))
    have hq_k_3 := hid (stays b3 ((heap_alloc_old (w2.alloc (Obj.cells #[.slice a_1 B1.length c_1, .slice e_1 E1.length d_1, .int .i64 r1, .int .i64 t1] 39)) (Obj.cells #[.int .i64 p1, .slice none 0 0, .string pl] 42) (heap_lt ((heap_alloc_old w2 (Obj.cells #[.slice a_1 B1.length c_1, .slice e_1 E1.length d_1, .int .i64 r1, .int .i64 t1] 39) (heap_lt hq_k_2.out)).trans hq_k_2.out))).trans ((heap_alloc_old w2 (Obj.cells #[.slice a_1 B1.length c_1, .slice e_1 E1.length d_1, .int .i64 r1, .int .i64 t1] 39) (heap_lt hq_k_2.out)).trans hq_k_2.out)))
    have hb3 := hid (b_call (b_alloc (b_alloc hb2.out (Obj.cells #[.slice a_1 B1.length c_1, .slice e_1 E1.length d_1, .int .i64 r1, .int .i64 t1] 39)) (Obj.cells #[.int .i64 p1, .slice none 0 0, .string pl] 42)) b3)
    have r_R_3 := hid (r_R_2.out.mono EBlob.stable (b_call (b_alloc (b_alloc (Below.refl w2.heap.size w2) (Obj.cells #[.slice a_1 B1.length c_1, .slice e_1 E1.length d_1, .int .i64 r1, .int .i64 t1] 39)) (Obj.cells #[.int .i64 p1, .slice none 0 0, .string pl] 42)) b3))
    have r_E_3 := hid (r_E_2.out.mono EEntry.stable (b_call (b_alloc (b_alloc (Below.refl w2.heap.size w2) (Obj.cells #[.slice a_1 B1.length c_1, .slice e_1 E1.length d_1, .int .i64 r1, .int .i64 t1] 39)) (Obj.cells #[.int .i64 p1, .slice none 0 0, .string pl] 42)) b3))
    have r_a1_3 := hid (r_a1_2.out.mono EBlob.stable (b_call (b_alloc (b_alloc (Below.refl w2.heap.size w2) (Obj.cells #[.slice a_1 B1.length c_1, .slice e_1 E1.length d_1, .int .i64 r1, .int .i64 t1] 39)) (Obj.cells #[.int .i64 p1, .slice none 0 0, .string pl] 42)) b3))
    have r_d1_3 := hid (r_d1_2.out.mono EEntry.stable (b_call (b_alloc (b_alloc (Below.refl w2.heap.size w2) (Obj.cells #[.slice a_1 B1.length c_1, .slice e_1 E1.length d_1, .int .i64 r1, .int .i64 t1] 39)) (Obj.cells #[.int .i64 p1, .slice none 0 0, .string pl] 42)) b3))
    clear hq_q_2 hq_k_2 hb2 r_R_2 r_E_2 r_a1_2 r_d1_2 b3
    obtain ⟨x_x1_0, x_x1_1, x_x1_2, x_x1_3⟩ := box4f hq_x1_3.out
    have l_x1 := heap_lt hq_x1_3.out
    obtain ⟨x_n1_0, x_n1_1, x_n1_2, -⟩ := box3f hq_n1_3.out
    have l_n1 := heap_lt hq_n1_3.out
    obtain ⟨x_q_0, x_q_1, x_q_2, x_q_3⟩ := box4f hq_q_3.out
    have l_q := heap_lt hq_q_3.out
    obtain ⟨x_k_0, x_k_1, x_k_2, -⟩ := box3f hq_k_3.out
    have l_k := heap_lt hq_k_3.out
    go_wp2_with fail
    ((with_reducible refine (f2.out _ r_R_3.out r_E_3.out).mono ?_); rintro e4 w4 ⟨_, rfl, ⟨A2, D2, rfl, ra2, rd2⟩, b4⟩)
    clear x_x1_0 x_x1_1 x_x1_2 x_x1_3 l_x1 x_n1_0 x_n1_1 x_n1_2 l_n1 x_q_0 x_q_1 x_q_2 x_q_3 l_q x_k_0 x_k_1 x_k_2 l_k
    have hq_x1_4 := hid (stays b4 hq_x1_3.out)
    have hq_n1_4 := hid (stays b4 hq_n1_3.out)
    have hq_q_4 := hid (stays b4 hq_q_3.out)
    have hq_k_4 := hid (stays b4 hq_k_3.out)
    have hb4 := hid (b_call hb3.out b4)
    have r_R_4 := hid (r_R_3.out.mono EBlob.stable (b_call (Below.refl w3.heap.size w3) b4))
    have r_E_4 := hid (r_E_3.out.mono EEntry.stable (b_call (Below.refl w3.heap.size w3) b4))
    have r_a1_4 := hid (r_a1_3.out.mono EBlob.stable (b_call (Below.refl w3.heap.size w3) b4))
    have r_d1_4 := hid (r_d1_3.out.mono EEntry.stable (b_call (Below.refl w3.heap.size w3) b4))
    have r_a2_4 := hid ra2
    have r_d2_4 := hid rd2
    clear hq_x1_3 hq_n1_3 hq_q_3 hq_k_3 hb3 r_R_3 r_E_3 r_a1_3 r_d1_3 ra2 rd2 b4
    obtain ⟨a_2, c_2, rfl, -⟩ := id r_a2_4.out
    obtain ⟨e_2, d_2, rfl, -⟩ := id r_d2_4.out
    obtain ⟨x_x1_0, x_x1_1, x_x1_2, x_x1_3⟩ := box4f hq_x1_4.out
    have l_x1 := heap_lt hq_x1_4.out
    obtain ⟨x_n1_0, x_n1_1, x_n1_2, -⟩ := box3f hq_n1_4.out
    have l_n1 := heap_lt hq_n1_4.out
    obtain ⟨x_q_0, x_q_1, x_q_2, x_q_3⟩ := box4f hq_q_4.out
    have l_q := heap_lt hq_q_4.out
    obtain ⟨x_k_0, x_k_1, x_k_2, -⟩ := box3f hq_k_4.out
    have l_k := heap_lt hq_k_4.out
    go_wp2_with fail
    ((with_reducible refine (law_sameStore_yes _ _ _ _ B1 E1 r1 t1 _ (r_a1_4.out.mono EBlob.stable (b_alloc (b_alloc (Below.refl w4.heap.size w4) (Obj.cells #[.slice a_2 B1.length c_2, .slice e_2 E1.length d_2, .int .i64 r1, .int .i64 t1] 39)) (Obj.cells #[.int .i64 p1, .slice none 0 0, .string pl] 42))) (r_d1_4.out.mono EEntry.stable (b_alloc (b_alloc (Below.refl w4.heap.size w4) (Obj.cells #[.slice a_2 B1.length c_2, .slice e_2 E1.length d_2, .int .i64 r1, .int .i64 t1] 39)) (Obj.cells #[.int .i64 p1, .slice none 0 0, .string pl] 42))) (r_a2_4.out.mono EBlob.stable (b_alloc (b_alloc (Below.refl w4.heap.size w4) (Obj.cells #[.slice a_2 B1.length c_2, .slice e_2 E1.length d_2, .int .i64 r1, .int .i64 t1] 39)) (Obj.cells #[.int .i64 p1, .slice none 0 0, .string pl] 42))) (r_d2_4.out.mono EEntry.stable (b_alloc (b_alloc (Below.refl w4.heap.size w4) (Obj.cells #[.slice a_2 B1.length c_2, .slice e_2 E1.length d_2, .int .i64 r1, .int .i64 t1] 39)) (Obj.cells #[.int .i64 p1, .slice none 0 0, .string pl] 42)))).mono ?_); rintro e5 w5 ⟨rfl, b5⟩)
    clear x_x1_0 x_x1_1 x_x1_2 x_x1_3 l_x1 x_n1_0 x_n1_1 x_n1_2 l_n1 x_q_0 x_q_1 x_q_2 x_q_3 l_q x_k_0 x_k_1 x_k_2 l_k
    have hq_x2_5 := hid (stays b5 ((heap_alloc_old (w4.alloc (Obj.cells #[.slice a_2 B1.length c_2, .slice e_2 E1.length d_2, .int .i64 r1, .int .i64 t1] 39)) (Obj.cells #[.int .i64 p1, .slice none 0 0, .string pl] 42) (heap_lt (heap_put w4 (Obj.cells #[.slice a_2 B1.length c_2, .slice e_2 E1.length d_2, .int .i64 r1, .int .i64 t1] 39) (w4.heap.size) (by simp)))).trans (heap_put w4 (Obj.cells #[.slice a_2 B1.length c_2, .slice e_2 E1.length d_2, .int .i64 r1, .int .i64 t1] 39) (w4.heap.size) (by simp))))
    have hq_n2_5 := hid (stays b5 (heap_put (w4.alloc (Obj.cells #[.slice a_2 B1.length c_2, .slice e_2 E1.length d_2, .int .i64 r1, .int .i64 t1] 39)) (Obj.cells #[.int .i64 p1, .slice none 0 0, .string pl] 42) (w4.heap.size + 1) (by simp)))
    have hq_x1_5 := hid (stays b5 ((heap_alloc_old (w4.alloc (Obj.cells #[.slice a_2 B1.length c_2, .slice e_2 E1.length d_2, .int .i64 r1, .int .i64 t1] 39)) (Obj.cells #[.int .i64 p1, .slice none 0 0, .string pl] 42) (heap_lt ((heap_alloc_old w4 (Obj.cells #[.slice a_2 B1.length c_2, .slice e_2 E1.length d_2, .int .i64 r1, .int .i64 t1] 39) (heap_lt hq_x1_4.out)).trans hq_x1_4.out))).trans ((heap_alloc_old w4 (Obj.cells #[.slice a_2 B1.length c_2, .slice e_2 E1.length d_2, .int .i64 r1, .int .i64 t1] 39) (heap_lt hq_x1_4.out)).trans hq_x1_4.out)))
    have hq_n1_5 := hid (stays b5 ((heap_alloc_old (w4.alloc (Obj.cells #[.slice a_2 B1.length c_2, .slice e_2 E1.length d_2, .int .i64 r1, .int .i64 t1] 39)) (Obj.cells #[.int .i64 p1, .slice none 0 0, .string pl] 42) (heap_lt ((heap_alloc_old w4 (Obj.cells #[.slice a_2 B1.length c_2, .slice e_2 E1.length d_2, .int .i64 r1, .int .i64 t1] 39) (heap_lt hq_n1_4.out)).trans hq_n1_4.out))).trans ((heap_alloc_old w4 (Obj.cells #[.slice a_2 B1.length c_2, .slice e_2 E1.length d_2, .int .i64 r1, .int .i64 t1] 39) (heap_lt hq_n1_4.out)).trans hq_n1_4.out)))
    have hq_q_5 := hid (stays b5 ((heap_alloc_old (w4.alloc (Obj.cells #[.slice a_2 B1.length c_2, .slice e_2 E1.length d_2, .int .i64 r1, .int .i64 t1] 39)) (Obj.cells #[.int .i64 p1, .slice none 0 0, .string pl] 42) (heap_lt ((heap_alloc_old w4 (Obj.cells #[.slice a_2 B1.length c_2, .slice e_2 E1.length d_2, .int .i64 r1, .int .i64 t1] 39) (heap_lt hq_q_4.out)).trans hq_q_4.out))).trans ((heap_alloc_old w4 (Obj.cells #[.slice a_2 B1.length c_2, .slice e_2 E1.length d_2, .int .i64 r1, .int .i64 t1] 39) (heap_lt hq_q_4.out)).trans hq_q_4.out)))
    have hq_k_5 := hid (stays b5 ((heap_alloc_old (w4.alloc (Obj.cells #[.slice a_2 B1.length c_2, .slice e_2 E1.length d_2, .int .i64 r1, .int .i64 t1] 39)) (Obj.cells #[.int .i64 p1, .slice none 0 0, .string pl] 42) (heap_lt ((heap_alloc_old w4 (Obj.cells #[.slice a_2 B1.length c_2, .slice e_2 E1.length d_2, .int .i64 r1, .int .i64 t1] 39) (heap_lt hq_k_4.out)).trans hq_k_4.out))).trans ((heap_alloc_old w4 (Obj.cells #[.slice a_2 B1.length c_2, .slice e_2 E1.length d_2, .int .i64 r1, .int .i64 t1] 39) (heap_lt hq_k_4.out)).trans hq_k_4.out)))
    have hb5 := hid (b_call (b_alloc (b_alloc hb4.out (Obj.cells #[.slice a_2 B1.length c_2, .slice e_2 E1.length d_2, .int .i64 r1, .int .i64 t1] 39)) (Obj.cells #[.int .i64 p1, .slice none 0 0, .string pl] 42)) b5)
    have r_R_5 := hid (r_R_4.out.mono EBlob.stable (b_call (b_alloc (b_alloc (Below.refl w4.heap.size w4) (Obj.cells #[.slice a_2 B1.length c_2, .slice e_2 E1.length d_2, .int .i64 r1, .int .i64 t1] 39)) (Obj.cells #[.int .i64 p1, .slice none 0 0, .string pl] 42)) b5))
    have r_E_5 := hid (r_E_4.out.mono EEntry.stable (b_call (b_alloc (b_alloc (Below.refl w4.heap.size w4) (Obj.cells #[.slice a_2 B1.length c_2, .slice e_2 E1.length d_2, .int .i64 r1, .int .i64 t1] 39)) (Obj.cells #[.int .i64 p1, .slice none 0 0, .string pl] 42)) b5))
    have r_a1_5 := hid (r_a1_4.out.mono EBlob.stable (b_call (b_alloc (b_alloc (Below.refl w4.heap.size w4) (Obj.cells #[.slice a_2 B1.length c_2, .slice e_2 E1.length d_2, .int .i64 r1, .int .i64 t1] 39)) (Obj.cells #[.int .i64 p1, .slice none 0 0, .string pl] 42)) b5))
    have r_d1_5 := hid (r_d1_4.out.mono EEntry.stable (b_call (b_alloc (b_alloc (Below.refl w4.heap.size w4) (Obj.cells #[.slice a_2 B1.length c_2, .slice e_2 E1.length d_2, .int .i64 r1, .int .i64 t1] 39)) (Obj.cells #[.int .i64 p1, .slice none 0 0, .string pl] 42)) b5))
    have r_a2_5 := hid (r_a2_4.out.mono EBlob.stable (b_call (b_alloc (b_alloc (Below.refl w4.heap.size w4) (Obj.cells #[.slice a_2 B1.length c_2, .slice e_2 E1.length d_2, .int .i64 r1, .int .i64 t1] 39)) (Obj.cells #[.int .i64 p1, .slice none 0 0, .string pl] 42)) b5))
    have r_d2_5 := hid (r_d2_4.out.mono EEntry.stable (b_call (b_alloc (b_alloc (Below.refl w4.heap.size w4) (Obj.cells #[.slice a_2 B1.length c_2, .slice e_2 E1.length d_2, .int .i64 r1, .int .i64 t1] 39)) (Obj.cells #[.int .i64 p1, .slice none 0 0, .string pl] 42)) b5))
    clear hq_x1_4 hq_n1_4 hq_q_4 hq_k_4 hb4 r_R_4 r_E_4 r_a1_4 r_d1_4 r_a2_4 r_d2_4 b5
    obtain ⟨x_n1_0, x_n1_1, x_n1_2, -⟩ := box3f hq_n1_5.out
    obtain ⟨x_n2_0, x_n2_1, x_n2_2, -⟩ := box3f hq_n2_5.out
    go_wp2_with fail
    ((with_reducible refine (law_sameCollector_yes p1 _ _ pl _ [] RS.nil RS.nil).mono ?_); rintro e6 w6 ⟨rfl, b6⟩)
    clear x_n1_0 x_n1_1 x_n1_2 x_n2_0 x_n2_1 x_n2_2
    have hq_x2_6 := hid (stays b6 hq_x2_5.out)
    have hq_n2_6 := hid (stays b6 hq_n2_5.out)
    have hq_x1_6 := hid (stays b6 hq_x1_5.out)
    have hq_n1_6 := hid (stays b6 hq_n1_5.out)
    have hq_q_6 := hid (stays b6 hq_q_5.out)
    have hq_k_6 := hid (stays b6 hq_k_5.out)
    have hb6 := hid (b_call hb5.out b6)
    have r_R_6 := hid (r_R_5.out.mono EBlob.stable (b_call (Below.refl w5.heap.size w5) b6))
    have r_E_6 := hid (r_E_5.out.mono EEntry.stable (b_call (Below.refl w5.heap.size w5) b6))
    have r_a1_6 := hid (r_a1_5.out.mono EBlob.stable (b_call (Below.refl w5.heap.size w5) b6))
    have r_d1_6 := hid (r_d1_5.out.mono EEntry.stable (b_call (Below.refl w5.heap.size w5) b6))
    have r_a2_6 := hid (r_a2_5.out.mono EBlob.stable (b_call (Below.refl w5.heap.size w5) b6))
    have r_d2_6 := hid (r_d2_5.out.mono EEntry.stable (b_call (Below.refl w5.heap.size w5) b6))
    clear hq_x2_5 hq_n2_5 hq_x1_5 hq_n1_5 hq_q_5 hq_k_5 hb5 r_R_5 r_E_5 r_a1_5 r_d1_5 r_a2_5 r_d2_5 b6
    go_wp2_with fail
    go_ret
    exact ⟨rfl, hb6.out⟩
theorem SweepSteps_walk (w : World) (cs : Array Value) (x : Store) (ds : Array Value) (y : Coll) (hx : VStore w cs.toList x) (hy : VColl w ds.toList y) :
    Calls Try.prog 5 #[.agg cs, .agg ds] w fun e w' => e = .returned (.bool true) ∧ Below w.heap.size w w' := by
  obtain ⟨bv, ev, hc, hp, he, -⟩ := hx
  obtain ⟨gv, hd, hg, -⟩ := hy
  obtain rfl : cs = #[bv, ev, .int .i64 x.room, .int .i64 x.clock] := by
    cases cs
    simp only at hc
    rw [hc]
  obtain rfl : ds = #[.int .i64 y.phase, gv, .string y.place] := by
    cases ds
    simp only at hd
    rw [hd]
  obtain ⟨ga, gc, rfl, -⟩ := hg
  exact SweepSteps_walk' bv ev _ x.blobs x.entries x.room x.clock y.phase y.place w hp he ⟨_, _, _, rfl⟩
end Go.Proofs.Ytpedbgiacebimaa
