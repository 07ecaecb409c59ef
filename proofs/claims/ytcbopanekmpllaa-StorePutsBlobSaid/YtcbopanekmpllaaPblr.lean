/-
  appleloftref.StorePutBlob: what it answers. Printed by gen_pbl.py.
-/
import Derived.Test.YtcbopanekmpllaaPbL
import Derived.OwnWalk
import Derived.Handy
namespace Go.Proofs.Ytcbopanekmpllaa
open Go.RowKit

set_option maxRecDepth 100000 in
set_option maxHeartbeats 1000000 in
theorem ref_StorePutBlob' (v u b : Value) (bs : List Blob) (es : List Entry) (r t : Int) (data : List UInt8) (w : World) (h : RBl w v bs) (g : RE w u es) (gd : RB w b data) (z e1 fv : Int) (d : ByteArray) (L : List Blob)
    (hch : ∀ w, RBl w v bs → RE w u es → Calls Try.prog 115 #[.agg #[v, u, .int .i64 r, .int .i64 t]] w fun e w' => e = .returned (.int .i64 z) ∧ Below w.heap.size w w')
    (hput : ∀ w, RBl w v bs → RB w b data → Calls Try.prog 25 #[v, b] w (BlRes e1 d L w))
    (hfits : ∀ v w, RBl w v L → Calls Try.prog 126 #[v] w fun e w' => e = .returned (.int .i64 fv) ∧ Below w.heap.size w w')
    (hfv : fv = used L) :
    Calls Try.prog 41 #[.agg #[v, u, .int .i64 r, .int .i64 t], b] w (PbRes (pblE z e1 L r) d ⟨L, es, r, t⟩ w) := by
  replace hch := hid hch
  have hR := hid h
  have hE := hid g
  have hD := hid gd
  have hf1 := hid (fit_B h)
  have hf2 := hid (fit_E g)
  obtain ⟨a, c, rfl, -⟩ := h
  obtain ⟨a2, c2, rfl, -, -, hre2, -⟩ := g
  unfold BlRes at hput
  replace hput := hid hput
  replace hfits := hid hfits
  by_cases hz : z = 0
  · subst hz
    by_cases he1 : e1 = 0
    · subst he1
      simp only [if_true] at hput
      by_cases hu : r < used L
      · have hd := hid (pblE_full hu)
        have qe : ((0 : Int) != 0) = false := by decide
        rw [← hfv] at hu
        have q7 : decide (r < fv) = true := by simp [hu]
        clear hfv
        go_enter Try.func41, Try.ntmps41
        go_wp2_with fail
        ((with_reducible refine (hch.out _ (hR.out.mono EBlob.stable (b_alloc (b_alloc (Below.refl w.heap.size w) (Obj.cells #[.slice a bs.length c, .slice a2 es.length c2, .int .i64 r, .int .i64 t] 49)) (Obj.cells #[.slice none 0 0, .slice none 0 0, .int .i64 0, .int .i64 0] 49))) (hE.out.mono EEntry.stable (b_alloc (b_alloc (Below.refl w.heap.size w) (Obj.cells #[.slice a bs.length c, .slice a2 es.length c2, .int .i64 r, .int .i64 t] 49)) (Obj.cells #[.slice none 0 0, .slice none 0 0, .int .i64 0, .int .i64 0] 49)))).mono ?_); rintro e1 w1 ⟨rfl, b1⟩)
        have hq_q_1 := hid (stays b1 ((heap_alloc_old (w.alloc (Obj.cells #[.slice a bs.length c, .slice a2 es.length c2, .int .i64 r, .int .i64 t] 49)) (Obj.cells #[.slice none 0 0, .slice none 0 0, .int .i64 0, .int .i64 0] 49) (heap_lt (heap_put w (Obj.cells #[.slice a bs.length c, .slice a2 es.length c2, .int .i64 r, .int .i64 t] 49) (w.heap.size) (by simp)))).trans (heap_put w (Obj.cells #[.slice a bs.length c, .slice a2 es.length c2, .int .i64 r, .int .i64 t] 49) (w.heap.size) (by simp))))
        have hq_p_1 := hid (stays b1 (heap_put (w.alloc (Obj.cells #[.slice a bs.length c, .slice a2 es.length c2, .int .i64 r, .int .i64 t] 49)) (Obj.cells #[.slice none 0 0, .slice none 0 0, .int .i64 0, .int .i64 0] 49) (w.heap.size + 1) (by simp)))
        have hb1 := hid (b_call (b_alloc (b_alloc (Below.refl w.heap.size w) (Obj.cells #[.slice a bs.length c, .slice a2 es.length c2, .int .i64 r, .int .i64 t] 49)) (Obj.cells #[.slice none 0 0, .slice none 0 0, .int .i64 0, .int .i64 0] 49)) b1)
        have r_R_1 := hid (hR.out.mono EBlob.stable (b_call (b_alloc (b_alloc (Below.refl w.heap.size w) (Obj.cells #[.slice a bs.length c, .slice a2 es.length c2, .int .i64 r, .int .i64 t] 49)) (Obj.cells #[.slice none 0 0, .slice none 0 0, .int .i64 0, .int .i64 0] 49)) b1))
        have r_E_1 := hid (hE.out.mono EEntry.stable (b_call (b_alloc (b_alloc (Below.refl w.heap.size w) (Obj.cells #[.slice a bs.length c, .slice a2 es.length c2, .int .i64 r, .int .i64 t] 49)) (Obj.cells #[.slice none 0 0, .slice none 0 0, .int .i64 0, .int .i64 0] 49)) b1))
        have r_D_1 := hid (hD.out.mono EU8.stable (b_call (b_alloc (b_alloc (Below.refl w.heap.size w) (Obj.cells #[.slice a bs.length c, .slice a2 es.length c2, .int .i64 r, .int .i64 t] 49)) (Obj.cells #[.slice none 0 0, .slice none 0 0, .int .i64 0, .int .i64 0] 49)) b1))
        clear b1
        obtain ⟨x_q_0, x_q_1, x_q_2, x_q_3⟩ := box4f hq_q_1.out
        go_wp2_with fail
        ((with_reducible refine (hput.out _ r_R_1.out r_D_1.out).mono ?_); rintro e2 w2 ⟨v2, rfl, rl2, b2⟩)
        clear x_q_0 x_q_1 x_q_2 x_q_3
        have hq_q_2 := hid (stays b2 hq_q_1.out)
        have hq_p_2 := hid (stays b2 hq_p_1.out)
        have hb2 := hid (b_call hb1.out b2)
        have r_R_2 := hid (r_R_1.out.mono EBlob.stable (b_call (Below.refl w1.heap.size w1) b2))
        have r_E_2 := hid (r_E_1.out.mono EEntry.stable (b_call (Below.refl w1.heap.size w1) b2))
        have r_D_2 := hid (r_D_1.out.mono EU8.stable (b_call (Below.refl w1.heap.size w1) b2))
        have r_L_2 := hid rl2
        clear hq_q_1 hq_p_1 hb1 r_R_1 r_E_1 r_D_1 rl2 b2
        obtain ⟨al, cl, rfl, -⟩ := id r_L_2.out
        have hS := box4f hq_q_2.out
        have hqd := hid hq_q_2.out
        clear hq_q_2
        have hq_q_2 := hqd
        obtain ⟨x_q_0, x_q_1, x_q_2, x_q_3⟩ := box4f hq_q_2.out
        go_wp2_with fail
        clear x_q_0 x_q_1 x_q_2 x_q_3
        go_region_held3 (fun w' => w'.cell? ⟨w.heap.size, 0, none⟩ = some (.slice a bs.length c) ∧ w'.cell? ⟨w.heap.size, 1, none⟩ = some (.slice a2 es.length c2) ∧ w'.cell? ⟨w.heap.size, 2, none⟩ = some (.int .i64 r) ∧ w'.cell? ⟨w.heap.size, 3, none⟩ = some (.int .i64 t))
          (first | go_keep | exact hS3 | exact hS | fail)
          ((first
            | ((with_reducible refine (hfits.out (.slice al L.length cl) w2.drew (r_L_2.out.mono EBlob.stable (Below.refl _ w2).drew)).mono ?_)
               rintro e w3 ⟨rfl, b3⟩
               have b23 : Below w2.heap.size w2 w3 := b_call (Below.refl _ w2).drew b3
               have hS3 := box4f (stays b23 hq_q_2.out))
            | fail))
        have hq_q_3 := hid (stays b23 hq_q_2.out)
        have hq_p_3 := hid (stays b23 hq_p_2.out)
        have hb3 := hid (b_call hb2.out b23)
        have r_R_3 := hid (r_R_2.out.mono EBlob.stable b23)
        have r_E_3 := hid (r_E_2.out.mono EEntry.stable b23)
        have r_D_3 := hid (r_D_2.out.mono EU8.stable b23)
        have r_L_3 := hid (r_L_2.out.mono EBlob.stable b23)
        clear hS hS3 b3 b23 hq_q_2 hq_p_2 hb2 r_R_2 r_E_2 r_D_2 r_L_2
        obtain ⟨x_q_0, x_q_1, x_q_2, x_q_3⟩ := box4f hq_q_3.out
        obtain ⟨x_p_0, x_p_1, x_p_2, x_p_3⟩ := box4f hq_p_3.out
        have g_p_0 := frozen_heap hq_p_3.out 0
        have g_p_1 := frozen_heap hq_p_3.out 1
        have g_p_2 := frozen_heap hq_p_3.out 2
        have g_p_3 := frozen_heap hq_p_3.out 3
        go_wp2_with fail
        have hp9 := box4_same (u0 := .slice none 0 0) (u1 := .slice none 0 0) (u2 := .int .i64 0) (u3 := .int .i64 0) hq_p_3.out
        have hb9 := b_box4 hb3.out (q := w.heap.size + 1) (Nat.le_succ _) (.slice none 0 0) (.slice none 0 0) (.int .i64 0) (.int .i64 0)
        obtain ⟨m0, m1, m2, m3⟩ := box4f hp9
        unfold World.box4 at m0 m1 m2 m3 hb9
        (try simp only [Exit.inBlock, Exit.then])
        refine bodyPost_ret (by simp [results, Try.results41, go_sem, m0, m1, m2, m3]; try rfl) rfl ?_
        exact pb_no hd.out (by decide) hb9
      · have hd := hid (pblE_ok hu)
        have qe : ((0 : Int) != 0) = false := by decide
        rw [← hfv] at hu
        have q7 : decide (r < fv) = false := by simp; omega
        clear hfv
        go_enter Try.func41, Try.ntmps41
        go_wp2_with fail
        ((with_reducible refine (hch.out _ (hR.out.mono EBlob.stable (b_alloc (b_alloc (Below.refl w.heap.size w) (Obj.cells #[.slice a bs.length c, .slice a2 es.length c2, .int .i64 r, .int .i64 t] 49)) (Obj.cells #[.slice none 0 0, .slice none 0 0, .int .i64 0, .int .i64 0] 49))) (hE.out.mono EEntry.stable (b_alloc (b_alloc (Below.refl w.heap.size w) (Obj.cells #[.slice a bs.length c, .slice a2 es.length c2, .int .i64 r, .int .i64 t] 49)) (Obj.cells #[.slice none 0 0, .slice none 0 0, .int .i64 0, .int .i64 0] 49)))).mono ?_); rintro e1 w1 ⟨rfl, b1⟩)
        have hq_q_1 := hid (stays b1 ((heap_alloc_old (w.alloc (Obj.cells #[.slice a bs.length c, .slice a2 es.length c2, .int .i64 r, .int .i64 t] 49)) (Obj.cells #[.slice none 0 0, .slice none 0 0, .int .i64 0, .int .i64 0] 49) (heap_lt (heap_put w (Obj.cells #[.slice a bs.length c, .slice a2 es.length c2, .int .i64 r, .int .i64 t] 49) (w.heap.size) (by simp)))).trans (heap_put w (Obj.cells #[.slice a bs.length c, .slice a2 es.length c2, .int .i64 r, .int .i64 t] 49) (w.heap.size) (by simp))))
        have hq_p_1 := hid (stays b1 (heap_put (w.alloc (Obj.cells #[.slice a bs.length c, .slice a2 es.length c2, .int .i64 r, .int .i64 t] 49)) (Obj.cells #[.slice none 0 0, .slice none 0 0, .int .i64 0, .int .i64 0] 49) (w.heap.size + 1) (by simp)))
        have hb1 := hid (b_call (b_alloc (b_alloc (Below.refl w.heap.size w) (Obj.cells #[.slice a bs.length c, .slice a2 es.length c2, .int .i64 r, .int .i64 t] 49)) (Obj.cells #[.slice none 0 0, .slice none 0 0, .int .i64 0, .int .i64 0] 49)) b1)
        have r_R_1 := hid (hR.out.mono EBlob.stable (b_call (b_alloc (b_alloc (Below.refl w.heap.size w) (Obj.cells #[.slice a bs.length c, .slice a2 es.length c2, .int .i64 r, .int .i64 t] 49)) (Obj.cells #[.slice none 0 0, .slice none 0 0, .int .i64 0, .int .i64 0] 49)) b1))
        have r_E_1 := hid (hE.out.mono EEntry.stable (b_call (b_alloc (b_alloc (Below.refl w.heap.size w) (Obj.cells #[.slice a bs.length c, .slice a2 es.length c2, .int .i64 r, .int .i64 t] 49)) (Obj.cells #[.slice none 0 0, .slice none 0 0, .int .i64 0, .int .i64 0] 49)) b1))
        have r_D_1 := hid (hD.out.mono EU8.stable (b_call (b_alloc (b_alloc (Below.refl w.heap.size w) (Obj.cells #[.slice a bs.length c, .slice a2 es.length c2, .int .i64 r, .int .i64 t] 49)) (Obj.cells #[.slice none 0 0, .slice none 0 0, .int .i64 0, .int .i64 0] 49)) b1))
        clear b1
        obtain ⟨x_q_0, x_q_1, x_q_2, x_q_3⟩ := box4f hq_q_1.out
        go_wp2_with fail
        ((with_reducible refine (hput.out _ r_R_1.out r_D_1.out).mono ?_); rintro e2 w2 ⟨v2, rfl, rl2, b2⟩)
        clear x_q_0 x_q_1 x_q_2 x_q_3
        have hq_q_2 := hid (stays b2 hq_q_1.out)
        have hq_p_2 := hid (stays b2 hq_p_1.out)
        have hb2 := hid (b_call hb1.out b2)
        have r_R_2 := hid (r_R_1.out.mono EBlob.stable (b_call (Below.refl w1.heap.size w1) b2))
        have r_E_2 := hid (r_E_1.out.mono EEntry.stable (b_call (Below.refl w1.heap.size w1) b2))
        have r_D_2 := hid (r_D_1.out.mono EU8.stable (b_call (Below.refl w1.heap.size w1) b2))
        have r_L_2 := hid rl2
        clear hq_q_1 hq_p_1 hb1 r_R_1 r_E_1 r_D_1 rl2 b2
        obtain ⟨al, cl, rfl, -⟩ := id r_L_2.out
        have hS := box4f hq_q_2.out
        have hqd := hid hq_q_2.out
        clear hq_q_2
        have hq_q_2 := hqd
        obtain ⟨x_q_0, x_q_1, x_q_2, x_q_3⟩ := box4f hq_q_2.out
        go_wp2_with fail
        clear x_q_0 x_q_1 x_q_2 x_q_3
        go_region_held3 (fun w' => w'.cell? ⟨w.heap.size, 0, none⟩ = some (.slice a bs.length c) ∧ w'.cell? ⟨w.heap.size, 1, none⟩ = some (.slice a2 es.length c2) ∧ w'.cell? ⟨w.heap.size, 2, none⟩ = some (.int .i64 r) ∧ w'.cell? ⟨w.heap.size, 3, none⟩ = some (.int .i64 t))
          (first | go_keep | exact hS3 | exact hS | fail)
          ((first
            | ((with_reducible refine (hfits.out (.slice al L.length cl) w2.drew (r_L_2.out.mono EBlob.stable (Below.refl _ w2).drew)).mono ?_)
               rintro e w3 ⟨rfl, b3⟩
               have b23 : Below w2.heap.size w2 w3 := b_call (Below.refl _ w2).drew b3
               have hS3 := box4f (stays b23 hq_q_2.out))
            | fail))
        have hq_q_3 := hid (stays b23 hq_q_2.out)
        have hq_p_3 := hid (stays b23 hq_p_2.out)
        have hb3 := hid (b_call hb2.out b23)
        have r_R_3 := hid (r_R_2.out.mono EBlob.stable b23)
        have r_E_3 := hid (r_E_2.out.mono EEntry.stable b23)
        have r_D_3 := hid (r_D_2.out.mono EU8.stable b23)
        have r_L_3 := hid (r_L_2.out.mono EBlob.stable b23)
        clear hS hS3 b3 b23 hq_q_2 hq_p_2 hb2 r_R_2 r_E_2 r_D_2 r_L_2
        obtain ⟨x_q_0, x_q_1, x_q_2, x_q_3⟩ := box4f hq_q_3.out
        go_wp2_with fail
        ((with_reducible refine (ref_StoreCopyO _ _ bs es r t _ r_R_3.out r_E_3.out).mono ?_); rintro e4 w4 ⟨v4, u4, rfl, o1, o2, b4⟩)
        clear x_q_0 x_q_1 x_q_2 x_q_3
        have hq_q_4 := hid (stays b4 hq_q_3.out)
        have hq_p_4 := hid (stays b4 hq_p_3.out)
        have hb4 := hid (b_call hb3.out b4)
        have r_R_4 := hid (r_R_3.out.mono EBlob.stable (b_call (Below.refl w3.heap.size w3) b4))
        have r_E_4 := hid (r_E_3.out.mono EEntry.stable (b_call (Below.refl w3.heap.size w3) b4))
        have r_D_4 := hid (r_D_3.out.mono EU8.stable (b_call (Below.refl w3.heap.size w3) b4))
        have r_L_4 := hid (r_L_3.out.mono EBlob.stable (b_call (Below.refl w3.heap.size w3) b4))
        obtain ⟨a5, c5, rfl⟩ := OX.lenOf o2
        obtain ⟨a6, c6, rfl⟩ := OX.lenOf o1
        have rE4 := hid (o2.toR hre2 hf2.out)
        clear hq_q_3 hq_p_3 hb3 r_R_3 r_E_3 r_D_3 r_L_3 b4
        have hpl := heap_lt hq_p_4.out
        obtain ⟨x_p_0, x_p_1, x_p_2, x_p_3⟩ := box4f hq_p_4.out
        have g_p_0 := frozen_heap hq_p_4.out 0
        have g_p_1 := frozen_heap hq_p_4.out 1
        have g_p_2 := frozen_heap hq_p_4.out 2
        have g_p_3 := frozen_heap hq_p_4.out 3
        clear o1 o2 hq_q_4
        go_wp2_with fail
        have hpB := box4_same (u0 := (.slice al L.length cl)) (u1 := (.slice a5 es.length c5)) (u2 := .int .i64 r) (u3 := .int .i64 t) hq_p_4.out
        have hp9 := (heap_alloc_old _ (Obj.cells #[(.slice al L.length cl), (.slice a5 es.length c5), .int .i64 r, .int .i64 t] 49) (heap_lt hpB)).trans hpB
        have hb9 := b_alloc (b_box4 hb4.out (q := w.heap.size + 1) (Nat.le_succ _) (.slice al L.length cl) (.slice a5 es.length c5) (.int .i64 r) (.int .i64 t)) (Obj.cells #[(.slice al L.length cl), (.slice a5 es.length c5), .int .i64 r, .int .i64 t] 49)
        have hbox := (⟨_, _, _, _, _, _, _, _, hq_p_4.out⟩ : ∃ a n c a' n' c' r t, w4.heap[w.heap.size + 1]? = some (.cells #[.slice a n c, .slice a' n' c', .int .i64 r, .int .i64 t] 49 (0, 0)))
        have rl9 := (r_L_4.out.box4 EBlob.writes hbox al L.length cl a5 es.length c5 r t).mono EBlob.stable (b_alloc (Below.refl _ _) (Obj.cells #[(.slice al L.length cl), (.slice a5 es.length c5), .int .i64 r, .int .i64 t] 49))
        have re9 := (rE4.out.box4 EEntry.writes hbox al L.length cl a5 es.length c5 r t).mono EEntry.stable (b_alloc (Below.refl _ _) (Obj.cells #[(.slice al L.length cl), (.slice a5 es.length c5), .int .i64 r, .int .i64 t] 49))
        obtain ⟨m0, m1, m2, m3⟩ := box4f hp9
        unfold World.box4 at m0 m1 m2 m3 hb9 rl9 re9
        (try simp only [Exit.inBlock, Exit.then])
        refine bodyPost_ret (by simp [results, Try.results41, go_sem, m0, m1, m2, m3]; try rfl) rfl ?_
        exact pb_ok hd.out rl9 re9 hb9
    · have hd := hid (pblE_put (L := L) (r := r) he1)
      have q1 : (e1 != 0) = true := by simp [he1]
      simp only [if_neg he1] at hput
      replace he1 := hid he1
      go_enter Try.func41, Try.ntmps41
      go_wp2_with fail
      ((with_reducible refine (hch.out _ (hR.out.mono EBlob.stable (b_alloc (b_alloc (Below.refl w.heap.size w) (Obj.cells #[.slice a bs.length c, .slice a2 es.length c2, .int .i64 r, .int .i64 t] 49)) (Obj.cells #[.slice none 0 0, .slice none 0 0, .int .i64 0, .int .i64 0] 49))) (hE.out.mono EEntry.stable (b_alloc (b_alloc (Below.refl w.heap.size w) (Obj.cells #[.slice a bs.length c, .slice a2 es.length c2, .int .i64 r, .int .i64 t] 49)) (Obj.cells #[.slice none 0 0, .slice none 0 0, .int .i64 0, .int .i64 0] 49)))).mono ?_); rintro e1 w1 ⟨rfl, b1⟩)
      have hq_q_1 := hid (stays b1 ((heap_alloc_old (w.alloc (Obj.cells #[.slice a bs.length c, .slice a2 es.length c2, .int .i64 r, .int .i64 t] 49)) (Obj.cells #[.slice none 0 0, .slice none 0 0, .int .i64 0, .int .i64 0] 49) (heap_lt (heap_put w (Obj.cells #[.slice a bs.length c, .slice a2 es.length c2, .int .i64 r, .int .i64 t] 49) (w.heap.size) (by simp)))).trans (heap_put w (Obj.cells #[.slice a bs.length c, .slice a2 es.length c2, .int .i64 r, .int .i64 t] 49) (w.heap.size) (by simp))))
      have hq_p_1 := hid (stays b1 (heap_put (w.alloc (Obj.cells #[.slice a bs.length c, .slice a2 es.length c2, .int .i64 r, .int .i64 t] 49)) (Obj.cells #[.slice none 0 0, .slice none 0 0, .int .i64 0, .int .i64 0] 49) (w.heap.size + 1) (by simp)))
      have hb1 := hid (b_call (b_alloc (b_alloc (Below.refl w.heap.size w) (Obj.cells #[.slice a bs.length c, .slice a2 es.length c2, .int .i64 r, .int .i64 t] 49)) (Obj.cells #[.slice none 0 0, .slice none 0 0, .int .i64 0, .int .i64 0] 49)) b1)
      have r_R_1 := hid (hR.out.mono EBlob.stable (b_call (b_alloc (b_alloc (Below.refl w.heap.size w) (Obj.cells #[.slice a bs.length c, .slice a2 es.length c2, .int .i64 r, .int .i64 t] 49)) (Obj.cells #[.slice none 0 0, .slice none 0 0, .int .i64 0, .int .i64 0] 49)) b1))
      have r_E_1 := hid (hE.out.mono EEntry.stable (b_call (b_alloc (b_alloc (Below.refl w.heap.size w) (Obj.cells #[.slice a bs.length c, .slice a2 es.length c2, .int .i64 r, .int .i64 t] 49)) (Obj.cells #[.slice none 0 0, .slice none 0 0, .int .i64 0, .int .i64 0] 49)) b1))
      have r_D_1 := hid (hD.out.mono EU8.stable (b_call (b_alloc (b_alloc (Below.refl w.heap.size w) (Obj.cells #[.slice a bs.length c, .slice a2 es.length c2, .int .i64 r, .int .i64 t] 49)) (Obj.cells #[.slice none 0 0, .slice none 0 0, .int .i64 0, .int .i64 0] 49)) b1))
      clear b1
      obtain ⟨x_q_0, x_q_1, x_q_2, x_q_3⟩ := box4f hq_q_1.out
      go_wp2_with fail
      ((with_reducible refine (hput.out _ r_R_1.out r_D_1.out).mono ?_); rintro e2 w2 ⟨v2, rfl, rl2, b2⟩)
      clear x_q_0 x_q_1 x_q_2 x_q_3
      have hq_q_2 := hid (stays b2 hq_q_1.out)
      have hq_p_2 := hid (stays b2 hq_p_1.out)
      have hb2 := hid (b_call hb1.out b2)
      have r_R_2 := hid (r_R_1.out.mono EBlob.stable (b_call (Below.refl w1.heap.size w1) b2))
      have r_E_2 := hid (r_E_1.out.mono EEntry.stable (b_call (Below.refl w1.heap.size w1) b2))
      have r_D_2 := hid (r_D_1.out.mono EU8.stable (b_call (Below.refl w1.heap.size w1) b2))
      clear hq_q_1 hq_p_1 hb1 r_R_1 r_E_1 r_D_1 b2
      obtain ⟨x_q_0, x_q_1, x_q_2, x_q_3⟩ := box4f hq_q_2.out
      obtain ⟨x_p_0, x_p_1, x_p_2, x_p_3⟩ := box4f hq_p_2.out
      have g_p_0 := frozen_heap hq_p_2.out 0
      have g_p_1 := frozen_heap hq_p_2.out 1
      have g_p_2 := frozen_heap hq_p_2.out 2
      have g_p_3 := frozen_heap hq_p_2.out 3
      go_wp2_with fail
      have hp9 := box4_same (u0 := .slice none 0 0) (u1 := .slice none 0 0) (u2 := .int .i64 0) (u3 := .int .i64 0) hq_p_2.out
      have hb9 := b_box4 hb2.out (q := w.heap.size + 1) (Nat.le_succ _) (.slice none 0 0) (.slice none 0 0) (.int .i64 0) (.int .i64 0)
      obtain ⟨m0, m1, m2, m3⟩ := box4f hp9
      unfold World.box4 at m0 m1 m2 m3 hb9
      (try simp only [Exit.inBlock, Exit.then])
      refine bodyPost_ret (by simp [results, Try.results41, go_sem, m0, m1, m2, m3]; try rfl) rfl ?_
      exact pb_no hd.out he1.out hb9
  · have ht : (z != 0) = true := by simp [hz]
    have hd := hid (pblE_bad (e := e1) (L := L) (r := r) hz)
    replace hz := hid hz
    go_enter Try.func41, Try.ntmps41
    go_wp2_with fail
    ((with_reducible refine (hch.out _ (hR.out.mono EBlob.stable (b_alloc (b_alloc (Below.refl w.heap.size w) (Obj.cells #[.slice a bs.length c, .slice a2 es.length c2, .int .i64 r, .int .i64 t] 49)) (Obj.cells #[.slice none 0 0, .slice none 0 0, .int .i64 0, .int .i64 0] 49))) (hE.out.mono EEntry.stable (b_alloc (b_alloc (Below.refl w.heap.size w) (Obj.cells #[.slice a bs.length c, .slice a2 es.length c2, .int .i64 r, .int .i64 t] 49)) (Obj.cells #[.slice none 0 0, .slice none 0 0, .int .i64 0, .int .i64 0] 49)))).mono ?_); rintro e1 w1 ⟨rfl, b1⟩)
    have hq_q_1 := hid (stays b1 ((heap_alloc_old (w.alloc (Obj.cells #[.slice a bs.length c, .slice a2 es.length c2, .int .i64 r, .int .i64 t] 49)) (Obj.cells #[.slice none 0 0, .slice none 0 0, .int .i64 0, .int .i64 0] 49) (heap_lt (heap_put w (Obj.cells #[.slice a bs.length c, .slice a2 es.length c2, .int .i64 r, .int .i64 t] 49) (w.heap.size) (by simp)))).trans (heap_put w (Obj.cells #[.slice a bs.length c, .slice a2 es.length c2, .int .i64 r, .int .i64 t] 49) (w.heap.size) (by simp))))
    have hq_p_1 := hid (stays b1 (heap_put (w.alloc (Obj.cells #[.slice a bs.length c, .slice a2 es.length c2, .int .i64 r, .int .i64 t] 49)) (Obj.cells #[.slice none 0 0, .slice none 0 0, .int .i64 0, .int .i64 0] 49) (w.heap.size + 1) (by simp)))
    have hb1 := hid (b_call (b_alloc (b_alloc (Below.refl w.heap.size w) (Obj.cells #[.slice a bs.length c, .slice a2 es.length c2, .int .i64 r, .int .i64 t] 49)) (Obj.cells #[.slice none 0 0, .slice none 0 0, .int .i64 0, .int .i64 0] 49)) b1)
    have r_R_1 := hid (hR.out.mono EBlob.stable (b_call (b_alloc (b_alloc (Below.refl w.heap.size w) (Obj.cells #[.slice a bs.length c, .slice a2 es.length c2, .int .i64 r, .int .i64 t] 49)) (Obj.cells #[.slice none 0 0, .slice none 0 0, .int .i64 0, .int .i64 0] 49)) b1))
    have r_E_1 := hid (hE.out.mono EEntry.stable (b_call (b_alloc (b_alloc (Below.refl w.heap.size w) (Obj.cells #[.slice a bs.length c, .slice a2 es.length c2, .int .i64 r, .int .i64 t] 49)) (Obj.cells #[.slice none 0 0, .slice none 0 0, .int .i64 0, .int .i64 0] 49)) b1))
    have r_D_1 := hid (hD.out.mono EU8.stable (b_call (b_alloc (b_alloc (Below.refl w.heap.size w) (Obj.cells #[.slice a bs.length c, .slice a2 es.length c2, .int .i64 r, .int .i64 t] 49)) (Obj.cells #[.slice none 0 0, .slice none 0 0, .int .i64 0, .int .i64 0] 49)) b1))
    clear b1
    obtain ⟨x_q_0, x_q_1, x_q_2, x_q_3⟩ := box4f hq_q_1.out
    obtain ⟨x_p_0, x_p_1, x_p_2, x_p_3⟩ := box4f hq_p_1.out
    have g_p_0 := frozen_heap hq_p_1.out 0
    have g_p_1 := frozen_heap hq_p_1.out 1
    have g_p_2 := frozen_heap hq_p_1.out 2
    have g_p_3 := frozen_heap hq_p_1.out 3
    go_wp2_with fail
    have hp9 := box4_same (u0 := .slice none 0 0) (u1 := .slice none 0 0) (u2 := .int .i64 0) (u3 := .int .i64 0) hq_p_1.out
    have hb9 := b_box4 hb1.out (q := w.heap.size + 1) (Nat.le_succ _) (.slice none 0 0) (.slice none 0 0) (.int .i64 0) (.int .i64 0)
    obtain ⟨m0, m1, m2, m3⟩ := box4f hp9
    unfold World.box4 at m0 m1 m2 m3 hb9
    (try simp only [Exit.inBlock, Exit.then])
    refine bodyPost_ret (by simp [results, Try.results41, go_sem, m0, m1, m2, m3]; try rfl) rfl ?_
    exact pb_no hd.out hz.out hb9
end Go.Proofs.Ytcbopanekmpllaa
