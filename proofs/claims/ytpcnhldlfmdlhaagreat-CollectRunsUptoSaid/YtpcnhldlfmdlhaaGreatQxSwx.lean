/-
  sweep.Step: what it answers. Printed by gen_sw.py. The reference's Swept: what it answers. Printed by gen_swr.py. sweep.Step and the reference's Swept over all arguments; the law SweepSteps: its walk. Printed by gen_sww.py.
-/
import Derived.Test.YtpcnhldlfmdlhaaGreatQxSwb
import Derived.Test.YtpcnhldlfmdlhaaGreatQxDrB
import Derived.Test.YtpcnhldlfmdlhaaGreatQxOpC
import Derived.OwnWalk
import Derived.Handy
import Derived.IntWalk
import Derived.Deep.RegionHeld3
import Derived.StillTactics
import Derived.Deep.Cut
namespace Go.Proofs.YtpcnhldlfmdlhaaGreat
open Go.RowKit

set_option maxRecDepth 100000 in
set_option maxHeartbeats 4000000 in
theorem sweep_Step' (v u gv : Value) (bs : List Blob) (es : List Entry) (r t ph : Int) (at1 : ByteArray) (w : World) (h : RBl w v bs) (g : RE w u es) (z f : Int)
    (hgv : ∃ a n c, gv = .slice a n c)
    (hch : ∀ w, RBl w v bs → RE w u es → Calls Tryz.prog 75 #[.agg #[v, u, .int .i64 r, .int .i64 t]] w fun e w' => e = .returned (.int .i64 z) ∧ Below w.heap.size w w')
    (hch2 : ∀ v u w, RBl w v (bs.take (swAt at1 bs) ++ bs.drop (swAt at1 bs + 1)) → RE w u es → Calls Tryz.prog 75 #[.agg #[v, u, .int .i64 r, .int .i64 t]] w fun e w' => e = .returned (.int .i64 f) ∧ Below w.heap.size w w') :
    Calls Tryz.prog 118 #[.agg #[v, u, .int .i64 r, .int .i64 t], .agg #[.int .i64 ph, gv, .string at1]] w (SwRes (swOut z f ph (swAt at1 bs) bs es r t) w) := by
  obtain ⟨ga, gn, gc, rfl⟩ := hgv
  replace hch := hid hch
  replace hch2 := hid hch2
  have hR := hid h
  have hE := hid g
  have hf1 := hid (fit_B h)
  have hf2 := hid (fit_E g)
  obtain ⟨a, c, rfl, hlc, hcm, hre, -, hat⟩ := h
  obtain ⟨a2, c2, rfl, -, -, hre2, -⟩ := g
  unfold maxLen at hcm
  replace hat := hid hat
  have hnx := hid (fun w (g : RBl w (.slice a bs.length c) bs) => sweep_Next (.slice a bs.length c) bs at1 w g)
  have hsi : swI at1 bs = if swAt at1 bs = bs.length then 0 else (swAt at1 bs : Int) := rfl
  have hse : swE at1 bs = if swAt at1 bs = bs.length then 5 else 0 := rfl
  have hle : swAt at1 bs ≤ bs.length := firstAt_le _ _
  generalize hso : swOut z f ph (swAt at1 bs) bs es r t = so
  generalize swAt at1 bs = i at *
  generalize swI at1 bs = si at *
  generalize swE at1 bs = se at *
  replace hso := hid hso
  go_enter Tryz.func118, Tryz.ntmps118
  go_wp2_with fail
  ((with_reducible refine (hch.out _ (hR.out.mono EBlob.stable (b_alloc (b_alloc (b_alloc (b_alloc (Below.refl w.heap.size w) _) _) _) _)) (hE.out.mono EEntry.stable (b_alloc (b_alloc (b_alloc (b_alloc (Below.refl w.heap.size w) _) _) _) _))).mono ?_); rintro e1 w1 ⟨rfl, b1⟩)
  have hq_q_1 := hid (stays b1 (hold (hold (hold (heap_put w _ (w.heap.size) (by simp))))))
  have hq_c_1 := hid (stays b1 (hold (hold (heap_put _ _ (w.heap.size + 1) (by simp)))))
  have hq_p_1 := hid (stays b1 (hold (heap_put _ _ (w.heap.size + 1 + 1) (by simp))))
  have hq_d_1 := hid (stays b1 (heap_put _ _ (w.heap.size + 1 + 1 + 1) (by simp)))
  have hb1 := hid (b_call (b_alloc (b_alloc (b_alloc (b_alloc (Below.refl w.heap.size w) _) _) _) _) b1)
  have r_R_1 := hid (hR.out.mono EBlob.stable (b_call (b_alloc (b_alloc (b_alloc (b_alloc (Below.refl w.heap.size w) _) _) _) _) b1))
  have r_E_1 := hid (hE.out.mono EEntry.stable (b_call (b_alloc (b_alloc (b_alloc (b_alloc (Below.refl w.heap.size w) _) _) _) _) b1))
  clear b1
  by_cases hz : z = 0
  · subst hz
    by_cases hph : ph = 2
    · subst hph
      obtain ⟨x_q_0, x_q_1, x_q_2, x_q_3⟩ := box4f hq_q_1.out
      obtain ⟨x_c_0, x_c_1, x_c_2, -⟩ := box3f hq_c_1.out
      go_wp2_with fail
      ((with_reducible refine (store_CopyF _ _ bs es r t _ r_R_1.out r_E_1.out).mono ?_); rintro e2 w2 ⟨gg, u2, rfl, hgB, o1, o2, b2⟩)
      clear x_q_0 x_q_1 x_q_2 x_q_3 x_c_0 x_c_1 x_c_2
      have hq_q_2 := hid (stays b2 hq_q_1.out)
      have hq_c_2 := hid (stays b2 hq_c_1.out)
      have hq_p_2 := hid (stays b2 hq_p_1.out)
      have hq_d_2 := hid (stays b2 hq_d_1.out)
      have hb2 := hid (b_call hb1.out b2)
      have r_R_2 := hid (r_R_1.out.mono EBlob.stable (b_call (Below.refl w1.heap.size w1) b2))
      have r_E_2 := hid (r_E_1.out.mono EEntry.stable (b_call (Below.refl w1.heap.size w1) b2))
      replace o1 := hid o1
      replace o2 := hid o2
      have hs12 := b2.size
      have hs01 := hb1.out.size
      have hd1l := heap_lt hq_d_1.out
      clear hq_q_1 hq_c_1 hq_p_1 hq_d_1 hb1 r_R_1 r_E_1 b2
      obtain ⟨au, cu, rfl⟩ := OX.lenOf o2.out
      obtain ⟨rs1, hrs1, hO1, -⟩ := id o1.out
      have hgl := (World.ownsRow.lt hO1 gg (by simp [Value.ownBlock])).2
      obtain ⟨cur1, hcur1⟩ := OS.owns hO1
      replace hcur1 := hid hcur1
      clear hrs1 hO1
      obtain ⟨x_q_0, x_q_1, x_q_2, x_q_3⟩ := box4f hq_q_2.out
      have l_q := heap_lt hq_q_2.out
      obtain ⟨x_c_0, x_c_1, x_c_2, -⟩ := box3f hq_c_2.out
      have l_c := heap_lt hq_c_2.out
      go_wp2_with fail
      ((with_reducible refine (hnx.out _ (r_R_2.out.mono EBlob.stable (b_alloc (Below.refl w2.heap.size w2) _))).mono ?_); rintro e3 w3 ⟨rfl, b3⟩)
      clear x_q_0 x_q_1 x_q_2 x_q_3 l_q x_c_0 x_c_1 x_c_2 l_c
      have hq_o_3 := hid (stays b3 (heap_alloc_new w2 _))
      have hq_q_3 := hid (stays b3 (hold hq_q_2.out))
      have hq_c_3 := hid (stays b3 (hold hq_c_2.out))
      have hq_p_3 := hid (stays b3 (hold hq_p_2.out))
      have hq_d_3 := hid (stays b3 (hold hq_d_2.out))
      have hb3 := hid (b_call (b_alloc hb2.out _) b3)
      have r_R_3 := hid (r_R_2.out.mono EBlob.stable (b_call (b_alloc (Below.refl w2.heap.size w2) _) b3))
      have r_E_3 := hid (r_E_2.out.mono EEntry.stable (b_call (b_alloc (Below.refl w2.heap.size w2) _) b3))
      have o1n := hid ((OBlob.alloc o1.out (Obj.cells #[.slice (some ⟨gg, 0, none⟩) bs.length bs.length, .slice au es.length cu, .int .i64 r, .int .i64 t] 29)).after b3)
      have o2n := hid ((OEntry.alloc o2.out (Obj.cells #[.slice (some ⟨gg, 0, none⟩) bs.length bs.length, .slice au es.length cu, .int .i64 r, .int .i64 t] 29)).after b3)
      have hcur := hid (stays b3 ((heap_alloc_old w2 _ hgl).trans hcur1.out))
      have hs23 : w2.heap.size < w3.heap.size := by have := b3.size; simp at this; omega
      clear o1 o2 hcur1
      clear hq_q_2 hq_c_2 hq_p_2 hq_d_2 hb2 r_R_2 r_E_2 b3
      by_cases hi : i = bs.length
      · have hd := hid (hso.out.symm.trans (sw_none (List.getElem?_eq_none (by omega))))
        rw [if_pos hi] at hsi hse
        subst hsi hse
        clear hat hi
        obtain ⟨x_o_0, x_o_1, x_o_2, x_o_3⟩ := box4f hq_o_3.out
        have l_o := heap_lt hq_o_3.out
        obtain ⟨x_p_0, x_p_1, x_p_2, x_p_3⟩ := box4f hq_p_3.out
        have g_p_0 := frozen_heap hq_p_3.out 0
        have g_p_1 := frozen_heap hq_p_3.out 1
        have g_p_2 := frozen_heap hq_p_3.out 2
        have g_p_3 := frozen_heap hq_p_3.out 3
        obtain ⟨x_d_0, x_d_1, x_d_2, -⟩ := box3f hq_d_3.out
        have g_d_0 := frozen_heap hq_d_3.out 0
        have g_d_1 := frozen_heap hq_d_3.out 1
        have g_d_2 := frozen_heap hq_d_3.out 2
        go_wp2_with fail
        have hbox := (⟨_, _, _, _, _, _, _, _, hq_p_3.out⟩ : ∃ a n c a' n' c' r t, w3.heap[w.heap.size + 1 + 1]? = some (.cells #[.slice a n c, .slice a' n' c', .int .i64 r, .int .i64 t] 29 (0, 0)))
        have hdx := box4_other (q := w.heap.size + 1 + 1) (u0 := .slice (some ⟨gg, 0, none⟩) bs.length bs.length) (u1 := .slice au es.length cu) (u2 := .int .i64 r) (u3 := .int .i64 t) hq_d_3.out (by omega)
        have rl9 := ((o1n.out.toR hre hf1.out).box4 EBlob.writes hbox (some ⟨gg, 0, none⟩) bs.length bs.length au es.length cu r t).box3 EBlob.writesC ⟨_, _, _, _, _, hdx⟩ 0 none 0 0 ⟨#[]⟩
        have re9 := ((o2n.out.toR hre2 hf2.out).box4 EEntry.writes hbox (some ⟨gg, 0, none⟩) bs.length bs.length au es.length cu r t).box3 EEntry.writesC ⟨_, _, _, _, _, hdx⟩ 0 none 0 0 ⟨#[]⟩
        unfold World.box4 World.box3 at rl9 re9
        have hp9 := box3_other (q := w.heap.size + 1 + 1 + 1) (u0 := .int .i64 0) (u1 := .slice none 0 0) (u2 := .string ⟨#[]⟩) (box4_same (u0 := .slice (some ⟨gg, 0, none⟩) bs.length bs.length) (u1 := .slice au es.length cu) (u2 := .int .i64 r) (u3 := .int .i64 t) hq_p_3.out) (by omega)
        have hd9 := box3_same (u0 := .int .i64 0) (u1 := .slice none 0 0) (u2 := .string ⟨#[]⟩) (box4_other (q := w.heap.size + 1 + 1) (u0 := .slice (some ⟨gg, 0, none⟩) bs.length bs.length) (u1 := .slice au es.length cu) (u2 := .int .i64 r) (u3 := .int .i64 t) hq_d_3.out (by omega))
        have hb9 := b_box3 (b_box4 hb3.out (q := w.heap.size + 1 + 1) (by omega) (.slice (some ⟨gg, 0, none⟩) bs.length bs.length) (.slice au es.length cu) (.int .i64 r) (.int .i64 t)) (q := w.heap.size + 1 + 1 + 1) (by omega) (.int .i64 0) (.slice none 0 0) (.string ⟨#[]⟩)
        obtain ⟨m0, m1, m2, m3⟩ := box4f hp9
        obtain ⟨n0, n1, n2, -⟩ := box3f hd9
        unfold World.box4 World.box3 at m0 m1 m2 m3 n0 n1 n2 hb9
        (try simp only [Exit.inBlock, Exit.then])
        refine bodyPost_ret (by simp [results, Tryz.results118, go_sem, m0, m1, m2, m3, n0, n1, n2]; try rfl) rfl ?_
        exact sw_ok hd.out rl9 re9 hb9
      · have hx : bs[i]? = some bs[i] := List.getElem?_eq_getElem (by omega)
        generalize bs[i] = x at hx
        obtain ⟨bb, off, rfl, hbb, he⟩ := hat.out _ _ hx
        rw [if_neg hi] at hsi hse
        subst hsi hse
        have hilt : i < bs.length := by omega
        have hi0 : (0 : Int) ≤ (i : Int) := by omega
        have hi1 : (i : Int) < (bs.length : Int) := by omega
        have g5 : IntKind.i64.wrap ((i : Int) + 1) = (i : Int) + 1 := IntWalk.i64_in _ (by omega)
        have hbl : (bs.take i ++ bs.drop (i + 1)).length * 56 ≤ 140737488351232 := by
          have : (bs.take i ++ bs.drop (i + 1)).length ≤ bs.length := by rw [List.length_append, List.length_take, List.length_drop]; omega
          omega
        have hball := hid (show ∀ x ∈ bs.take i ++ bs.drop (i + 1), FitBlob x from fun x hx => by
          rcases List.mem_append.1 hx with hx | hx
          · exact hf1.out x (List.mem_of_mem_take hx)
          · exact hf1.out x (List.mem_of_mem_drop hx))
        have hdl : (bs.take i ++ bs.drop (i + 1)).length = bs.length - 1 := by rw [List.length_append, List.length_take, List.length_drop]; omega
        replace he := hid he
        clear hat
        cases hm : x.mark with
        | true =>
          have hd := hid (hso.out.symm.trans (sw_mark hx hm))
          clear hx
          obtain ⟨dv, d0, d1, d2, d3, rdv, -⟩ := EBlob.stable _ _ _ _ _ hb3.out hbb he.out
          obtain ⟨xa, xc, rfl, -⟩ := id rdv
          clear rdv
          obtain ⟨x_q_0, x_q_1, x_q_2, x_q_3⟩ := box4f hq_q_3.out
          have l_q := heap_lt hq_q_3.out
          obtain ⟨x_o_0, x_o_1, x_o_2, x_o_3⟩ := box4f hq_o_3.out
          have l_o := heap_lt hq_o_3.out
          go_wp2_with fail
          have hob := hid ((heap_alloc_old w3 (Obj.cells #[.string x.digest, .slice xa x.data.length xc, .int .i64 x.pins, .bool true] 50) (heap_lt hq_o_3.out)).trans hq_o_3.out)
          have hpb := hid ((heap_alloc_old w3 (Obj.cells #[.string x.digest, .slice xa x.data.length xc, .int .i64 x.pins, .bool true] 50) (heap_lt hq_p_3.out)).trans hq_p_3.out)
          have hdb := hid ((heap_alloc_old w3 (Obj.cells #[.string x.digest, .slice xa x.data.length xc, .int .i64 x.pins, .bool true] 50) (heap_lt hq_d_3.out)).trans hq_d_3.out)
          have hbbx := hid (heap_alloc_new w3 (Obj.cells #[.string x.digest, .slice xa x.data.length xc, .int .i64 x.pins, .bool true] 50))
          have hbw := hid (b_alloc hb3.out (Obj.cells #[.string x.digest, .slice xa x.data.length xc, .int .i64 x.pins, .bool true] 50))
          have rlw := hid ((o1n.out.alloc (Obj.cells #[.string x.digest, .slice xa x.data.length xc, .int .i64 x.pins, .bool true] 50)).toR hre hf1.out)
          have rew := hid ((o2n.out.alloc (Obj.cells #[.string x.digest, .slice xa x.data.length xc, .int .i64 x.pins, .bool true] 50)).toR hre2 hf2.out)
          have hwl : w3.heap.size < (w3.alloc (Obj.cells #[.string x.digest, .slice xa x.data.length xc, .int .i64 x.pins, .bool true] 50)).heap.size := by simp
          generalize w3.alloc (Obj.cells #[.string x.digest, .slice xa x.data.length xc, .int .i64 x.pins, .bool true] 50) = wb at *
          clear x_q_0 x_q_1 x_q_2 x_q_3 x_o_0 x_o_1 x_o_2 x_o_3 d0 d1 d2 d3
          obtain ⟨s0, s1, s2, s3⟩ := box4f hob.out
          obtain ⟨b0, b1, b2', b3'⟩ := box4f hbbx.out
          obtain ⟨y0, y1, y2, y3⟩ := box4f hpb.out
          obtain ⟨z0, z1, z2, -⟩ := box3f hdb.out
          have g0 := frozen_heap hpb.out 0
          have g1 := frozen_heap hpb.out 1
          have g2 := frozen_heap hpb.out 2
          have g3 := frozen_heap hpb.out 3
          have k0 := frozen_heap hdb.out 0
          have k1 := frozen_heap hdb.out 1
          have k2 := frozen_heap hdb.out 2
          have ne1 : w2.heap.size ≠ w.heap.size + 1 + 1 := by omega
          have ne2 : w2.heap.size ≠ w.heap.size + 1 + 1 + 1 := by omega
          have ne3 : w3.heap.size ≠ w.heap.size + 1 + 1 := by omega
          have ne4 : w3.heap.size ≠ w.heap.size + 1 + 1 + 1 := by omega
          have hnob := hob.out
          have hnbb := hbbx.out
          have hS := box4f hnob
          go_region_held3 (fun w' => w'.cell? ⟨w2.heap.size, 0, none⟩ = some (.slice (some ⟨gg, 0, none⟩) bs.length bs.length) ∧ w'.cell? ⟨w2.heap.size, 1, none⟩ = some (.slice au es.length cu) ∧ w'.cell? ⟨w2.heap.size, 2, none⟩ = some (.int .i64 r) ∧ w'.cell? ⟨w2.heap.size, 3, none⟩ = some (.int .i64 t) ∧ w'.cell? ⟨w3.heap.size, 0, none⟩ = some (.string x.digest))
            (first
              | with_reducible exact ⟨hS.1, hS.2.1, hS.2.2.1, hS.2.2.2, b0⟩
              | (have h1 := box4f (heap_drewn (box4_other (q := w.heap.size + 1 + 1) (u0 := .slice (some ⟨gg, 0, none⟩) bs.length bs.length) (u1 := .slice au es.length cu) (u2 := .int .i64 r) (u3 := .int .i64 t) hnob ne1))
                 have h2 := box4f (heap_drewn (box4_other (q := w.heap.size + 1 + 1) (u0 := .slice (some ⟨gg, 0, none⟩) bs.length bs.length) (u1 := .slice au es.length cu) (u2 := .int .i64 r) (u3 := .int .i64 t) hnbb ne3))
                 unfold World.box4 at h1 h2
                 (try unfold World.box3 at h1 h2)
                 with_reducible exact ⟨h1.1, h1.2.1, h1.2.2.1, h1.2.2.2, h2.1⟩)
              | (have h1 := box4f (heap_drewn (box3_other (q := w.heap.size + 1 + 1 + 1) (u0 := .int .i64 2) (u1 := .slice none 0 0) (u2 := .string x.digest) (box4_other (q := w.heap.size + 1 + 1) (u0 := .slice (some ⟨gg, 0, none⟩) bs.length bs.length) (u1 := .slice au es.length cu) (u2 := .int .i64 r) (u3 := .int .i64 t) hnob ne1) ne2))
                 have h2 := box4f (heap_drewn (box3_other (q := w.heap.size + 1 + 1 + 1) (u0 := .int .i64 2) (u1 := .slice none 0 0) (u2 := .string x.digest) (box4_other (q := w.heap.size + 1 + 1) (u0 := .slice (some ⟨gg, 0, none⟩) bs.length bs.length) (u1 := .slice au es.length cu) (u2 := .int .i64 r) (u3 := .int .i64 t) hnbb ne3) ne4))
                 unfold World.box4 at h1 h2
                 (try unfold World.box3 at h1 h2)
                 with_reducible exact ⟨h1.1, h1.2.1, h1.2.2.1, h1.2.2.2, h2.1⟩)
              | go_keep
              | fail)
            (fail)
          go_wp2_with fail
          have hbox := (⟨_, _, _, _, _, _, _, _, hpb.out⟩ : ∃ a n c a' n' c' r t, wb.heap[w.heap.size + 1 + 1]? = some (.cells #[.slice a n c, .slice a' n' c', .int .i64 r, .int .i64 t] 29 (0, 0)))
          have hdx := box4_other (q := w.heap.size + 1 + 1) (u0 := .slice (some ⟨gg, 0, none⟩) bs.length bs.length) (u1 := .slice au es.length cu) (u2 := .int .i64 r) (u3 := .int .i64 t) hdb.out (by omega)
          have rl9 := (rlw.out.box4 EBlob.writes hbox (some ⟨gg, 0, none⟩) bs.length bs.length au es.length cu r t).box3 EBlob.writesC ⟨_, _, _, _, _, hdx⟩ 2 none 0 0 x.digest
          have re9 := (rew.out.box4 EEntry.writes hbox (some ⟨gg, 0, none⟩) bs.length bs.length au es.length cu r t).box3 EEntry.writesC ⟨_, _, _, _, _, hdx⟩ 2 none 0 0 x.digest
          unfold World.box4 World.box3 at rl9 re9
          have hp9 := box3_other (q := w.heap.size + 1 + 1 + 1) (u0 := .int .i64 2) (u1 := .slice none 0 0) (u2 := .string x.digest) (box4_same (u0 := .slice (some ⟨gg, 0, none⟩) bs.length bs.length) (u1 := .slice au es.length cu) (u2 := .int .i64 r) (u3 := .int .i64 t) hpb.out) (by omega)
          have hd9 := box3_same (u0 := .int .i64 2) (u1 := .slice none 0 0) (u2 := .string x.digest) (box4_other (q := w.heap.size + 1 + 1) (u0 := .slice (some ⟨gg, 0, none⟩) bs.length bs.length) (u1 := .slice au es.length cu) (u2 := .int .i64 r) (u3 := .int .i64 t) hdb.out (by omega))
          have hb9 := b_box3 (b_box4 hbw.out (q := w.heap.size + 1 + 1) (by omega) (.slice (some ⟨gg, 0, none⟩) bs.length bs.length) (.slice au es.length cu) (.int .i64 r) (.int .i64 t)) (q := w.heap.size + 1 + 1 + 1) (by omega) (.int .i64 2) (.slice none 0 0) (.string x.digest)
          replace hp9 := heap_drewn hp9
          replace hd9 := heap_drewn hd9
          replace hb9 := hb9.drew
          replace rl9 := rl9.mono EBlob.stable (Below.refl _ _).drew
          replace re9 := re9.mono EEntry.stable (Below.refl _ _).drew
          obtain ⟨m0, m1, m2, m3⟩ := box4f hp9
          obtain ⟨n0, n1, n2, -⟩ := box3f hd9
          unfold World.box4 World.box3 at m0 m1 m2 m3 n0 n1 n2 hb9
          (try simp only [Exit.inBlock, Exit.then])
          refine bodyPost_ret (by simp [results, Tryz.results118, go_sem, m0, m1, m2, m3, n0, n1, n2]; try rfl) rfl ?_
          exact sw_ok hd.out rl9 re9 hb9
        | false =>
          obtain ⟨dv, d0, d1, d2, d3, rdv, -⟩ := EBlob.stable _ _ _ _ _ hb3.out hbb he.out
          obtain ⟨xa, xc, rfl, -⟩ := id rdv
          clear rdv
          obtain ⟨x_q_0, x_q_1, x_q_2, x_q_3⟩ := box4f hq_q_3.out
          have l_q := heap_lt hq_q_3.out
          obtain ⟨x_o_0, x_o_1, x_o_2, x_o_3⟩ := box4f hq_o_3.out
          have l_o := heap_lt hq_o_3.out
          go_wp2_with fail
          have hob := hid ((heap_alloc_old w3 (Obj.cells #[.string x.digest, .slice xa x.data.length xc, .int .i64 x.pins, .bool false] 50) (heap_lt hq_o_3.out)).trans hq_o_3.out)
          have hpb := hid ((heap_alloc_old w3 (Obj.cells #[.string x.digest, .slice xa x.data.length xc, .int .i64 x.pins, .bool false] 50) (heap_lt hq_p_3.out)).trans hq_p_3.out)
          have hdb := hid ((heap_alloc_old w3 (Obj.cells #[.string x.digest, .slice xa x.data.length xc, .int .i64 x.pins, .bool false] 50) (heap_lt hq_d_3.out)).trans hq_d_3.out)
          have hbbx := hid (heap_alloc_new w3 (Obj.cells #[.string x.digest, .slice xa x.data.length xc, .int .i64 x.pins, .bool false] 50))
          have hbw := hid (b_alloc hb3.out (Obj.cells #[.string x.digest, .slice xa x.data.length xc, .int .i64 x.pins, .bool false] 50))
          have rlw := hid ((o1n.out.alloc (Obj.cells #[.string x.digest, .slice xa x.data.length xc, .int .i64 x.pins, .bool false] 50)).toR hre hf1.out)
          have rew := hid ((o2n.out.alloc (Obj.cells #[.string x.digest, .slice xa x.data.length xc, .int .i64 x.pins, .bool false] 50)).toR hre2 hf2.out)
          have obw := hid (o1n.out.alloc (Obj.cells #[.string x.digest, .slice xa x.data.length xc, .int .i64 x.pins, .bool false] 50))
          have oew := hid (o2n.out.alloc (Obj.cells #[.string x.digest, .slice xa x.data.length xc, .int .i64 x.pins, .bool false] 50))
          have hcb := hid ((heap_alloc_old w3 (Obj.cells #[.string x.digest, .slice xa x.data.length xc, .int .i64 x.pins, .bool false] 50) (heap_lt hcur.out)).trans hcur.out)
          have hwl : w3.heap.size < (w3.alloc (Obj.cells #[.string x.digest, .slice xa x.data.length xc, .int .i64 x.pins, .bool false] 50)).heap.size := by simp
          generalize w3.alloc (Obj.cells #[.string x.digest, .slice xa x.data.length xc, .int .i64 x.pins, .bool false] 50) = wb at *
          clear x_q_0 x_q_1 x_q_2 x_q_3 x_o_0 x_o_1 x_o_2 x_o_3 d0 d1 d2 d3 rlw rew l_q l_o
          obtain ⟨s0, s1, s2, s3⟩ := box4f hob.out
          have fo0 := frozen_heap hob.out 0
          have hgo : gg < w2.heap.size := hgl
          have hgb : gg ≤ wb.heap.size := by omega
          ((with_reducible refine (slices_Delete_G bs i gg wb obw.out hilt hgb (by omega)).mono ?_); rintro e4 w4 ⟨⟨cc, rfl, od, bd⟩, gr⟩)
          clear s0 s1 s2 s3 fo0
          have hO4 := hid ((gr.block _ (heap_lt hob.out) (by simp; omega)).trans hob.out)
          have hP4 := hid ((gr.block _ (heap_lt hpb.out) (by simp; omega)).trans hpb.out)
          have hD4 := hid ((gr.block _ (heap_lt hdb.out) (by simp; omega)).trans hdb.out)
          have hB4 := hid ((gr.block _ (heap_lt hbbx.out) (by simp; omega)).trans hbbx.out)
          have oe4 := OEntry.grown oew.out gr hcb.out (by decide) (by decide)
          have rb5 := hid ((od.other (o := 0) (u := .slice (some ⟨gg, 0, none⟩) (bs.length - 1) cc) hO4.out (by decide) (by decide)).toR hbl hball.out)
          have re5 := hid ((oe4.other (o := 0) (u := .slice (some ⟨gg, 0, none⟩) (bs.length - 1) cc) hO4.out (by decide) (by decide)).toR hre2 hf2.out)
          have hO5 := hid (box4_0 (u := .slice (some ⟨gg, 0, none⟩) (bs.length - 1) cc) hO4.out)
          have hP5 := hid (box_other (q := w2.heap.size) (o := 0) (u := .slice (some ⟨gg, 0, none⟩) (bs.length - 1) cc) hP4.out (by omega))
          have hD5 := hid (box_other (q := w2.heap.size) (o := 0) (u := .slice (some ⟨gg, 0, none⟩) (bs.length - 1) cc) hD4.out (by omega))
          have hB5 := hid (box_other (q := w2.heap.size) (o := 0) (u := .slice (some ⟨gg, 0, none⟩) (bs.length - 1) cc) hB4.out (by omega))
          have hb5 := hid (b_set (hbw.out.trans (bd.mono (by omega))) (p := ⟨w2.heap.size, 0, none⟩) (show w.heap.size ≤ w2.heap.size by omega) (.slice (some ⟨gg, 0, none⟩) (bs.length - 1) cc))
          obtain ⟨s0, s1, s2, s3⟩ := box4f hO4.out
          have fo0 := frozen_heap hO4.out 0
          obtain ⟨b0, b1, b2', b3'⟩ := box4f hB4.out
          obtain ⟨y0, y1, y2, y3⟩ := box4f hP4.out
          obtain ⟨z0, z1, z2, -⟩ := box3f hD4.out
          have g0 := frozen_heap hP4.out 0
          have g1 := frozen_heap hP4.out 1
          have g2 := frozen_heap hP4.out 2
          have g3 := frozen_heap hP4.out 3
          have k0 := frozen_heap hD4.out 0
          have k1 := frozen_heap hD4.out 1
          have k2 := frozen_heap hD4.out 2
          have l4 := heap_lt hO4.out
          clear od bd gr oe4 obw oew hcb hob hpb hdb hbbx
          clear hP4 hD4 hB4 hO4
          by_cases hp : 0 < x.pins
          · have hd := hid (hso.out.symm.trans (sw_held hx hm (.inl hp)))
            have qp : decide (0 < x.pins) = true := by simp [hp]
            clear hx hp
            go_wp2_with fail
            have hp9 := box3_other (q := w.heap.size + 1 + 1 + 1) (u0 := .int .i64 0) (u1 := .slice none 0 0) (u2 := .string ⟨#[]⟩) (box4_same (u0 := .slice none 0 0) (u1 := .slice none 0 0) (u2 := .int .i64 0) (u3 := .int .i64 0) hP5.out) (by omega)
            have hd9 := box3_same (u0 := .int .i64 0) (u1 := .slice none 0 0) (u2 := .string ⟨#[]⟩) (box4_other (q := w.heap.size + 1 + 1) (u0 := .slice none 0 0) (u1 := .slice none 0 0) (u2 := .int .i64 0) (u3 := .int .i64 0) hD5.out (by omega))
            have hb9 := b_box3 (b_box4 hb5.out (q := w.heap.size + 1 + 1) (by omega) (.slice none 0 0) (.slice none 0 0) (.int .i64 0) (.int .i64 0)) (q := w.heap.size + 1 + 1 + 1) (by omega) (.int .i64 0) (.slice none 0 0) (.string ⟨#[]⟩)
            obtain ⟨m0, m1, m2, m3⟩ := box4f hp9
            obtain ⟨n0, n1, n2, -⟩ := box3f hd9
            unfold World.box4 World.box3 at m0 m1 m2 m3 n0 n1 n2 hb9
            (try simp only [Exit.inBlock, Exit.then])
            refine bodyPost_ret (by simp [results, Tryz.results118, go_sem, m0, m1, m2, m3, n0, n1, n2]; try rfl) rfl ?_
            exact sw_no hd.out hb9
          · have qp : decide (0 < x.pins) = false := by simp; omega
            go_wp2_with fail
            generalize w4.setCell ⟨w2.heap.size, 0, none⟩ (.slice (some ⟨gg, 0, none⟩) (bs.length - 1) cc) = w5 at *
            ((with_reducible refine (hch2.out _ _ _ rb5.out re5.out).mono ?_); rintro e6 w6 ⟨rfl, bk6⟩)
            clear s0 s1 s2 s3 b0 b1 b2' b3' y0 y1 y2 y3 z0 z1 z2 g0 g1 g2 g3 k0 k1 k2 fo0 l4
            have hO6 := hid (stays bk6 hO5.out)
            have hP6 := hid (stays bk6 hP5.out)
            have hD6 := hid (stays bk6 hD5.out)
            have hB6 := hid (stays bk6 hB5.out)
            have rb6 := hid (rb5.out.mono EBlob.stable bk6)
            have re6 := hid (re5.out.mono EEntry.stable bk6)
            have hb6 := hid (b_call hb5.out bk6)
            clear hO5 hP5 hD5 hB5 rb5 re5 hb5 bk6
            obtain ⟨s0, s1, s2, s3⟩ := box4f hO6.out
            obtain ⟨b0, b1, b2', b3'⟩ := box4f hB6.out
            obtain ⟨y0, y1, y2, y3⟩ := box4f hP6.out
            obtain ⟨z0, z1, z2, -⟩ := box3f hD6.out
            have g0 := frozen_heap hP6.out 0
            have g1 := frozen_heap hP6.out 1
            have g2 := frozen_heap hP6.out 2
            have g3 := frozen_heap hP6.out 3
            have k0 := frozen_heap hD6.out 0
            have k1 := frozen_heap hD6.out 1
            have k2 := frozen_heap hD6.out 2
            by_cases hf : f = 0
            · have hd := hid (hso.out.symm.trans (sw_gone hx hm (by omega) hf))
              subst hf
              clear hx hp
              go_wp2_with fail
              have ne1 : w2.heap.size ≠ w.heap.size + 1 + 1 := by omega
              have ne2 : w2.heap.size ≠ w.heap.size + 1 + 1 + 1 := by omega
              have ne3 : w3.heap.size ≠ w.heap.size + 1 + 1 := by omega
              have ne4 : w3.heap.size ≠ w.heap.size + 1 + 1 + 1 := by omega
              have hnob := hO6.out
              have hnbb := hB6.out
              have hS := box4f hnob
              go_region_held3 (fun w' => w'.cell? ⟨w2.heap.size, 0, none⟩ = some (.slice (some ⟨gg, 0, none⟩) (bs.length - 1) cc) ∧ w'.cell? ⟨w2.heap.size, 1, none⟩ = some (.slice au es.length cu) ∧ w'.cell? ⟨w2.heap.size, 2, none⟩ = some (.int .i64 r) ∧ w'.cell? ⟨w2.heap.size, 3, none⟩ = some (.int .i64 t) ∧ w'.cell? ⟨w3.heap.size, 0, none⟩ = some (.string x.digest))
                (first
                  | with_reducible exact ⟨hS.1, hS.2.1, hS.2.2.1, hS.2.2.2, b0⟩
                  | (have h1 := box4f (heap_drewn (box4_other (q := w.heap.size + 1 + 1) (u0 := .slice (some ⟨gg, 0, none⟩) (bs.length - 1) cc) (u1 := .slice au es.length cu) (u2 := .int .i64 r) (u3 := .int .i64 t) hnob ne1))
                     have h2 := box4f (heap_drewn (box4_other (q := w.heap.size + 1 + 1) (u0 := .slice (some ⟨gg, 0, none⟩) (bs.length - 1) cc) (u1 := .slice au es.length cu) (u2 := .int .i64 r) (u3 := .int .i64 t) hnbb ne3))
                     unfold World.box4 at h1 h2
                     (try unfold World.box3 at h1 h2)
                     with_reducible exact ⟨h1.1, h1.2.1, h1.2.2.1, h1.2.2.2, h2.1⟩)
                  | (have h1 := box4f (heap_drewn (box3_other (q := w.heap.size + 1 + 1 + 1) (u0 := .int .i64 2) (u1 := .slice none 0 0) (u2 := .string x.digest) (box4_other (q := w.heap.size + 1 + 1) (u0 := .slice (some ⟨gg, 0, none⟩) (bs.length - 1) cc) (u1 := .slice au es.length cu) (u2 := .int .i64 r) (u3 := .int .i64 t) hnob ne1) ne2))
                     have h2 := box4f (heap_drewn (box3_other (q := w.heap.size + 1 + 1 + 1) (u0 := .int .i64 2) (u1 := .slice none 0 0) (u2 := .string x.digest) (box4_other (q := w.heap.size + 1 + 1) (u0 := .slice (some ⟨gg, 0, none⟩) (bs.length - 1) cc) (u1 := .slice au es.length cu) (u2 := .int .i64 r) (u3 := .int .i64 t) hnbb ne3) ne4))
                     unfold World.box4 at h1 h2
                     (try unfold World.box3 at h1 h2)
                     with_reducible exact ⟨h1.1, h1.2.1, h1.2.2.1, h1.2.2.2, h2.1⟩)
                  | go_keep
                  | fail)
                (fail)
              go_wp2_with fail
              have hbox := (⟨_, _, _, _, _, _, _, _, hP6.out⟩ : ∃ a n c a' n' c' r t, w6.heap[w.heap.size + 1 + 1]? = some (.cells #[.slice a n c, .slice a' n' c', .int .i64 r, .int .i64 t] 29 (0, 0)))
              have hdx := box4_other (q := w.heap.size + 1 + 1) (u0 := .slice (some ⟨gg, 0, none⟩) (bs.length - 1) cc) (u1 := .slice au es.length cu) (u2 := .int .i64 r) (u3 := .int .i64 t) hD6.out (by omega)
              have rl9 := (rb6.out.box4 EBlob.writes hbox (some ⟨gg, 0, none⟩) (bs.length - 1) cc au es.length cu r t).box3 EBlob.writesC ⟨_, _, _, _, _, hdx⟩ 2 none 0 0 x.digest
              have re9 := (re6.out.box4 EEntry.writes hbox (some ⟨gg, 0, none⟩) (bs.length - 1) cc au es.length cu r t).box3 EEntry.writesC ⟨_, _, _, _, _, hdx⟩ 2 none 0 0 x.digest
              unfold World.box4 World.box3 at rl9 re9
              have hp9 := box3_other (q := w.heap.size + 1 + 1 + 1) (u0 := .int .i64 2) (u1 := .slice none 0 0) (u2 := .string x.digest) (box4_same (u0 := .slice (some ⟨gg, 0, none⟩) (bs.length - 1) cc) (u1 := .slice au es.length cu) (u2 := .int .i64 r) (u3 := .int .i64 t) hP6.out) (by omega)
              have hd9 := box3_same (u0 := .int .i64 2) (u1 := .slice none 0 0) (u2 := .string x.digest) (box4_other (q := w.heap.size + 1 + 1) (u0 := .slice (some ⟨gg, 0, none⟩) (bs.length - 1) cc) (u1 := .slice au es.length cu) (u2 := .int .i64 r) (u3 := .int .i64 t) hD6.out (by omega))
              have hb9 := b_box3 (b_box4 hb6.out (q := w.heap.size + 1 + 1) (by omega) (.slice (some ⟨gg, 0, none⟩) (bs.length - 1) cc) (.slice au es.length cu) (.int .i64 r) (.int .i64 t)) (q := w.heap.size + 1 + 1 + 1) (by omega) (.int .i64 2) (.slice none 0 0) (.string x.digest)
              replace hp9 := heap_drewn hp9
              replace hd9 := heap_drewn hd9
              replace hb9 := hb9.drew
              replace rl9 := rl9.mono EBlob.stable (Below.refl _ _).drew
              replace re9 := re9.mono EEntry.stable (Below.refl _ _).drew
              obtain ⟨m0, m1, m2, m3⟩ := box4f hp9
              obtain ⟨n0, n1, n2, -⟩ := box3f hd9
              unfold World.box4 World.box3 at m0 m1 m2 m3 n0 n1 n2 hb9
              (try simp only [Exit.inBlock, Exit.then])
              refine bodyPost_ret (by simp [results, Tryz.results118, go_sem, m0, m1, m2, m3, n0, n1, n2]; try rfl) rfl ?_
              exact sw_ok hd.out rl9 re9 hb9
            · have hd := hid (hso.out.symm.trans (sw_held hx hm (.inr hf)))
              have qf : (f != 0) = true := by simp [hf]
              clear hx hp hf
              go_wp2_with fail
              have hp9 := box3_other (q := w.heap.size + 1 + 1 + 1) (u0 := .int .i64 0) (u1 := .slice none 0 0) (u2 := .string ⟨#[]⟩) (box4_same (u0 := .slice none 0 0) (u1 := .slice none 0 0) (u2 := .int .i64 0) (u3 := .int .i64 0) hP6.out) (by omega)
              have hd9 := box3_same (u0 := .int .i64 0) (u1 := .slice none 0 0) (u2 := .string ⟨#[]⟩) (box4_other (q := w.heap.size + 1 + 1) (u0 := .slice none 0 0) (u1 := .slice none 0 0) (u2 := .int .i64 0) (u3 := .int .i64 0) hD6.out (by omega))
              have hb9 := b_box3 (b_box4 hb6.out (q := w.heap.size + 1 + 1) (by omega) (.slice none 0 0) (.slice none 0 0) (.int .i64 0) (.int .i64 0)) (q := w.heap.size + 1 + 1 + 1) (by omega) (.int .i64 0) (.slice none 0 0) (.string ⟨#[]⟩)
              obtain ⟨m0, m1, m2, m3⟩ := box4f hp9
              obtain ⟨n0, n1, n2, -⟩ := box3f hd9
              unfold World.box4 World.box3 at m0 m1 m2 m3 n0 n1 n2 hb9
              (try simp only [Exit.inBlock, Exit.then])
              refine bodyPost_ret (by simp [results, Tryz.results118, go_sem, m0, m1, m2, m3, n0, n1, n2]; try rfl) rfl ?_
              exact sw_no hd.out hb9
    · have q2 : (ph != 2) = true := by simp [hph]
      have hd := hid (hso.out.symm.trans (sw_idle hph))
      clear hat hch2
      obtain ⟨x_q_0, x_q_1, x_q_2, x_q_3⟩ := box4f hq_q_1.out
      obtain ⟨x_c_0, x_c_1, x_c_2, -⟩ := box3f hq_c_1.out
      obtain ⟨x_p_0, x_p_1, x_p_2, x_p_3⟩ := box4f hq_p_1.out
      have g_p_0 := frozen_heap hq_p_1.out 0
      have g_p_1 := frozen_heap hq_p_1.out 1
      have g_p_2 := frozen_heap hq_p_1.out 2
      have g_p_3 := frozen_heap hq_p_1.out 3
      obtain ⟨x_d_0, x_d_1, x_d_2, -⟩ := box3f hq_d_1.out
      have g_d_0 := frozen_heap hq_d_1.out 0
      have g_d_1 := frozen_heap hq_d_1.out 1
      have g_d_2 := frozen_heap hq_d_1.out 2
      go_wp2_with fail
      have hp9 := box3_other (q := w.heap.size + 1 + 1 + 1) (u0 := .int .i64 0) (u1 := .slice none 0 0) (u2 := .string ⟨#[]⟩) (box4_same (u0 := .slice none 0 0) (u1 := .slice none 0 0) (u2 := .int .i64 0) (u3 := .int .i64 0) hq_p_1.out) (by omega)
      have hd9 := box3_same (u0 := .int .i64 0) (u1 := .slice none 0 0) (u2 := .string ⟨#[]⟩) (box4_other (q := w.heap.size + 1 + 1) (u0 := .slice none 0 0) (u1 := .slice none 0 0) (u2 := .int .i64 0) (u3 := .int .i64 0) hq_d_1.out (by omega))
      have hb9 := b_box3 (b_box4 hb1.out (q := w.heap.size + 1 + 1) (by omega) (.slice none 0 0) (.slice none 0 0) (.int .i64 0) (.int .i64 0)) (q := w.heap.size + 1 + 1 + 1) (by omega) (.int .i64 0) (.slice none 0 0) (.string ⟨#[]⟩)
      obtain ⟨m0, m1, m2, m3⟩ := box4f hp9
      obtain ⟨n0, n1, n2, -⟩ := box3f hd9
      unfold World.box4 World.box3 at m0 m1 m2 m3 n0 n1 n2 hb9
      (try simp only [Exit.inBlock, Exit.then])
      refine bodyPost_ret (by simp [results, Tryz.results118, go_sem, m0, m1, m2, m3, n0, n1, n2]; try rfl) rfl ?_
      exact sw_no hd.out hb9
  · have ht : (z != 0) = true := by simp [hz]
    have hd := hid (hso.out.symm.trans (sw_bad hz))
    clear hat hch2
    obtain ⟨x_q_0, x_q_1, x_q_2, x_q_3⟩ := box4f hq_q_1.out
    obtain ⟨x_c_0, x_c_1, x_c_2, -⟩ := box3f hq_c_1.out
    obtain ⟨x_p_0, x_p_1, x_p_2, x_p_3⟩ := box4f hq_p_1.out
    have g_p_0 := frozen_heap hq_p_1.out 0
    have g_p_1 := frozen_heap hq_p_1.out 1
    have g_p_2 := frozen_heap hq_p_1.out 2
    have g_p_3 := frozen_heap hq_p_1.out 3
    obtain ⟨x_d_0, x_d_1, x_d_2, -⟩ := box3f hq_d_1.out
    have g_d_0 := frozen_heap hq_d_1.out 0
    have g_d_1 := frozen_heap hq_d_1.out 1
    have g_d_2 := frozen_heap hq_d_1.out 2
    go_wp2_with fail
    have hp9 := box3_other (q := w.heap.size + 1 + 1 + 1) (u0 := .int .i64 0) (u1 := .slice none 0 0) (u2 := .string ⟨#[]⟩) (box4_same (u0 := .slice none 0 0) (u1 := .slice none 0 0) (u2 := .int .i64 0) (u3 := .int .i64 0) hq_p_1.out) (by omega)
    have hd9 := box3_same (u0 := .int .i64 0) (u1 := .slice none 0 0) (u2 := .string ⟨#[]⟩) (box4_other (q := w.heap.size + 1 + 1) (u0 := .slice none 0 0) (u1 := .slice none 0 0) (u2 := .int .i64 0) (u3 := .int .i64 0) hq_d_1.out (by omega))
    have hb9 := b_box3 (b_box4 hb1.out (q := w.heap.size + 1 + 1) (by omega) (.slice none 0 0) (.slice none 0 0) (.int .i64 0) (.int .i64 0)) (q := w.heap.size + 1 + 1 + 1) (by omega) (.int .i64 0) (.slice none 0 0) (.string ⟨#[]⟩)
    obtain ⟨m0, m1, m2, m3⟩ := box4f hp9
    obtain ⟨n0, n1, n2, -⟩ := box3f hd9
    unfold World.box4 World.box3 at m0 m1 m2 m3 n0 n1 n2 hb9
    (try simp only [Exit.inBlock, Exit.then])
    refine bodyPost_ret (by simp [results, Tryz.results118, go_sem, m0, m1, m2, m3, n0, n1, n2]; try rfl) rfl ?_
    exact sw_no hd.out hb9
end Go.Proofs.YtpcnhldlfmdlhaaGreat

namespace Go.Proofs.YtpcnhldlfmdlhaaGreat
open Go.RowKit

set_option maxRecDepth 100000 in
set_option maxHeartbeats 4000000 in
theorem ref_Swept' (v u gv : Value) (bs : List Blob) (es : List Entry) (r t ph : Int) (at1 : ByteArray) (w : World) (h : RBl w v bs) (g : RE w u es) (z f : Int)
    (hgv : ∃ a n c, gv = .slice a n c)
    (hch : ∀ w, RBl w v bs → RE w u es → Calls Tryz.prog 119 #[.agg #[v, u, .int .i64 r, .int .i64 t]] w fun e w' => e = .returned (.int .i64 z) ∧ Below w.heap.size w w')
    (hch2 : ∀ v u w, RBl w v (bs.take (swAt at1 bs) ++ bs.drop (swAt at1 bs + 1)) → RE w u es → Calls Tryz.prog 119 #[.agg #[v, u, .int .i64 r, .int .i64 t]] w fun e w' => e = .returned (.int .i64 f) ∧ Below w.heap.size w w') :
    Calls Tryz.prog 129 #[.agg #[v, u, .int .i64 r, .int .i64 t], .agg #[.int .i64 ph, gv, .string at1]] w (SwRes (swOut z f ph (swAt at1 bs) bs es r t) w) := by
  obtain ⟨i0, ii0, hz0, hz1, hz2⟩ := info_parts info_B
  obtain ⟨ga, gn, gc, rfl⟩ := hgv
  replace hch := hid hch
  replace hch2 := hid hch2
  have hR := hid h
  have hE := hid g
  have hf1 := hid (fit_B h)
  have hf2 := hid (fit_E g)
  obtain ⟨a, c, rfl, hlc, hcm, hre, -, hat⟩ := h
  obtain ⟨a2, c2, rfl, -, -, hre2, -⟩ := g
  unfold maxLen at hcm
  replace hat := hid hat
  have hnx := hid (fun w (g : RBl w (.slice a bs.length c) bs) => (ref_SweepNext (.slice a bs.length c) bs at1 w g).mono (fun e w' ⟨h1, h2⟩ => (⟨h1, h2 ▸ Below.refl _ _⟩ : _ ∧ Below w.heap.size w w')))
  have hle : swAt at1 bs ≤ bs.length := firstAt_le _ _
  generalize hso : swOut z f ph (swAt at1 bs) bs es r t = so
  generalize swAt at1 bs = i at *
  replace hso := hid hso
  go_enter Tryz.func129, Tryz.ntmps129
  go_wp2_with fail
  ((with_reducible refine (hch.out _ (hR.out.mono EBlob.stable (b_alloc (b_alloc (b_alloc (b_alloc (Below.refl w.heap.size w) _) _) _) _)) (hE.out.mono EEntry.stable (b_alloc (b_alloc (b_alloc (b_alloc (Below.refl w.heap.size w) _) _) _) _))).mono ?_); rintro e1 w1 ⟨rfl, b1⟩)
  have hq_q_1 := hid (stays b1 (hold (hold (hold (heap_put w _ (w.heap.size) (by simp))))))
  have hq_c_1 := hid (stays b1 (hold (hold (heap_put _ _ (w.heap.size + 1) (by simp)))))
  have hq_p_1 := hid (stays b1 (hold (heap_put _ _ (w.heap.size + 1 + 1) (by simp))))
  have hq_d_1 := hid (stays b1 (heap_put _ _ (w.heap.size + 1 + 1 + 1) (by simp)))
  have hb1 := hid (b_call (b_alloc (b_alloc (b_alloc (b_alloc (Below.refl w.heap.size w) _) _) _) _) b1)
  have r_R_1 := hid (hR.out.mono EBlob.stable (b_call (b_alloc (b_alloc (b_alloc (b_alloc (Below.refl w.heap.size w) _) _) _) _) b1))
  have r_E_1 := hid (hE.out.mono EEntry.stable (b_call (b_alloc (b_alloc (b_alloc (b_alloc (Below.refl w.heap.size w) _) _) _) _) b1))
  clear b1
  by_cases hz : z = 0
  · subst hz
    by_cases hph : ph = 2
    · subst hph
      obtain ⟨x_q_0, x_q_1, x_q_2, x_q_3⟩ := box4f hq_q_1.out
      have l_q := heap_lt hq_q_1.out
      obtain ⟨x_c_0, x_c_1, x_c_2, -⟩ := box3f hq_c_1.out
      have l_c := heap_lt hq_c_1.out
      go_wp2_with fail
      ((with_reducible refine (hnx.out _ r_R_1.out).mono ?_); rintro e2 w2 ⟨rfl, b2⟩)
      clear x_q_0 x_q_1 x_q_2 x_q_3 l_q x_c_0 x_c_1 x_c_2 l_c
      have hq_q_2 := hid (stays b2 hq_q_1.out)
      have hq_c_2 := hid (stays b2 hq_c_1.out)
      have hq_p_2 := hid (stays b2 hq_p_1.out)
      have hq_d_2 := hid (stays b2 hq_d_1.out)
      have hb2 := hid (b_call hb1.out b2)
      have r_R_2 := hid (r_R_1.out.mono EBlob.stable (b_call (Below.refl w1.heap.size w1) b2))
      have r_E_2 := hid (r_E_1.out.mono EEntry.stable (b_call (Below.refl w1.heap.size w1) b2))
      clear hq_q_1 hq_c_1 hq_p_1 hq_d_1 hb1 r_R_1 r_E_1 b2
      obtain ⟨x_q_0, x_q_1, x_q_2, x_q_3⟩ := box4f hq_q_2.out
      have l_q := heap_lt hq_q_2.out
      obtain ⟨x_c_0, x_c_1, x_c_2, -⟩ := box3f hq_c_2.out
      have l_c := heap_lt hq_c_2.out
      go_wp2_with fail
      ((with_reducible refine (ref_StoreCopyO _ _ bs es r t _ r_R_2.out r_E_2.out).mono ?_); rintro e3 w3 ⟨v2, u2, rfl, o1, o2, b3⟩)
      clear x_q_0 x_q_1 x_q_2 x_q_3 l_q x_c_0 x_c_1 x_c_2 l_c
      have hq_q_3 := hid (stays b3 hq_q_2.out)
      have hq_c_3 := hid (stays b3 hq_c_2.out)
      have hq_p_3 := hid (stays b3 hq_p_2.out)
      have hq_d_3 := hid (stays b3 hq_d_2.out)
      have hb3 := hid (b_call hb2.out b3)
      have r_R_3 := hid (r_R_2.out.mono EBlob.stable (b_call (Below.refl w2.heap.size w2) b3))
      have r_E_3 := hid (r_E_2.out.mono EEntry.stable (b_call (Below.refl w2.heap.size w2) b3))
      replace o1 := hid (o1.toR hre hf1.out)
      replace o2 := hid (o2.toR hre2 hf2.out)
      clear hq_q_2 hq_c_2 hq_p_2 hq_d_2 hb2 r_R_2 r_E_2 b3
      obtain ⟨av, cv, rfl, -⟩ := id o1.out
      obtain ⟨au, cu, rfl, -⟩ := id o2.out
      obtain ⟨x_q_0, x_q_1, x_q_2, x_q_3⟩ := box4f hq_q_3.out
      have l_q := heap_lt hq_q_3.out
      obtain ⟨x_c_0, x_c_1, x_c_2, -⟩ := box3f hq_c_3.out
      have l_c := heap_lt hq_c_3.out
      have l_p := heap_lt hq_p_3.out
      have l_d := heap_lt hq_d_3.out
      go_upto_region 8 with fail
      have hqo := hid ((heap_alloc_old w3 (Obj.cells #[.slice av bs.length cv, .slice au es.length cu, .int .i64 r, .int .i64 t] 29) l_q).trans hq_q_3.out)
      have hpo := hid ((heap_alloc_old w3 (Obj.cells #[.slice av bs.length cv, .slice au es.length cu, .int .i64 r, .int .i64 t] 29) l_p).trans hq_p_3.out)
      have hdo := hid ((heap_alloc_old w3 (Obj.cells #[.slice av bs.length cv, .slice au es.length cu, .int .i64 r, .int .i64 t] 29) l_d).trans hq_d_3.out)
      have hoo := hid (heap_alloc_new w3 (Obj.cells #[.slice av bs.length cv, .slice au es.length cu, .int .i64 r, .int .i64 t] 29))
      have hbo := hid (b_alloc hb3.out (Obj.cells #[.slice av bs.length cv, .slice au es.length cu, .int .i64 r, .int .i64 t] 29))
      have rlo := hid (o1.out.mono EBlob.stable (b_alloc (Below.refl w3.heap.size w3) (Obj.cells #[.slice av bs.length cv, .slice au es.length cu, .int .i64 r, .int .i64 t] 29)))
      have reo := hid (o2.out.mono EEntry.stable (b_alloc (Below.refl w3.heap.size w3) (Obj.cells #[.slice av bs.length cv, .slice au es.length cu, .int .i64 r, .int .i64 t] 29)))
      have rRo := hid (r_R_3.out.mono EBlob.stable (b_alloc (Below.refl w3.heap.size w3) (Obj.cells #[.slice av bs.length cv, .slice au es.length cu, .int .i64 r, .int .i64 t] 29)))
      have hsz3 : w3.heap.size < (w3.alloc (Obj.cells #[.slice av bs.length cv, .slice au es.length cu, .int .i64 r, .int .i64 t] 29)).heap.size := by simp
      have hsz := hb3.out.size
      clear x_q_0 x_q_1 x_q_2 x_q_3 x_c_0 x_c_1 x_c_2 l_q l_c o1 o2 r_R_3 r_E_3 hq_q_3 hq_c_3 hq_p_3 hq_d_3 hb3
      generalize w3.alloc (Obj.cells #[.slice av bs.length cv, .slice au es.length cu, .int .i64 r, .int .i64 t] 29) = wo at *
      by_cases hi : i = bs.length
      · have hd := hid (hso.out.symm.trans (sw_none (List.getElem?_eq_none (by omega))))
        subst hi
        have q1 : ((bs.length : Int) == (bs.length : Int)) = true := by simp
        clear hat
        obtain ⟨q0, q1', q2', q3'⟩ := box4f hqo.out
        obtain ⟨s0, s1, s2, s3⟩ := box4f hoo.out
        obtain ⟨y0, y1, y2, y3⟩ := box4f hpo.out
        obtain ⟨z0, z1, z2, -⟩ := box3f hdo.out
        have g0 := frozen_heap hpo.out 0
        have g1 := frozen_heap hpo.out 1
        have g2 := frozen_heap hpo.out 2
        have g3 := frozen_heap hpo.out 3
        have k0 := frozen_heap hdo.out 0
        have k1 := frozen_heap hdo.out 1
        have k2 := frozen_heap hdo.out 2
        go_wp2_with fail
        have hbox := (⟨_, _, _, _, _, _, _, _, hpo.out⟩ : ∃ a n c a' n' c' r t, wo.heap[w.heap.size + 1 + 1]? = some (.cells #[.slice a n c, .slice a' n' c', .int .i64 r, .int .i64 t] 29 (0, 0)))
        have hdx := box4_other (q := w.heap.size + 1 + 1) (u0 := .slice av bs.length cv) (u1 := .slice au es.length cu) (u2 := .int .i64 r) (u3 := .int .i64 t) hdo.out (by omega)
        have rl9 := (rlo.out.box4 EBlob.writes hbox av bs.length cv au es.length cu r t).box3 EBlob.writesC ⟨_, _, _, _, _, hdx⟩ 0 none 0 0 ⟨#[]⟩
        have re9 := (reo.out.box4 EEntry.writes hbox av bs.length cv au es.length cu r t).box3 EEntry.writesC ⟨_, _, _, _, _, hdx⟩ 0 none 0 0 ⟨#[]⟩
        unfold World.box4 World.box3 at rl9 re9
        have hp9 := box3_other (q := w.heap.size + 1 + 1 + 1) (u0 := .int .i64 0) (u1 := .slice none 0 0) (u2 := .string ⟨#[]⟩) (box4_same (u0 := .slice av bs.length cv) (u1 := .slice au es.length cu) (u2 := .int .i64 r) (u3 := .int .i64 t) hpo.out) (by omega)
        have hd9 := box3_same (u0 := .int .i64 0) (u1 := .slice none 0 0) (u2 := .string ⟨#[]⟩) (box4_other (q := w.heap.size + 1 + 1) (u0 := .slice av bs.length cv) (u1 := .slice au es.length cu) (u2 := .int .i64 r) (u3 := .int .i64 t) hdo.out (by omega))
        have hb9 := b_box3 (b_box4 hbo.out (q := w.heap.size + 1 + 1) (by omega) (.slice av bs.length cv) (.slice au es.length cu) (.int .i64 r) (.int .i64 t)) (q := w.heap.size + 1 + 1 + 1) (by omega) (.int .i64 0) (.slice none 0 0) (.string ⟨#[]⟩)
        obtain ⟨m0, m1, m2, m3⟩ := box4f hp9
        obtain ⟨n0, n1, n2, -⟩ := box3f hd9
        unfold World.box4 World.box3 at m0 m1 m2 m3 n0 n1 n2 hb9
        (try simp only [Exit.inBlock, Exit.then])
        refine bodyPost_ret (by simp [results, Tryz.results129, go_sem, m0, m1, m2, m3, n0, n1, n2]; try rfl) rfl ?_
        exact sw_ok hd.out rl9 re9 hb9
      · have hx : bs[i]? = some bs[i] := List.getElem?_eq_getElem (by omega)
        generalize bs[i] = x at hx
        obtain ⟨bb, off, rfl, hbb, he⟩ := hat.out _ _ hx
        have hilt : i < bs.length := by omega
        have hi0 : (0 : Int) ≤ (i : Int) := by omega
        have hi1 : (i : Int) < (bs.length : Int) := by omega
        have q1 : ((i : Int) == (bs.length : Int)) = false := by simp; omega
        have g5 : IntKind.i64.wrap ((i : Int) + 1) = (i : Int) + 1 := IntWalk.i64_in _ (by omega)
        have hbl := drop_B_len i bs hre
        have hball := hid (drop_B_mem i bs _ hf1.out)
        replace he := hid he
        clear hat
        cases hm : x.mark with
        | true =>
          have hd := hid (hso.out.symm.trans (sw_mark hx hm))
          clear hx
          obtain ⟨q0, q1', q2', q3'⟩ := box4f hqo.out
          obtain ⟨dv, d0, d1, d2, d3, rdv, -⟩ := EBlob.stable _ _ _ _ _ hbo.out hbb he.out
          obtain ⟨xa9, xc9, rfl, -⟩ := id rdv
          clear rdv
          have l_b : bb < wo.heap.size := by have := hbo.out.size; omega
          have l_q := heap_lt hqo.out
          have l_p := heap_lt hpo.out
          have l_d := heap_lt hdo.out
          go_wp2_with fail
          have hqb := hid ((heap_alloc_old wo (Obj.cells #[.int .i64 2, .slice none 0 0, .string x.digest] 32) l_q).trans hqo.out)
          have hpb := hid ((heap_alloc_old wo (Obj.cells #[.int .i64 2, .slice none 0 0, .string x.digest] 32) l_p).trans hpo.out)
          have hdb := hid ((heap_alloc_old wo (Obj.cells #[.int .i64 2, .slice none 0 0, .string x.digest] 32) l_d).trans hdo.out)
          have hob := hid ((heap_alloc_old wo (Obj.cells #[.int .i64 2, .slice none 0 0, .string x.digest] 32) hsz3).trans hoo.out)
          have hnb := hid (heap_alloc_new wo (Obj.cells #[.int .i64 2, .slice none 0 0, .string x.digest] 32))
          have hbw := hid (b_alloc hbo.out (Obj.cells #[.int .i64 2, .slice none 0 0, .string x.digest] 32))
          have rlw := hid (rlo.out.mono EBlob.stable (b_alloc (Below.refl wo.heap.size wo) (Obj.cells #[.int .i64 2, .slice none 0 0, .string x.digest] 32)))
          have rew := hid (reo.out.mono EEntry.stable (b_alloc (Below.refl wo.heap.size wo) (Obj.cells #[.int .i64 2, .slice none 0 0, .string x.digest] 32)))
          have rRw := hid (rRo.out.mono EBlob.stable (b_alloc (Below.refl wo.heap.size wo) (Obj.cells #[.int .i64 2, .slice none 0 0, .string x.digest] 32)))
          have hwl : wo.heap.size < (wo.alloc (Obj.cells #[.int .i64 2, .slice none 0 0, .string x.digest] 32)).heap.size := by simp
          clear q0 q1' q2' q3' d0 d1 d2 d3 rlo reo rRo hqo hpo hdo hoo hbo
          generalize wo.alloc (Obj.cells #[.int .i64 2, .slice none 0 0, .string x.digest] 32) = wb at *
          obtain ⟨q0, q1, q2, q3⟩ := box4f hqb.out

          obtain ⟨s0, s1, s2, s3⟩ := box4f hob.out
          obtain ⟨b0, b1, b2', -⟩ := box3f hnb.out
          obtain ⟨y0, y1, y2, y3⟩ := box4f hpb.out
          obtain ⟨z0, z1, z2, -⟩ := box3f hdb.out
          have g0 := frozen_heap hpb.out 0
          have g1 := frozen_heap hpb.out 1
          have g2 := frozen_heap hpb.out 2
          have g3 := frozen_heap hpb.out 3
          have k0 := frozen_heap hdb.out 0
          have k1 := frozen_heap hdb.out 1
          have k2 := frozen_heap hdb.out 2
          have fo0 := frozen_heap hob.out 0
          have ne1 : w3.heap.size ≠ w.heap.size + 1 + 1 := by omega
          have ne2 : w3.heap.size ≠ w.heap.size + 1 + 1 + 1 := by omega
          have ne3 : wo.heap.size ≠ w.heap.size + 1 + 1 := by omega
          have ne4 : wo.heap.size ≠ w.heap.size + 1 + 1 + 1 := by omega
          have hnob := hob.out
          have hnbb := hnb.out
          have hS := box4f hnob
          have hS2 := box3f hnbb
          go_region_held3 (fun w' => w'.cell? ⟨w3.heap.size, 0, none⟩ = some (.slice av bs.length cv) ∧ w'.cell? ⟨w3.heap.size, 1, none⟩ = some (.slice au es.length cu) ∧ w'.cell? ⟨w3.heap.size, 2, none⟩ = some (.int .i64 r) ∧ w'.cell? ⟨w3.heap.size, 3, none⟩ = some (.int .i64 t) ∧ w'.cell? ⟨wo.heap.size, 0, none⟩ = some (.int .i64 2) ∧ w'.cell? ⟨wo.heap.size, 1, none⟩ = some (.slice none 0 0) ∧ w'.cell? ⟨wo.heap.size, 2, none⟩ = some (.string x.digest))
            (first
              | with_reducible exact ⟨hS.1, hS.2.1, hS.2.2.1, hS.2.2.2, hS2.1, hS2.2.1, hS2.2.2.1⟩
              | (have h1 := box4f (heap_drewn (box4_other (q := w.heap.size + 1 + 1) (u0 := .slice av bs.length cv) (u1 := .slice au es.length cu) (u2 := .int .i64 r) (u3 := .int .i64 t) hnob ne1))
                 have h2 := box3f (heap_drewn (box4_other (q := w.heap.size + 1 + 1) (u0 := .slice av bs.length cv) (u1 := .slice au es.length cu) (u2 := .int .i64 r) (u3 := .int .i64 t) hnbb ne3))
                 unfold World.box4 at h1 h2
                 (try unfold World.box3 at h1 h2)
                 with_reducible exact ⟨h1.1, h1.2.1, h1.2.2.1, h1.2.2.2, h2.1, h2.2.1, h2.2.2.1⟩)
              | (have h1 := box4f (heap_drewn (box3_other (q := w.heap.size + 1 + 1 + 1) (u0 := .int .i64 2) (u1 := .slice none 0 0) (u2 := .string x.digest) (box4_other (q := w.heap.size + 1 + 1) (u0 := .slice av bs.length cv) (u1 := .slice au es.length cu) (u2 := .int .i64 r) (u3 := .int .i64 t) hnob ne1) ne2))
                 have h2 := box3f (heap_drewn (box3_other (q := w.heap.size + 1 + 1 + 1) (u0 := .int .i64 2) (u1 := .slice none 0 0) (u2 := .string x.digest) (box4_other (q := w.heap.size + 1 + 1) (u0 := .slice av bs.length cv) (u1 := .slice au es.length cu) (u2 := .int .i64 r) (u3 := .int .i64 t) hnbb ne3) ne4))
                 unfold World.box4 at h1 h2
                 (try unfold World.box3 at h1 h2)
                 with_reducible exact ⟨h1.1, h1.2.1, h1.2.2.1, h1.2.2.2, h2.1, h2.2.1, h2.2.2.1⟩)
              | go_keep
              | fail)
            (fail)
          go_wp2_with fail
          have hbox := (⟨_, _, _, _, _, _, _, _, hpb.out⟩ : ∃ a n c a' n' c' r t, wb.heap[w.heap.size + 1 + 1]? = some (.cells #[.slice a n c, .slice a' n' c', .int .i64 r, .int .i64 t] 29 (0, 0)))
          have hdx := box4_other (q := w.heap.size + 1 + 1) (u0 := .slice av bs.length cv) (u1 := .slice au es.length cu) (u2 := .int .i64 r) (u3 := .int .i64 t) hdb.out (by omega)
          have rl9 := (rlw.out.box4 EBlob.writes hbox av bs.length cv au es.length cu r t).box3 EBlob.writesC ⟨_, _, _, _, _, hdx⟩ 2 none 0 0 x.digest
          have re9 := (rew.out.box4 EEntry.writes hbox av bs.length cv au es.length cu r t).box3 EEntry.writesC ⟨_, _, _, _, _, hdx⟩ 2 none 0 0 x.digest
          unfold World.box4 World.box3 at rl9 re9
          have hp9 := box3_other (q := w.heap.size + 1 + 1 + 1) (u0 := .int .i64 2) (u1 := .slice none 0 0) (u2 := .string x.digest) (box4_same (u0 := .slice av bs.length cv) (u1 := .slice au es.length cu) (u2 := .int .i64 r) (u3 := .int .i64 t) hpb.out) (by omega)
          have hd9 := box3_same (u0 := .int .i64 2) (u1 := .slice none 0 0) (u2 := .string x.digest) (box4_other (q := w.heap.size + 1 + 1) (u0 := .slice av bs.length cv) (u1 := .slice au es.length cu) (u2 := .int .i64 r) (u3 := .int .i64 t) hdb.out (by omega))
          have hb9 := b_box3 (b_box4 hbw.out (q := w.heap.size + 1 + 1) (by omega) (.slice av bs.length cv) (.slice au es.length cu) (.int .i64 r) (.int .i64 t)) (q := w.heap.size + 1 + 1 + 1) (by omega) (.int .i64 2) (.slice none 0 0) (.string x.digest)
          replace hp9 := heap_drewn hp9
          replace hd9 := heap_drewn hd9
          replace hb9 := hb9.drew
          replace rl9 := rl9.mono EBlob.stable (Below.refl _ _).drew
          replace re9 := re9.mono EEntry.stable (Below.refl _ _).drew
          obtain ⟨m0, m1, m2, m3⟩ := box4f hp9
          obtain ⟨n0, n1, n2, -⟩ := box3f hd9
          unfold World.box4 World.box3 at m0 m1 m2 m3 n0 n1 n2 hb9
          (try simp only [Exit.inBlock, Exit.then])
          refine bodyPost_ret (by simp [results, Tryz.results129, go_sem, m0, m1, m2, m3, n0, n1, n2]; try rfl) rfl ?_
          exact sw_ok hd.out rl9 re9 hb9
        | false =>
          obtain ⟨q0, q1', q2', q3'⟩ := box4f hqo.out
          obtain ⟨dv, d0, d1, d2, d3, rdv, -⟩ := EBlob.stable _ _ _ _ _ hbo.out hbb he.out
          obtain ⟨xa9, xc9, rfl, -⟩ := id rdv
          clear rdv
          have l_b : bb < wo.heap.size := by have := hbo.out.size; omega
          have l_q := heap_lt hqo.out
          have l_p := heap_lt hpo.out
          have l_d := heap_lt hdo.out
          go_wp2_with fail
          have hqb := hid ((heap_alloc_old wo (Obj.cells #[.int .i64 2, .slice none 0 0, .string x.digest] 32) l_q).trans hqo.out)
          have hpb := hid ((heap_alloc_old wo (Obj.cells #[.int .i64 2, .slice none 0 0, .string x.digest] 32) l_p).trans hpo.out)
          have hdb := hid ((heap_alloc_old wo (Obj.cells #[.int .i64 2, .slice none 0 0, .string x.digest] 32) l_d).trans hdo.out)
          have hob := hid ((heap_alloc_old wo (Obj.cells #[.int .i64 2, .slice none 0 0, .string x.digest] 32) hsz3).trans hoo.out)
          have hnb := hid (heap_alloc_new wo (Obj.cells #[.int .i64 2, .slice none 0 0, .string x.digest] 32))
          have hbw := hid (b_alloc hbo.out (Obj.cells #[.int .i64 2, .slice none 0 0, .string x.digest] 32))
          have rlw := hid (rlo.out.mono EBlob.stable (b_alloc (Below.refl wo.heap.size wo) (Obj.cells #[.int .i64 2, .slice none 0 0, .string x.digest] 32)))
          have rew := hid (reo.out.mono EEntry.stable (b_alloc (Below.refl wo.heap.size wo) (Obj.cells #[.int .i64 2, .slice none 0 0, .string x.digest] 32)))
          have rRw := hid (rRo.out.mono EBlob.stable (b_alloc (Below.refl wo.heap.size wo) (Obj.cells #[.int .i64 2, .slice none 0 0, .string x.digest] 32)))
          have hwl : wo.heap.size < (wo.alloc (Obj.cells #[.int .i64 2, .slice none 0 0, .string x.digest] 32)).heap.size := by simp
          clear q0 q1' q2' q3' d0 d1 d2 d3 rlo reo rRo hqo hpo hdo hoo hbo
          generalize wo.alloc (Obj.cells #[.int .i64 2, .slice none 0 0, .string x.digest] 32) = wb at *
          obtain ⟨q0, q1, q2, q3⟩ := box4f hqb.out

          obtain ⟨s0, s1, s2, s3⟩ := box4f hob.out
          obtain ⟨b0, b1, b2', -⟩ := box3f hnb.out
          obtain ⟨y0, y1, y2, y3⟩ := box4f hpb.out
          obtain ⟨z0, z1, z2, -⟩ := box3f hdb.out
          have g0 := frozen_heap hpb.out 0
          have g1 := frozen_heap hpb.out 1
          have g2 := frozen_heap hpb.out 2
          have g3 := frozen_heap hpb.out 3
          have k0 := frozen_heap hdb.out 0
          have k1 := frozen_heap hdb.out 1
          have k2 := frozen_heap hdb.out 2
          have fo0 := frozen_heap hob.out 0
          obtain ⟨A, hA⟩ : ∃ A, (if c = i + 1 then (some ⟨bb, off, none⟩ : Option Addr) else some ⟨bb, off + (i + 1) * 4, none⟩) = A := ⟨_, rfl⟩
          have hup := hid (RS.upto rRw.out i (by omega))
          have hfrom := RS.from rRw.out (i + 1) (by omega)
          rw [show (if c = i + 1 then (some ⟨bb, off, none⟩ : Option Addr) else (some (⟨bb, off, none⟩ : Addr)).map (·.add ((i + 1) * 4))) = A by rw [← hA]; simp [Addr.add_lit]] at hfrom
          replace hfrom := hid hfrom
          have g1 : (0 : Int) ≤ (i : Int) + 1 := by omega
          have g2 : (i : Int) + 1 ≤ (bs.length : Int) := by omega
          have g3 : i ≤ c := by omega
          have g4 : i + 1 ≤ bs.length := by omega
          have g6 : ((i : Int) + 1).toNat = i + 1 := by omega
          have hqn := hqb.out
          have hon := hob.out
          have hl1 := heap_lt hqn
          have hl2 := heap_lt hon
          go_region_held3 (fun w' => w'.cell? ⟨w.heap.size, 0, none⟩ = some (.slice (some ⟨bb, off, none⟩) bs.length c)) (first | exact q0 | exact qa | exact qb | exact qc | exact qd | go_keep | fail)
            ((first
              | ((with_reducible refine (ref_BlobsCopy (.slice (some ⟨bb, off, none⟩) i c) (bs.take i) _ (hup.out.mono EBlob.stable (Below.refl _ wb).drew)).mono ?_)
                 rintro e wa ⟨va, rfl, ⟨ra, hra, oa, ca⟩, ba⟩
                 obtain ⟨aa, ka, rfl, -⟩ := id (OS.len_le oa)
                 have ba1 : Below wb.heap.size wb wa := b_call (Below.refl _ wb).drew ba
                 have qa := (box4f (stays ba1 hqn)).1
                 have hfrom2 := hid (hfrom.out.mono EBlob.stable ba1))
              | ((with_reducible refine (ref_BlobsCopy (.slice A (bs.length - (i + 1)) (c - (i + 1))) (bs.drop (i + 1)) _ hfrom2.out).mono ?_)
                 rintro e wd ⟨vb, rfl, ⟨rb, hrb, ob, cb⟩, bb2⟩
                 obtain ⟨ab, kb, rfl, -⟩ := id (OS.len_le ob)
                 have hla : ra.length ≤ i := (by have := congrArg List.length hra; simp at this; omega)
                 have hlb : rb.length ≤ bs.length - (i + 1) := (by have := congrArg List.length hrb; simp at this; omega)
                 have hobr := hid (OS.reads (cells := xc cBlob (·.data)) (bs := 56) (E := ERaw (xc cBlob (·.data))) xcBlob_len (by decide) (fun b o r _ hc j u hj => (by
                   have hlt := (List.getElem?_eq_some_iff.1 hj).1
                   rw [hc j (by rw [xcBlob_len] at hlt; exact hlt), hj])) ob (by omega))
                 have hs1 : wb.heap.size ≤ wa.heap.size := ba.size
                 have hs2 : wa.heap.size ≤ wd.heap.size := bb2.size
                 have ba2 : Below wb.heap.size wb wd := b_call ba1 bb2
                 have qb := (box4f (stays ba2 hqn)).1)
              | (refine stepL_append (o := ⟨some 64, _, _, _, _, _⟩) (l := ra) (m := rb) (B := wb.heap.size) flat_cBlob (by rfl) (.tmp 57) (.tmp 63) 26 (by rfl) 50 i0 _ Tryz.underlying26 ii0 hz0 hz1 hz2 rfl _ (by rfl) (OS.below oa bb2) _ (by rfl) hobr.out (by omega) (by simp [maxLen]; omega) (by omega) ?_; intro v3 w6 hown3 hgrow; obtain ⟨a3, k3, rfl, -⟩ := id (OS.len_le hown3)
                 have hgb := Below.grown ba2 hgrow (by omega) (fun k hk => OS.block oa k hk)
                 have qc := (box4f (stays hgb hqn)).1
                 have xo := box4f (stays hgb hon)
                 have fo := frozen_heap (stays hgb hon) 0
                 have qd := (box4f (box_other (q := w3.heap.size) (o := 0) (u := .slice a3 (ra.length + rb.length) k3) (stays hgb hqn) (by omega))).1
                 have xo0 := xo.1)
              | fail))
          have hO3 := OX.join (e' := 5) hown3 hgrow (OS.below oa bb2) (by decide) (fun q hq => CO.below bb2 _ _ (ca q hq)) (fun q hq => OS.mono (cb q hq) hs1)
          rw [hra, hrb] at hO3
          have hO4 : Hid (OBlob w6 wb.heap.size (.slice a3 (ra ++ rb).length k3) (bs.take i ++ bs.drop (i + 1))) := hid hO3
          simp only [List.length_append] at hO4
          have bw6 := hid (b_call hbw.out hgb)
          have hq6 := hid (stays hgb hqb.out)
          have ho6 := hid (stays hgb hob.out)
          have hn6 := hid (stays hgb hnb.out)
          have hp6 := hid (stays hgb hpb.out)
          have hd6 := hid (stays hgb hdb.out)
          have rb5 := hid ((hO4.out.other (o := 0) (u := .slice a3 (ra.length + rb.length) k3) ho6.out (by decide) (by decide)).toR hbl hball.out)
          have re5 := hid ((rew.out.mono EEntry.stable hgb).write (q := 0) (u := .slice a3 (ra.length + rb.length) k3) (EEntry.writes _ _ _ _ ⟨_, _, _, _, _, _, _, _, _, ho6.out⟩))
          have ho5 := hid (box4_0 (u := .slice a3 (ra.length + rb.length) k3) ho6.out)
          have hn5 := hid (box_other (q := w3.heap.size) (o := 0) (u := .slice a3 (ra.length + rb.length) k3) hn6.out (by omega))
          have hp5 := hid (box_other (q := w3.heap.size) (o := 0) (u := .slice a3 (ra.length + rb.length) k3) hp6.out (by omega))
          have hd5 := hid (box_other (q := w3.heap.size) (o := 0) (u := .slice a3 (ra.length + rb.length) k3) hd6.out (by omega))
          have hb5 := hid (b_set bw6.out (p := ⟨w3.heap.size, 0, none⟩) (show w.heap.size ≤ w3.heap.size by omega) (.slice a3 (ra.length + rb.length) k3))
          have hs6 := hgb.size
          clear hO3 hO4 hown3 hgrow oa ob bb2 ba ba1 ba2 ca cb hra hrb hobr hfrom2 hfrom hup hgb qa qb qc qd xo xo0 fo hla hlb hs1 hs2 hqn hon hl1 hl2 rlw rRw
          clear s0 s1 s2 s3 b0 b1 b2' y0 y1 y2 y3 z0 z1 z2 g0 g1 g2 g3 k0 k1 k2 fo0
          obtain ⟨dv9, e0, e1, e2, e3, rdv9, -⟩ := EBlob.stable _ _ _ _ _ bw6.out hbb he.out
          clear rdv9
          obtain ⟨q0, q1, q2, q3⟩ := box4f hq6.out

          obtain ⟨s0, s1, s2, s3⟩ := box4f ho6.out
          obtain ⟨b0, b1, b2', -⟩ := box3f hn6.out
          obtain ⟨y0, y1, y2, y3⟩ := box4f hp6.out
          obtain ⟨z0, z1, z2, -⟩ := box3f hd6.out
          have g0 := frozen_heap hp6.out 0
          have g1 := frozen_heap hp6.out 1
          have g2 := frozen_heap hp6.out 2
          have g3 := frozen_heap hp6.out 3
          have k0 := frozen_heap hd6.out 0
          have k1 := frozen_heap hd6.out 1
          have k2 := frozen_heap hd6.out 2
          have fo0 := frozen_heap ho6.out 0
          clear hq6 ho6 hn6 hp6 hd6 bw6 hqb hob hnb hpb hdb hbw rew
          by_cases hp : 0 < x.pins
          · have hd := hid (hso.out.symm.trans (sw_held hx hm (.inl hp)))
            have qp : decide (0 < x.pins) = true := by simp [hp]
            clear hx hp
            go_wp2_with fail
            have hp9 := box3_other (q := w.heap.size + 1 + 1 + 1) (u0 := .int .i64 0) (u1 := .slice none 0 0) (u2 := .string ⟨#[]⟩) (box4_same (u0 := .slice none 0 0) (u1 := .slice none 0 0) (u2 := .int .i64 0) (u3 := .int .i64 0) hp5.out) (by omega)
            have hd9 := box3_same (u0 := .int .i64 0) (u1 := .slice none 0 0) (u2 := .string ⟨#[]⟩) (box4_other (q := w.heap.size + 1 + 1) (u0 := .slice none 0 0) (u1 := .slice none 0 0) (u2 := .int .i64 0) (u3 := .int .i64 0) hd5.out (by omega))
            have hb9 := b_box3 (b_box4 hb5.out (q := w.heap.size + 1 + 1) (by omega) (.slice none 0 0) (.slice none 0 0) (.int .i64 0) (.int .i64 0)) (q := w.heap.size + 1 + 1 + 1) (by omega) (.int .i64 0) (.slice none 0 0) (.string ⟨#[]⟩)
            obtain ⟨m0, m1, m2, m3⟩ := box4f hp9
            obtain ⟨n0, n1, n2, -⟩ := box3f hd9
            unfold World.box4 World.box3 at m0 m1 m2 m3 n0 n1 n2 hb9
            (try simp only [Exit.inBlock, Exit.then])
            refine bodyPost_ret (by simp [results, Tryz.results129, go_sem, m0, m1, m2, m3, n0, n1, n2]; try rfl) rfl ?_
            exact sw_no hd.out hb9
          · have qp : decide (0 < x.pins) = false := by simp; omega
            go_wp2_with fail
            generalize w6.setCell ⟨w3.heap.size, 0, none⟩ (.slice a3 (ra.length + rb.length) k3) = w5 at *
            ((with_reducible refine (hch2.out _ _ _ rb5.out re5.out).mono ?_); rintro e7 w7 ⟨rfl, b7⟩)
            clear e0 e1 e2 e3 q0 q1 q2 q3
            clear s0 s1 s2 s3 b0 b1 b2' y0 y1 y2 y3 z0 z1 z2 g0 g1 g2 g3 k0 k1 k2 fo0
            have ho7 := hid (stays b7 ho5.out)
            have hn7 := hid (stays b7 hn5.out)
            have hp7 := hid (stays b7 hp5.out)
            have hd7 := hid (stays b7 hd5.out)
            have rb7 := hid (rb5.out.mono EBlob.stable b7)
            have re7 := hid (re5.out.mono EEntry.stable b7)
            have hb7 := hid (b_call hb5.out b7)
            clear ho5 hn5 hp5 hd5 rb5 re5 hb5 b7
            obtain ⟨s0, s1, s2, s3⟩ := box4f ho7.out
            obtain ⟨b0, b1, b2', -⟩ := box3f hn7.out
            obtain ⟨y0, y1, y2, y3⟩ := box4f hp7.out
            obtain ⟨z0, z1, z2, -⟩ := box3f hd7.out
            have g0 := frozen_heap hp7.out 0
            have g1 := frozen_heap hp7.out 1
            have g2 := frozen_heap hp7.out 2
            have g3 := frozen_heap hp7.out 3
            have k0 := frozen_heap hd7.out 0
            have k1 := frozen_heap hd7.out 1
            have k2 := frozen_heap hd7.out 2
            have fo0 := frozen_heap ho7.out 0
            by_cases hf : f = 0
            · have hd := hid (hso.out.symm.trans (sw_gone hx hm (by omega) hf))
              subst hf
              clear hx hp
              go_wp2_with fail
              have ne1 : w3.heap.size ≠ w.heap.size + 1 + 1 := by omega
              have ne2 : w3.heap.size ≠ w.heap.size + 1 + 1 + 1 := by omega
              have ne3 : wo.heap.size ≠ w.heap.size + 1 + 1 := by omega
              have ne4 : wo.heap.size ≠ w.heap.size + 1 + 1 + 1 := by omega
              have hnob := ho7.out
              have hnbb := hn7.out
              have hS := box4f hnob
              have hS2 := box3f hnbb
              go_region_held3 (fun w' => w'.cell? ⟨w3.heap.size, 0, none⟩ = some (.slice a3 (ra.length + rb.length) k3) ∧ w'.cell? ⟨w3.heap.size, 1, none⟩ = some (.slice au es.length cu) ∧ w'.cell? ⟨w3.heap.size, 2, none⟩ = some (.int .i64 r) ∧ w'.cell? ⟨w3.heap.size, 3, none⟩ = some (.int .i64 t) ∧ w'.cell? ⟨wo.heap.size, 0, none⟩ = some (.int .i64 2) ∧ w'.cell? ⟨wo.heap.size, 1, none⟩ = some (.slice none 0 0) ∧ w'.cell? ⟨wo.heap.size, 2, none⟩ = some (.string x.digest))
                (first
                  | with_reducible exact ⟨hS.1, hS.2.1, hS.2.2.1, hS.2.2.2, hS2.1, hS2.2.1, hS2.2.2.1⟩
                  | (have h1 := box4f (heap_drewn (box4_other (q := w.heap.size + 1 + 1) (u0 := .slice a3 (ra.length + rb.length) k3) (u1 := .slice au es.length cu) (u2 := .int .i64 r) (u3 := .int .i64 t) hnob ne1))
                     have h2 := box3f (heap_drewn (box4_other (q := w.heap.size + 1 + 1) (u0 := .slice a3 (ra.length + rb.length) k3) (u1 := .slice au es.length cu) (u2 := .int .i64 r) (u3 := .int .i64 t) hnbb ne3))
                     unfold World.box4 at h1 h2
                     (try unfold World.box3 at h1 h2)
                     with_reducible exact ⟨h1.1, h1.2.1, h1.2.2.1, h1.2.2.2, h2.1, h2.2.1, h2.2.2.1⟩)
                  | (have h1 := box4f (heap_drewn (box3_other (q := w.heap.size + 1 + 1 + 1) (u0 := .int .i64 2) (u1 := .slice none 0 0) (u2 := .string x.digest) (box4_other (q := w.heap.size + 1 + 1) (u0 := .slice a3 (ra.length + rb.length) k3) (u1 := .slice au es.length cu) (u2 := .int .i64 r) (u3 := .int .i64 t) hnob ne1) ne2))
                     have h2 := box3f (heap_drewn (box3_other (q := w.heap.size + 1 + 1 + 1) (u0 := .int .i64 2) (u1 := .slice none 0 0) (u2 := .string x.digest) (box4_other (q := w.heap.size + 1 + 1) (u0 := .slice a3 (ra.length + rb.length) k3) (u1 := .slice au es.length cu) (u2 := .int .i64 r) (u3 := .int .i64 t) hnbb ne3) ne4))
                     unfold World.box4 at h1 h2
                     (try unfold World.box3 at h1 h2)
                     with_reducible exact ⟨h1.1, h1.2.1, h1.2.2.1, h1.2.2.2, h2.1, h2.2.1, h2.2.2.1⟩)
                  | go_keep
                  | fail)
                (fail)
              go_wp2_with fail
              have hbox := (⟨_, _, _, _, _, _, _, _, hp7.out⟩ : ∃ a n c a' n' c' r t, w7.heap[w.heap.size + 1 + 1]? = some (.cells #[.slice a n c, .slice a' n' c', .int .i64 r, .int .i64 t] 29 (0, 0)))
              have hdx := box4_other (q := w.heap.size + 1 + 1) (u0 := .slice a3 (ra.length + rb.length) k3) (u1 := .slice au es.length cu) (u2 := .int .i64 r) (u3 := .int .i64 t) hd7.out (by omega)
              have rl9 := (rb7.out.box4 EBlob.writes hbox a3 (ra.length + rb.length) k3 au es.length cu r t).box3 EBlob.writesC ⟨_, _, _, _, _, hdx⟩ 2 none 0 0 x.digest
              have re9 := (re7.out.box4 EEntry.writes hbox a3 (ra.length + rb.length) k3 au es.length cu r t).box3 EEntry.writesC ⟨_, _, _, _, _, hdx⟩ 2 none 0 0 x.digest
              unfold World.box4 World.box3 at rl9 re9
              have hp9 := box3_other (q := w.heap.size + 1 + 1 + 1) (u0 := .int .i64 2) (u1 := .slice none 0 0) (u2 := .string x.digest) (box4_same (u0 := .slice a3 (ra.length + rb.length) k3) (u1 := .slice au es.length cu) (u2 := .int .i64 r) (u3 := .int .i64 t) hp7.out) (by omega)
              have hd9 := box3_same (u0 := .int .i64 2) (u1 := .slice none 0 0) (u2 := .string x.digest) (box4_other (q := w.heap.size + 1 + 1) (u0 := .slice a3 (ra.length + rb.length) k3) (u1 := .slice au es.length cu) (u2 := .int .i64 r) (u3 := .int .i64 t) hd7.out (by omega))
              have hb9 := b_box3 (b_box4 hb7.out (q := w.heap.size + 1 + 1) (by omega) (.slice a3 (ra.length + rb.length) k3) (.slice au es.length cu) (.int .i64 r) (.int .i64 t)) (q := w.heap.size + 1 + 1 + 1) (by omega) (.int .i64 2) (.slice none 0 0) (.string x.digest)
              replace hp9 := heap_drewn hp9
              replace hd9 := heap_drewn hd9
              replace hb9 := hb9.drew
              replace rl9 := rl9.mono EBlob.stable (Below.refl _ _).drew
              replace re9 := re9.mono EEntry.stable (Below.refl _ _).drew
              obtain ⟨m0, m1, m2, m3⟩ := box4f hp9
              obtain ⟨n0, n1, n2, -⟩ := box3f hd9
              unfold World.box4 World.box3 at m0 m1 m2 m3 n0 n1 n2 hb9
              (try simp only [Exit.inBlock, Exit.then])
              refine bodyPost_ret (by simp [results, Tryz.results129, go_sem, m0, m1, m2, m3, n0, n1, n2]; try rfl) rfl ?_
              exact sw_ok hd.out rl9 re9 hb9
            · have hd := hid (hso.out.symm.trans (sw_held hx hm (.inr hf)))
              have qf : (f != 0) = true := by simp [hf]
              clear hx hp hf
              go_wp2_with fail
              have hp9 := box3_other (q := w.heap.size + 1 + 1 + 1) (u0 := .int .i64 0) (u1 := .slice none 0 0) (u2 := .string ⟨#[]⟩) (box4_same (u0 := .slice none 0 0) (u1 := .slice none 0 0) (u2 := .int .i64 0) (u3 := .int .i64 0) hp7.out) (by omega)
              have hd9 := box3_same (u0 := .int .i64 0) (u1 := .slice none 0 0) (u2 := .string ⟨#[]⟩) (box4_other (q := w.heap.size + 1 + 1) (u0 := .slice none 0 0) (u1 := .slice none 0 0) (u2 := .int .i64 0) (u3 := .int .i64 0) hd7.out (by omega))
              have hb9 := b_box3 (b_box4 hb7.out (q := w.heap.size + 1 + 1) (by omega) (.slice none 0 0) (.slice none 0 0) (.int .i64 0) (.int .i64 0)) (q := w.heap.size + 1 + 1 + 1) (by omega) (.int .i64 0) (.slice none 0 0) (.string ⟨#[]⟩)
              obtain ⟨m0, m1, m2, m3⟩ := box4f hp9
              obtain ⟨n0, n1, n2, -⟩ := box3f hd9
              unfold World.box4 World.box3 at m0 m1 m2 m3 n0 n1 n2 hb9
              (try simp only [Exit.inBlock, Exit.then])
              refine bodyPost_ret (by simp [results, Tryz.results129, go_sem, m0, m1, m2, m3, n0, n1, n2]; try rfl) rfl ?_
              exact sw_no hd.out hb9
    · have q2 : (ph != 2) = true := by simp [hph]
      have hd := hid (hso.out.symm.trans (sw_idle hph))
      clear hat hch2
      obtain ⟨x_q_0, x_q_1, x_q_2, x_q_3⟩ := box4f hq_q_1.out
      obtain ⟨x_c_0, x_c_1, x_c_2, -⟩ := box3f hq_c_1.out
      obtain ⟨x_p_0, x_p_1, x_p_2, x_p_3⟩ := box4f hq_p_1.out
      have g_p_0 := frozen_heap hq_p_1.out 0
      have g_p_1 := frozen_heap hq_p_1.out 1
      have g_p_2 := frozen_heap hq_p_1.out 2
      have g_p_3 := frozen_heap hq_p_1.out 3
      obtain ⟨x_d_0, x_d_1, x_d_2, -⟩ := box3f hq_d_1.out
      have g_d_0 := frozen_heap hq_d_1.out 0
      have g_d_1 := frozen_heap hq_d_1.out 1
      have g_d_2 := frozen_heap hq_d_1.out 2
      go_wp2_with fail
      have hp9 := box3_other (q := w.heap.size + 1 + 1 + 1) (u0 := .int .i64 0) (u1 := .slice none 0 0) (u2 := .string ⟨#[]⟩) (box4_same (u0 := .slice none 0 0) (u1 := .slice none 0 0) (u2 := .int .i64 0) (u3 := .int .i64 0) hq_p_1.out) (by omega)
      have hd9 := box3_same (u0 := .int .i64 0) (u1 := .slice none 0 0) (u2 := .string ⟨#[]⟩) (box4_other (q := w.heap.size + 1 + 1) (u0 := .slice none 0 0) (u1 := .slice none 0 0) (u2 := .int .i64 0) (u3 := .int .i64 0) hq_d_1.out (by omega))
      have hb9 := b_box3 (b_box4 hb1.out (q := w.heap.size + 1 + 1) (by omega) (.slice none 0 0) (.slice none 0 0) (.int .i64 0) (.int .i64 0)) (q := w.heap.size + 1 + 1 + 1) (by omega) (.int .i64 0) (.slice none 0 0) (.string ⟨#[]⟩)
      obtain ⟨m0, m1, m2, m3⟩ := box4f hp9
      obtain ⟨n0, n1, n2, -⟩ := box3f hd9
      unfold World.box4 World.box3 at m0 m1 m2 m3 n0 n1 n2 hb9
      (try simp only [Exit.inBlock, Exit.then])
      refine bodyPost_ret (by simp [results, Tryz.results129, go_sem, m0, m1, m2, m3, n0, n1, n2]; try rfl) rfl ?_
      exact sw_no hd.out hb9
  · have ht : (z != 0) = true := by simp [hz]
    have hd := hid (hso.out.symm.trans (sw_bad hz))
    clear hat hch2
    obtain ⟨x_q_0, x_q_1, x_q_2, x_q_3⟩ := box4f hq_q_1.out
    obtain ⟨x_c_0, x_c_1, x_c_2, -⟩ := box3f hq_c_1.out
    obtain ⟨x_p_0, x_p_1, x_p_2, x_p_3⟩ := box4f hq_p_1.out
    have g_p_0 := frozen_heap hq_p_1.out 0
    have g_p_1 := frozen_heap hq_p_1.out 1
    have g_p_2 := frozen_heap hq_p_1.out 2
    have g_p_3 := frozen_heap hq_p_1.out 3
    obtain ⟨x_d_0, x_d_1, x_d_2, -⟩ := box3f hq_d_1.out
    have g_d_0 := frozen_heap hq_d_1.out 0
    have g_d_1 := frozen_heap hq_d_1.out 1
    have g_d_2 := frozen_heap hq_d_1.out 2
    go_wp2_with fail
    have hp9 := box3_other (q := w.heap.size + 1 + 1 + 1) (u0 := .int .i64 0) (u1 := .slice none 0 0) (u2 := .string ⟨#[]⟩) (box4_same (u0 := .slice none 0 0) (u1 := .slice none 0 0) (u2 := .int .i64 0) (u3 := .int .i64 0) hq_p_1.out) (by omega)
    have hd9 := box3_same (u0 := .int .i64 0) (u1 := .slice none 0 0) (u2 := .string ⟨#[]⟩) (box4_other (q := w.heap.size + 1 + 1) (u0 := .slice none 0 0) (u1 := .slice none 0 0) (u2 := .int .i64 0) (u3 := .int .i64 0) hq_d_1.out (by omega))
    have hb9 := b_box3 (b_box4 hb1.out (q := w.heap.size + 1 + 1) (by omega) (.slice none 0 0) (.slice none 0 0) (.int .i64 0) (.int .i64 0)) (q := w.heap.size + 1 + 1 + 1) (by omega) (.int .i64 0) (.slice none 0 0) (.string ⟨#[]⟩)
    obtain ⟨m0, m1, m2, m3⟩ := box4f hp9
    obtain ⟨n0, n1, n2, -⟩ := box3f hd9
    unfold World.box4 World.box3 at m0 m1 m2 m3 n0 n1 n2 hb9
    (try simp only [Exit.inBlock, Exit.then])
    refine bodyPost_ret (by simp [results, Tryz.results129, go_sem, m0, m1, m2, m3, n0, n1, n2]; try rfl) rfl ?_
    exact sw_no hd.out hb9
end Go.Proofs.YtpcnhldlfmdlhaaGreat

namespace Go.Proofs.YtpcnhldlfmdlhaaGreat
open Go.RowKit

def swAll (s : ByteArray) (ph : Int) (bs : List Blob) (es : List Entry) (r t : Int) : SwOut :=
  swOut (storeFault bs es r t) (storeFault (bs.take (swAt s bs) ++ bs.drop (swAt s bs + 1)) es r t) ph (swAt s bs) bs es r t
theorem sweep_Step (v u gv : Value) (bs : List Blob) (es : List Entry) (r t ph : Int) (s : ByteArray) (w : World) (h : RBl w v bs) (g : RE w u es) (hgv : ∃ a n c, gv = .slice a n c) :
    Calls Tryz.prog 118 #[.agg #[v, u, .int .i64 r, .int .i64 t], .agg #[.int .i64 ph, gv, .string s]] w (SwRes (swAll s ph bs es r t) w) :=
  sweep_Step' v u gv bs es r t ph s w h g _ _ hgv (fun w h g => store_Check v u bs es r t w h g) (fun v u w h g => store_Check v u _ es r t w h g)
theorem ref_Swept (v u gv : Value) (bs : List Blob) (es : List Entry) (r t ph : Int) (s : ByteArray) (w : World) (h : RBl w v bs) (g : RE w u es) (hgv : ∃ a n c, gv = .slice a n c) :
    Calls Tryz.prog 129 #[.agg #[v, u, .int .i64 r, .int .i64 t], .agg #[.int .i64 ph, gv, .string s]] w (SwRes (swAll s ph bs es r t) w) :=
  ref_Swept' v u gv bs es r t ph s w h g _ _ hgv (fun w h g => ref_StoreFault v u bs es r t w h g) (fun v u w h g => ref_StoreFault v u _ es r t w h g)

end Go.Proofs.YtpcnhldlfmdlhaaGreat
