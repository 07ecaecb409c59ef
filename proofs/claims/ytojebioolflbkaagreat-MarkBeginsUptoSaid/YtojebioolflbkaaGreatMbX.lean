/-
  mark.Begin and the reference's MarkBegun: what they answer. Printed by gen_mb.py.
-/
import Derived.Test.YtojebioolflbkaaGreatCoL
import Derived.OwnWalk
import Derived.Handy
import Derived.IntWalk
import Derived.Deep.RegionHeld3
import Derived.StillTactics
namespace Go.Proofs.YtojebioolflbkaaGreat
open Go.RowKit

set_option maxRecDepth 100000 in
set_option maxHeartbeats 4000000 in
theorem mark_Begin' (v u : Value) (bs : List Blob) (es : List Entry) (r t : Int) (w : World) (h : RBl w v bs) (g : RE w u es) (z : Int)
    (hch : ∀ w, RBl w v bs → RE w u es → Calls Tryz.prog 35 #[.agg #[v, u, .int .i64 r, .int .i64 t]] w fun e w' => e = .returned (.int .i64 z) ∧ Below w.heap.size w w')
    (hrt : z = 0 → ∀ w, RBl w v bs → RE w u es → Calls Tryz.prog 37 #[.agg #[v, u, .int .i64 r, .int .i64 t]] w (RootsPost bs es w)) :
    Calls Tryz.prog 11 #[.agg #[v, u, .int .i64 r, .int .i64 t]] w (CoRes (begOut z bs es r t) w) := by
  have hcp := hid (fun w (h : RBl w v bs) (g : RE w u es) => store_CopyO v u bs es r t w h g)
  unfold OwnedStore at hcp
  unfold RootsPost at hrt
  replace hch := hid hch
  replace hrt := hid hrt
  have hR := hid h
  have hE := hid g
  have hf1 := hid (umk_fit (fit_B h))
  have hf2 := hid (fit_E g)
  have hb1' := hid (@beg_bad z bs es r t)
  have hb2' := hid (@beg_ok bs es r t)
  generalize rootsL bs es = RL at *
  obtain ⟨a, c, rfl, hlc, hcm, hre, -⟩ := h
  obtain ⟨a2, c2, rfl, -, -, hre2, -⟩ := g
  unfold maxLen at hcm
  obtain ⟨w1, hw1⟩ : ∃ w1 : World, w1 = ((w.alloc (Obj.cells #[.slice a bs.length c, .slice a2 es.length c2, .int .i64 r, .int .i64 t] 25)).alloc (Obj.cells #[.slice none 0 0, .slice none 0 0, .int .i64 0, .int .i64 0] 25)).alloc (Obj.cells #[.int .i64 0, .slice none 0 0, .string ⟨#[]⟩] 28) := ⟨_, rfl⟩
  have hb1 := hid (show Below w.heap.size w w1 by rw [hw1]; exact b_alloc (b_alloc (b_alloc (Below.refl _ _) _) _) _)
  have hq1 := hid (show w1.heap[w.heap.size]? = some (.cells #[.slice a bs.length c, .slice a2 es.length c2, .int .i64 r, .int .i64 t] 25 (0, 0)) by
    rw [hw1]
    exact (heap_alloc_old _ _ (by simp; omega)).trans ((heap_alloc_old _ _ (by simp)).trans (heap_alloc_new w _)))
  have hp1 := hid (show w1.heap[w.heap.size + 1]? = some (.cells #[.slice none 0 0, .slice none 0 0, .int .i64 0, .int .i64 0] 25 (0, 0)) by
    rw [hw1]
    exact (heap_alloc_old _ _ (by simp)).trans (heap_put _ _ _ (by simp)))
  have hd1 := hid (show w1.heap[w.heap.size + 1 + 1]? = some (.cells #[.int .i64 0, .slice none 0 0, .string ⟨#[]⟩] 28 (0, 0)) by
    rw [hw1]
    exact heap_put _ _ _ (by simp))
  obtain ⟨x0, x1, x2, x3⟩ := box4f hq1.out
  go_enter Tryz.func11, Tryz.ntmps11
  go_wp2_with fail
  rw [← hw1]
  clear hw1
  ((with_reducible refine (hch.out _ (hR.out.mono EBlob.stable hb1.out) (hE.out.mono EEntry.stable hb1.out)).mono ?_); rintro e w2 ⟨rfl, b2⟩)
  have hq2 := hid (stays b2 hq1.out)
  have hp2 := hid (stays b2 hp1.out)
  have hd2 := hid (stays b2 hd1.out)
  have hb2 := hid (b_call hb1.out b2)
  clear b2 hq1 hp1 hd1 hb1 x0 x1 x2 x3
  obtain ⟨x0, x1, x2, x3⟩ := box4f hq2.out
  by_cases hz : z = 0
  · subst hz
    clear hb1' hch
    replace hrt := hid (hrt.out rfl)
    ((go_wp2_with fail))
    ((with_reducible refine (hcp.out _ (hR.out.mono EBlob.stable hb2.out) (hE.out.mono EEntry.stable hb2.out)).mono ?_); rintro e w3 ⟨v1, v2, rfl, o1, o2, b3⟩)
    obtain ⟨av, cv, rfl⟩ := OX.lenOf o1
    obtain ⟨au, cu, rfl⟩ := OX.lenOf o2
    have hq3 := stays b3 hq2.out
    have hp3 := stays b3 hp2.out
    have hd3 := stays b3 hd2.out
    have hb3 := b_call hb2.out b3
    have hs23 := b3.size
    have hql := heap_lt hq2.out
    have hpl := heap_lt hp2.out
    have hdl := heap_lt hd2.out
    have hqw := hid ((heap_alloc_old w3 (Obj.cells #[.slice av bs.length cv, .slice au es.length cu, .int .i64 r, .int .i64 t] 25) (heap_lt hq3)).trans hq3)
    have hpw := hid ((heap_alloc_old w3 (Obj.cells #[.slice av bs.length cv, .slice au es.length cu, .int .i64 r, .int .i64 t] 25) (heap_lt hp3)).trans hp3)
    have hdw := hid ((heap_alloc_old w3 (Obj.cells #[.slice av bs.length cv, .slice au es.length cu, .int .i64 r, .int .i64 t] 25) (heap_lt hd3)).trans hd3)
    have how := hid (heap_alloc_new w3 (Obj.cells #[.slice av bs.length cv, .slice au es.length cu, .int .i64 r, .int .i64 t] 25))
    have hbw := hid (b_alloc hb3 (Obj.cells #[.slice av bs.length cv, .slice au es.length cu, .int .i64 r, .int .i64 t] 25))
    have o1w := OBlob.alloc o1 (Obj.cells #[.slice av bs.length cv, .slice au es.length cu, .int .i64 r, .int .i64 t] 25)
    have o2w := hid (OEntry.alloc o2 (Obj.cells #[.slice av bs.length cv, .slice au es.length cu, .int .i64 r, .int .i64 t] 25))
    have hol : w.heap.size < w3.heap.size := by omega
    have hne1 : w3.heap.size ≠ w.heap.size := by omega
    have hne2 : w3.heap.size ≠ w.heap.size + 1 := by omega
    have hne3 : w3.heap.size ≠ w.heap.size + 1 + 1 := by omega
    rw [← umkTo_zero bs] at o1w
    replace o1w := hid o1w
    clear x0 x1 x2 x3 hq2 hp2 hd2 hb2 o1 o2 b3 hq3 hp3 hd3 hb3 hcp
    obtain ⟨y0, y1, y2, y3⟩ := box4f how.out
    rw [umkTo_len] at o1w
    go_wp2_with fail
    generalize w3.alloc (Obj.cells #[.slice av bs.length cv, .slice au es.length cu, .int .i64 r, .int .i64 t] 25) = W at *
    generalize w3.heap.size = q at *
    clear y0 y1 y2 y3
    go_loopw [7, 20] (fun _ i wr => ∃ k : Nat, k ≤ bs.length ∧ i = .int .i64 (k : Int) ∧ Hid (OBlob wr w2.heap.size (.slice av bs.length cv) (umkTo k bs)) ∧ Hid (OEntry wr w2.heap.size (.slice au es.length cu) es) ∧ Hid (wr.heap[w.heap.size]? = some (.cells #[.slice a bs.length c, .slice a2 es.length c2, .int .i64 r, .int .i64 t] 25 (0, 0))) ∧ Hid (wr.heap[w.heap.size + 1]? = some (.cells #[.slice none 0 0, .slice none 0 0, .int .i64 0, .int .i64 0] 25 (0, 0))) ∧ Hid (wr.heap[w.heap.size + 1 + 1]? = some (.cells #[.int .i64 0, .slice none 0 0, .string ⟨#[]⟩] 28 (0, 0))) ∧ Hid (wr.heap[q]? = some (.cells #[.slice av bs.length cv, .slice au es.length cu, .int .i64 r, .int .i64 t] 25 (0, 0))) ∧ Hid (Below w.heap.size w wr)) (fun _ i _ => bs.length - (intOf i).toNat)
    case atStart => exact ⟨0, by omega, rfl, o1w, o2w, hqw, hpw, hdw, how, hbw⟩
    case round =>
      obtain ⟨k, hk, rfl, hob, hoe, hqr, hpr, hdr, hor, hbr⟩ := hrel
      obtain ⟨y0, y1, y2, y3⟩ := box4f hor.out
      by_cases hlt : k < bs.length
      · have hn : bs[k]? = some bs[k] := List.getElem?_eq_getElem hlt
        generalize bs[k] = x at hn
        have hx := umkTo_at hn
        have hst := umkTo_set hn
        have hil : k < (umkTo k bs).length := by rw [umkTo_len]; exact hlt
        obtain ⟨gg, cap, hv, hgB, hgl, ⟨uu, hcu⟩, hfr⟩ := OX.spot hob.out (i := k) (o := 3) hil (by decide)
        rw [umkTo_len] at hv
        simp only [Value.slice.injEq, true_and] at hv
        obtain ⟨rfl, rfl⟩ := hv
        obtain ⟨cs9, T9, fr9, hg9, rfl⟩ := obt hob.out rfl
        have ob9 := OBlob.mark false hob.out hx
        rw [hst] at ob9
        replace ob9 := hid ob9
        have oe9 := hid (OEntry.beside (o := k * 4 + 3) (u := .bool false) hoe.out hob.out)
        have hq9 := hid (box_other (q := gg) (o := k * 4 + 3) (u := .bool false) hqr.out (ne_type hg9 hqr.out (by decide)))
        have hp9 := hid (box_other (q := gg) (o := k * 4 + 3) (u := .bool false) hpr.out (ne_type hg9 hpr.out (by decide)))
        have hd9 := hid (box_other (q := gg) (o := k * 4 + 3) (u := .bool false) hdr.out (ne_type hg9 hdr.out (by decide)))
        have ho9 := hid (box_other (q := gg) (o := k * 4 + 3) (u := .bool false) hor.out (ne_type hg9 hor.out (by decide)))
        have hb9 := hid (b_set hbr.out (p := ⟨gg, k * 4 + 3, none⟩) (show w.heap.size ≤ gg by omega) (.bool false))
        have hi0 : (0 : Int) ≤ (k : Int) := by omega
        have hi1 : (k : Int) < (bs.length : Int) := by omega
        clear hob hoe hqr hpr hdr hor hbr hg9 hx hst hn hil
        go_wp2_with fail
        go_roundw
        case rel => exact ⟨k + 1, by omega, by go_num, ob9, oe9, hq9, hp9, hd9, ho9, hb9⟩
        case measure => simp [intOf]; omega
      · obtain rfl : k = bs.length := by omega
        rw [umkTo_all] at hob
        obtain ⟨x0, x1, x2, x3⟩ := box4f hqr.out
        obtain ⟨p0, p1, p2, p3⟩ := box4f hpr.out
        obtain ⟨d0, d1, d2, -⟩ := box3f hdr.out
        have hql := heap_lt hqr.out
        have rb := hid (hob.out.toR (by rw [List.length_map]; exact hre) hf1.out)
        have re := hid (hoe.out.toR hre2 hf2.out)
        go_wp2_with fail
        clear p0 p1 p2 p3 d0 d1 d2
        have hS := And.intro (box4f hqr.out) (box4f hor.out)
        go_region_held3 (fun w' => (w'.cell? ⟨w.heap.size, 0, none⟩ = some (.slice a bs.length c) ∧ w'.cell? ⟨w.heap.size, 1, none⟩ = some (.slice a2 es.length c2) ∧ w'.cell? ⟨w.heap.size, 2, none⟩ = some (.int .i64 r) ∧ w'.cell? ⟨w.heap.size, 3, none⟩ = some (.int .i64 t)) ∧ w'.cell? ⟨q, 0, none⟩ = some (.slice av bs.length cv) ∧ w'.cell? ⟨q, 1, none⟩ = some (.slice au es.length cu) ∧ w'.cell? ⟨q, 2, none⟩ = some (.int .i64 r) ∧ w'.cell? ⟨q, 3, none⟩ = some (.int .i64 t))
          (first
            | with_reducible exact hS2
            | with_reducible exact hS
            | (have h1 := box4f (box4_other (q := w.heap.size + 1) (u0 := .slice av bs.length cv) (u1 := .slice au es.length cu) (u2 := .int .i64 r) (u3 := .int .i64 t) hqc (by omega))
               have h2 := box4f (box4_other (q := w.heap.size + 1) (u0 := .slice av bs.length cv) (u1 := .slice au es.length cu) (u2 := .int .i64 r) (u3 := .int .i64 t) hoc hne2)
               unfold World.box4 at h1 h2
               with_reducible exact ⟨h1, h2⟩)
            | (have h1 := box4f (box3_other (q := w.heap.size + 1 + 1) (u0 := .int .i64 1) (u1 := .slice ra RL.length rc) (u2 := .string ⟨#[]⟩) (box4_other (q := w.heap.size + 1) (u0 := .slice av bs.length cv) (u1 := .slice au es.length cu) (u2 := .int .i64 r) (u3 := .int .i64 t) hqc (by omega)) (by omega))
               have h2 := box4f (box3_other (q := w.heap.size + 1 + 1) (u0 := .int .i64 1) (u1 := .slice ra RL.length rc) (u2 := .string ⟨#[]⟩) (box4_other (q := w.heap.size + 1) (u0 := .slice av bs.length cv) (u1 := .slice au es.length cu) (u2 := .int .i64 r) (u3 := .int .i64 t) hoc hne2) hne3)
               unfold World.box4 World.box3 at h1 h2
               with_reducible exact ⟨h1, h2⟩)
            | go_keep
            | fail)
          ((first
            | ((with_reducible refine (hrt.out wr.drew (hR.out.mono EBlob.stable hbr.out.drew) (hE.out.mono EEntry.stable hbr.out.drew)).mono ?_)
               rintro e wc ⟨vc, rfl, rt, ot, bc⟩
               have hbc : Below w.heap.size w wc := b_call hbr.out.drew bc
               have hqc := stays bc (heap_drewn hqr.out)
               have hpc := stays bc (heap_drewn hpr.out)
               have hdc := stays bc (heap_drewn hdr.out)
               have hoc := stays bc (heap_drewn hor.out)
               have rbc := rb.out.mono EBlob.stable ((Below.refl _ wr).drew.trans bc)
               have rEc := re.out.mono EEntry.stable ((Below.refl _ wr).drew.trans bc)
               have hS2 := And.intro (box4f hqc) (box4f hoc)
               obtain ⟨ra, rc, rfl, -⟩ := id rt
               obtain ⟨p0, p1, p2, p3⟩ := box4f hpc
               obtain ⟨d0, d1, d2, -⟩ := box3f hdc
               have g0 := frozen_heap hpc 0
               have g1 := frozen_heap hpc 1
               have g2 := frozen_heap hpc 2
               have g3 := frozen_heap hpc 3
               have k0 := frozen_heap hdc 0
               have k1 := frozen_heap hdc 1
               have k2 := frozen_heap hdc 2)
            | fail))
        go_wp2_with fail
        have hd8 := box4_other (q := w.heap.size + 1) (u0 := .slice av bs.length cv) (u1 := .slice au es.length cu) (u2 := .int .i64 r) (u3 := .int .i64 t) hdc (by omega)
        have hp9 := box3_other (q := w.heap.size + 1 + 1) (u0 := .int .i64 1) (u1 := .slice ra RL.length rc) (u2 := .string ⟨#[]⟩) (box4_same (u0 := .slice av bs.length cv) (u1 := .slice au es.length cu) (u2 := .int .i64 r) (u3 := .int .i64 t) hpc) (by omega)
        have hd9 := box3_same (u0 := .int .i64 1) (u1 := .slice ra RL.length rc) (u2 := .string ⟨#[]⟩) hd8
        have hb9 := b_box3 (b_box4 hbc (q := w.heap.size + 1) (by omega) (.slice av bs.length cv) (.slice au es.length cu) (.int .i64 r) (.int .i64 t)) (q := w.heap.size + 1 + 1) (by omega) (.int .i64 1) (.slice ra RL.length rc) (.string ⟨#[]⟩)
        have rl9 := (rbc.box4 EBlob.writes ⟨_, _, _, _, _, _, _, _, hpc⟩ av bs.length cv au es.length cu r t).box3 EBlob.writesC ⟨_, _, _, _, _, hd8⟩ 1 ra RL.length rc ⟨#[]⟩
        have re9 := (rEc.box4 EEntry.writes ⟨_, _, _, _, _, _, _, _, hpc⟩ av bs.length cv au es.length cu r t).box3 EEntry.writesC ⟨_, _, _, _, _, hd8⟩ 1 ra RL.length rc ⟨#[]⟩
        have rt9 := reads_str (OS.boxS3 (u0 := .int .i64 1) (u1 := .slice ra RL.length rc) (u2 := .string ⟨#[]⟩) (OS.boxS4 (u0 := .slice av bs.length cv) (u1 := .slice au es.length cu) (u2 := .int .i64 r) (u3 := .int .i64 t) ot hpc (by decide)) hd8 (by decide)) (rt_bound rt) (rt_sizes rt)
        unfold World.box4 World.box3 at rl9 re9 rt9
        obtain ⟨m0, m1, m2, m3⟩ := box4f hp9
        obtain ⟨n0, n1, n2, -⟩ := box3f hd9
        unfold World.box4 World.box3 at m0 m1 m2 m3 n0 n1 n2 hb9
        (try simp only [Exit.inBlock, Exit.then])
        refine bodyPost_ret (by simp [results, Tryz.results11, go_sem, m0, m1, m2, m3, n0, n1, n2]; try rfl) rfl ?_
        exact co_ok hb2'.out rl9 re9 rt9 hb9
  · have ht : (z != 0) = true := by simp [hz]
    have hd := hid (hb1'.out hz)
    replace hz := hid hz
    clear hrt hcp hb2' hb1' hch
    obtain ⟨p0, p1, p2, p3⟩ := box4f hp2.out
    obtain ⟨d0, d1, d2, -⟩ := box3f hd2.out
    have g0 := frozen_heap hp2.out 0
    have g1 := frozen_heap hp2.out 1
    have g2 := frozen_heap hp2.out 2
    have g3 := frozen_heap hp2.out 3
    have k0 := frozen_heap hd2.out 0
    have k1 := frozen_heap hd2.out 1
    have k2 := frozen_heap hd2.out 2
    go_wp2_with fail
    have hd8 := box4_other (q := w.heap.size + 1) (u0 := .slice none 0 0) (u1 := .slice none 0 0) (u2 := .int .i64 0) (u3 := .int .i64 0) hd2.out (by omega)
    have hp9 := box3_other (q := w.heap.size + 1 + 1) (u0 := .int .i64 0) (u1 := .slice none 0 0) (u2 := .string ⟨#[]⟩) (box4_same (u0 := .slice none 0 0) (u1 := .slice none 0 0) (u2 := .int .i64 0) (u3 := .int .i64 0) hp2.out) (by omega)
    have hd9 := box3_same (u0 := .int .i64 0) (u1 := .slice none 0 0) (u2 := .string ⟨#[]⟩) hd8
    have hb9 := b_box3 (b_box4 hb2.out (q := w.heap.size + 1) (by omega) (.slice none 0 0) (.slice none 0 0) (.int .i64 0) (.int .i64 0)) (q := w.heap.size + 1 + 1) (by omega) (.int .i64 0) (.slice none 0 0) (.string ⟨#[]⟩)
    obtain ⟨m0, m1, m2, m3⟩ := box4f hp9
    obtain ⟨n0, n1, n2, -⟩ := box3f hd9
    unfold World.box4 World.box3 at m0 m1 m2 m3 n0 n1 n2 hb9
    (try simp only [Exit.inBlock, Exit.then])
    refine bodyPost_ret (by simp [results, Tryz.results11, go_sem, m0, m1, m2, m3, n0, n1, n2]; try rfl) rfl ?_
    exact co_no hd.out hb9

set_option maxRecDepth 100000 in
set_option maxHeartbeats 4000000 in
theorem ref_MarkBegun' (v u : Value) (bs : List Blob) (es : List Entry) (r t : Int) (w : World) (h : RBl w v bs) (g : RE w u es) (z : Int)
    (hch : ∀ w, RBl w v bs → RE w u es → Calls Tryz.prog 42 #[.agg #[v, u, .int .i64 r, .int .i64 t]] w fun e w' => e = .returned (.int .i64 z) ∧ Below w.heap.size w w')
    (hrt : z = 0 → ∀ w, RBl w v bs → RE w u es → Calls Tryz.prog 44 #[.agg #[v, u, .int .i64 r, .int .i64 t]] w (RootsPost bs es w)) :
    Calls Tryz.prog 13 #[.agg #[v, u, .int .i64 r, .int .i64 t]] w (CoRes (begOut z bs es r t) w) := by
  have hcp := hid (fun w (h : RBl w v bs) (g : RE w u es) => ref_StoreCopyO v u bs es r t w h g)
  unfold OwnedStore at hcp
  unfold RootsPost at hrt
  replace hch := hid hch
  replace hrt := hid hrt
  have hR := hid h
  have hE := hid g
  have hf1 := hid (umk_fit (fit_B h))
  have hf2 := hid (fit_E g)
  have hb1' := hid (@beg_bad z bs es r t)
  have hb2' := hid (@beg_ok bs es r t)
  generalize rootsL bs es = RL at *
  obtain ⟨a, c, rfl, hlc, hcm, hre, -⟩ := h
  obtain ⟨a2, c2, rfl, -, -, hre2, -⟩ := g
  unfold maxLen at hcm
  obtain ⟨w1, hw1⟩ : ∃ w1 : World, w1 = ((w.alloc (Obj.cells #[.slice a bs.length c, .slice a2 es.length c2, .int .i64 r, .int .i64 t] 25)).alloc (Obj.cells #[.slice none 0 0, .slice none 0 0, .int .i64 0, .int .i64 0] 25)).alloc (Obj.cells #[.int .i64 0, .slice none 0 0, .string ⟨#[]⟩] 28) := ⟨_, rfl⟩
  have hb1 := hid (show Below w.heap.size w w1 by rw [hw1]; exact b_alloc (b_alloc (b_alloc (Below.refl _ _) _) _) _)
  have hq1 := hid (show w1.heap[w.heap.size]? = some (.cells #[.slice a bs.length c, .slice a2 es.length c2, .int .i64 r, .int .i64 t] 25 (0, 0)) by
    rw [hw1]
    exact (heap_alloc_old _ _ (by simp; omega)).trans ((heap_alloc_old _ _ (by simp)).trans (heap_alloc_new w _)))
  have hp1 := hid (show w1.heap[w.heap.size + 1]? = some (.cells #[.slice none 0 0, .slice none 0 0, .int .i64 0, .int .i64 0] 25 (0, 0)) by
    rw [hw1]
    exact (heap_alloc_old _ _ (by simp)).trans (heap_put _ _ _ (by simp)))
  have hd1 := hid (show w1.heap[w.heap.size + 1 + 1]? = some (.cells #[.int .i64 0, .slice none 0 0, .string ⟨#[]⟩] 28 (0, 0)) by
    rw [hw1]
    exact heap_put _ _ _ (by simp))
  obtain ⟨x0, x1, x2, x3⟩ := box4f hq1.out
  go_enter Tryz.func13, Tryz.ntmps13
  go_wp2_with fail
  rw [← hw1]
  clear hw1
  ((with_reducible refine (hch.out _ (hR.out.mono EBlob.stable hb1.out) (hE.out.mono EEntry.stable hb1.out)).mono ?_); rintro e w2 ⟨rfl, b2⟩)
  have hq2 := hid (stays b2 hq1.out)
  have hp2 := hid (stays b2 hp1.out)
  have hd2 := hid (stays b2 hd1.out)
  have hb2 := hid (b_call hb1.out b2)
  clear b2 hq1 hp1 hd1 hb1 x0 x1 x2 x3
  obtain ⟨x0, x1, x2, x3⟩ := box4f hq2.out
  by_cases hz : z = 0
  · subst hz
    clear hb1' hch
    replace hrt := hid (hrt.out rfl)
    ((go_wp2_with fail))
    ((with_reducible refine (hcp.out _ (hR.out.mono EBlob.stable hb2.out) (hE.out.mono EEntry.stable hb2.out)).mono ?_); rintro e w3 ⟨v1, v2, rfl, o1, o2, b3⟩)
    obtain ⟨av, cv, rfl⟩ := OX.lenOf o1
    obtain ⟨au, cu, rfl⟩ := OX.lenOf o2
    have hq3 := stays b3 hq2.out
    have hp3 := stays b3 hp2.out
    have hd3 := stays b3 hd2.out
    have hb3 := b_call hb2.out b3
    have hs23 := b3.size
    have hql := heap_lt hq2.out
    have hpl := heap_lt hp2.out
    have hdl := heap_lt hd2.out
    have hqw := hid ((heap_alloc_old w3 (Obj.cells #[.slice av bs.length cv, .slice au es.length cu, .int .i64 r, .int .i64 t] 25) (heap_lt hq3)).trans hq3)
    have hpw := hid ((heap_alloc_old w3 (Obj.cells #[.slice av bs.length cv, .slice au es.length cu, .int .i64 r, .int .i64 t] 25) (heap_lt hp3)).trans hp3)
    have hdw := hid ((heap_alloc_old w3 (Obj.cells #[.slice av bs.length cv, .slice au es.length cu, .int .i64 r, .int .i64 t] 25) (heap_lt hd3)).trans hd3)
    have how := hid (heap_alloc_new w3 (Obj.cells #[.slice av bs.length cv, .slice au es.length cu, .int .i64 r, .int .i64 t] 25))
    have hbw := hid (b_alloc hb3 (Obj.cells #[.slice av bs.length cv, .slice au es.length cu, .int .i64 r, .int .i64 t] 25))
    have o1w := OBlob.alloc o1 (Obj.cells #[.slice av bs.length cv, .slice au es.length cu, .int .i64 r, .int .i64 t] 25)
    have o2w := hid (OEntry.alloc o2 (Obj.cells #[.slice av bs.length cv, .slice au es.length cu, .int .i64 r, .int .i64 t] 25))
    have hol : w.heap.size < w3.heap.size := by omega
    have hne1 : w3.heap.size ≠ w.heap.size := by omega
    have hne2 : w3.heap.size ≠ w.heap.size + 1 := by omega
    have hne3 : w3.heap.size ≠ w.heap.size + 1 + 1 := by omega
    rw [← umkTo_zero bs] at o1w
    replace o1w := hid o1w
    clear x0 x1 x2 x3 hq2 hp2 hd2 hb2 o1 o2 b3 hq3 hp3 hd3 hb3 hcp
    obtain ⟨y0, y1, y2, y3⟩ := box4f how.out
    rw [umkTo_len] at o1w
    go_wp2_with fail
    generalize w3.alloc (Obj.cells #[.slice av bs.length cv, .slice au es.length cu, .int .i64 r, .int .i64 t] 25) = W at *
    generalize w3.heap.size = q at *
    clear y0 y1 y2 y3
    go_loopw [7, 20] (fun _ i wr => ∃ k : Nat, k ≤ bs.length ∧ i = .int .i64 (k : Int) ∧ Hid (OBlob wr w2.heap.size (.slice av bs.length cv) (umkTo k bs)) ∧ Hid (OEntry wr w2.heap.size (.slice au es.length cu) es) ∧ Hid (wr.heap[w.heap.size]? = some (.cells #[.slice a bs.length c, .slice a2 es.length c2, .int .i64 r, .int .i64 t] 25 (0, 0))) ∧ Hid (wr.heap[w.heap.size + 1]? = some (.cells #[.slice none 0 0, .slice none 0 0, .int .i64 0, .int .i64 0] 25 (0, 0))) ∧ Hid (wr.heap[w.heap.size + 1 + 1]? = some (.cells #[.int .i64 0, .slice none 0 0, .string ⟨#[]⟩] 28 (0, 0))) ∧ Hid (wr.heap[q]? = some (.cells #[.slice av bs.length cv, .slice au es.length cu, .int .i64 r, .int .i64 t] 25 (0, 0))) ∧ Hid (Below w.heap.size w wr)) (fun _ i _ => bs.length - (intOf i).toNat)
    case atStart => exact ⟨0, by omega, rfl, o1w, o2w, hqw, hpw, hdw, how, hbw⟩
    case round =>
      obtain ⟨k, hk, rfl, hob, hoe, hqr, hpr, hdr, hor, hbr⟩ := hrel
      obtain ⟨y0, y1, y2, y3⟩ := box4f hor.out
      by_cases hlt : k < bs.length
      · have hn : bs[k]? = some bs[k] := List.getElem?_eq_getElem hlt
        generalize bs[k] = x at hn
        have hx := umkTo_at hn
        have hst := umkTo_set hn
        have hil : k < (umkTo k bs).length := by rw [umkTo_len]; exact hlt
        obtain ⟨gg, cap, hv, hgB, hgl, ⟨uu, hcu⟩, hfr⟩ := OX.spot hob.out (i := k) (o := 3) hil (by decide)
        rw [umkTo_len] at hv
        simp only [Value.slice.injEq, true_and] at hv
        obtain ⟨rfl, rfl⟩ := hv
        obtain ⟨cs9, T9, fr9, hg9, rfl⟩ := obt hob.out rfl
        have ob9 := OBlob.mark false hob.out hx
        rw [hst] at ob9
        replace ob9 := hid ob9
        have oe9 := hid (OEntry.beside (o := k * 4 + 3) (u := .bool false) hoe.out hob.out)
        have hq9 := hid (box_other (q := gg) (o := k * 4 + 3) (u := .bool false) hqr.out (ne_type hg9 hqr.out (by decide)))
        have hp9 := hid (box_other (q := gg) (o := k * 4 + 3) (u := .bool false) hpr.out (ne_type hg9 hpr.out (by decide)))
        have hd9 := hid (box_other (q := gg) (o := k * 4 + 3) (u := .bool false) hdr.out (ne_type hg9 hdr.out (by decide)))
        have ho9 := hid (box_other (q := gg) (o := k * 4 + 3) (u := .bool false) hor.out (ne_type hg9 hor.out (by decide)))
        have hb9 := hid (b_set hbr.out (p := ⟨gg, k * 4 + 3, none⟩) (show w.heap.size ≤ gg by omega) (.bool false))
        have hi0 : (0 : Int) ≤ (k : Int) := by omega
        have hi1 : (k : Int) < (bs.length : Int) := by omega
        clear hob hoe hqr hpr hdr hor hbr hg9 hx hst hn hil
        go_wp2_with fail
        go_roundw
        case rel => exact ⟨k + 1, by omega, by go_num, ob9, oe9, hq9, hp9, hd9, ho9, hb9⟩
        case measure => simp [intOf]; omega
      · obtain rfl : k = bs.length := by omega
        rw [umkTo_all] at hob
        obtain ⟨x0, x1, x2, x3⟩ := box4f hqr.out
        obtain ⟨p0, p1, p2, p3⟩ := box4f hpr.out
        obtain ⟨d0, d1, d2, -⟩ := box3f hdr.out
        have hql := heap_lt hqr.out
        have rb := hid (hob.out.toR (by rw [List.length_map]; exact hre) hf1.out)
        have re := hid (hoe.out.toR hre2 hf2.out)
        go_wp2_with fail
        clear p0 p1 p2 p3 d0 d1 d2
        have hS := And.intro (box4f hqr.out) (box4f hor.out)
        go_region_held3 (fun w' => (w'.cell? ⟨w.heap.size, 0, none⟩ = some (.slice a bs.length c) ∧ w'.cell? ⟨w.heap.size, 1, none⟩ = some (.slice a2 es.length c2) ∧ w'.cell? ⟨w.heap.size, 2, none⟩ = some (.int .i64 r) ∧ w'.cell? ⟨w.heap.size, 3, none⟩ = some (.int .i64 t)) ∧ w'.cell? ⟨q, 0, none⟩ = some (.slice av bs.length cv) ∧ w'.cell? ⟨q, 1, none⟩ = some (.slice au es.length cu) ∧ w'.cell? ⟨q, 2, none⟩ = some (.int .i64 r) ∧ w'.cell? ⟨q, 3, none⟩ = some (.int .i64 t))
          (first
            | with_reducible exact hS2
            | with_reducible exact hS
            | (have h1 := box4f (box4_other (q := w.heap.size + 1) (u0 := .slice av bs.length cv) (u1 := .slice au es.length cu) (u2 := .int .i64 r) (u3 := .int .i64 t) hqc (by omega))
               have h2 := box4f (box4_other (q := w.heap.size + 1) (u0 := .slice av bs.length cv) (u1 := .slice au es.length cu) (u2 := .int .i64 r) (u3 := .int .i64 t) hoc hne2)
               unfold World.box4 at h1 h2
               with_reducible exact ⟨h1, h2⟩)
            | (have h1 := box4f (box3_other (q := w.heap.size + 1 + 1) (u0 := .int .i64 1) (u1 := .slice ra RL.length rc) (u2 := .string ⟨#[]⟩) (box4_other (q := w.heap.size + 1) (u0 := .slice av bs.length cv) (u1 := .slice au es.length cu) (u2 := .int .i64 r) (u3 := .int .i64 t) hqc (by omega)) (by omega))
               have h2 := box4f (box3_other (q := w.heap.size + 1 + 1) (u0 := .int .i64 1) (u1 := .slice ra RL.length rc) (u2 := .string ⟨#[]⟩) (box4_other (q := w.heap.size + 1) (u0 := .slice av bs.length cv) (u1 := .slice au es.length cu) (u2 := .int .i64 r) (u3 := .int .i64 t) hoc hne2) hne3)
               unfold World.box4 World.box3 at h1 h2
               with_reducible exact ⟨h1, h2⟩)
            | go_keep
            | fail)
          ((first
            | ((with_reducible refine (hrt.out wr.drew (hR.out.mono EBlob.stable hbr.out.drew) (hE.out.mono EEntry.stable hbr.out.drew)).mono ?_)
               rintro e wc ⟨vc, rfl, rt, ot, bc⟩
               have hbc : Below w.heap.size w wc := b_call hbr.out.drew bc
               have hqc := stays bc (heap_drewn hqr.out)
               have hpc := stays bc (heap_drewn hpr.out)
               have hdc := stays bc (heap_drewn hdr.out)
               have hoc := stays bc (heap_drewn hor.out)
               have rbc := rb.out.mono EBlob.stable ((Below.refl _ wr).drew.trans bc)
               have rEc := re.out.mono EEntry.stable ((Below.refl _ wr).drew.trans bc)
               have hS2 := And.intro (box4f hqc) (box4f hoc)
               obtain ⟨ra, rc, rfl, -⟩ := id rt
               obtain ⟨p0, p1, p2, p3⟩ := box4f hpc
               obtain ⟨d0, d1, d2, -⟩ := box3f hdc
               have g0 := frozen_heap hpc 0
               have g1 := frozen_heap hpc 1
               have g2 := frozen_heap hpc 2
               have g3 := frozen_heap hpc 3
               have k0 := frozen_heap hdc 0
               have k1 := frozen_heap hdc 1
               have k2 := frozen_heap hdc 2)
            | fail))
        go_wp2_with fail
        have hd8 := box4_other (q := w.heap.size + 1) (u0 := .slice av bs.length cv) (u1 := .slice au es.length cu) (u2 := .int .i64 r) (u3 := .int .i64 t) hdc (by omega)
        have hp9 := box3_other (q := w.heap.size + 1 + 1) (u0 := .int .i64 1) (u1 := .slice ra RL.length rc) (u2 := .string ⟨#[]⟩) (box4_same (u0 := .slice av bs.length cv) (u1 := .slice au es.length cu) (u2 := .int .i64 r) (u3 := .int .i64 t) hpc) (by omega)
        have hd9 := box3_same (u0 := .int .i64 1) (u1 := .slice ra RL.length rc) (u2 := .string ⟨#[]⟩) hd8
        have hb9 := b_box3 (b_box4 hbc (q := w.heap.size + 1) (by omega) (.slice av bs.length cv) (.slice au es.length cu) (.int .i64 r) (.int .i64 t)) (q := w.heap.size + 1 + 1) (by omega) (.int .i64 1) (.slice ra RL.length rc) (.string ⟨#[]⟩)
        have rl9 := (rbc.box4 EBlob.writes ⟨_, _, _, _, _, _, _, _, hpc⟩ av bs.length cv au es.length cu r t).box3 EBlob.writesC ⟨_, _, _, _, _, hd8⟩ 1 ra RL.length rc ⟨#[]⟩
        have re9 := (rEc.box4 EEntry.writes ⟨_, _, _, _, _, _, _, _, hpc⟩ av bs.length cv au es.length cu r t).box3 EEntry.writesC ⟨_, _, _, _, _, hd8⟩ 1 ra RL.length rc ⟨#[]⟩
        have rt9 := reads_str (OS.boxS3 (u0 := .int .i64 1) (u1 := .slice ra RL.length rc) (u2 := .string ⟨#[]⟩) (OS.boxS4 (u0 := .slice av bs.length cv) (u1 := .slice au es.length cu) (u2 := .int .i64 r) (u3 := .int .i64 t) ot hpc (by decide)) hd8 (by decide)) (rt_bound rt) (rt_sizes rt)
        unfold World.box4 World.box3 at rl9 re9 rt9
        obtain ⟨m0, m1, m2, m3⟩ := box4f hp9
        obtain ⟨n0, n1, n2, -⟩ := box3f hd9
        unfold World.box4 World.box3 at m0 m1 m2 m3 n0 n1 n2 hb9
        (try simp only [Exit.inBlock, Exit.then])
        refine bodyPost_ret (by simp [results, Tryz.results13, go_sem, m0, m1, m2, m3, n0, n1, n2]; try rfl) rfl ?_
        exact co_ok hb2'.out rl9 re9 rt9 hb9
  · have ht : (z != 0) = true := by simp [hz]
    have hd := hid (hb1'.out hz)
    replace hz := hid hz
    clear hrt hcp hb2' hb1' hch
    obtain ⟨p0, p1, p2, p3⟩ := box4f hp2.out
    obtain ⟨d0, d1, d2, -⟩ := box3f hd2.out
    have g0 := frozen_heap hp2.out 0
    have g1 := frozen_heap hp2.out 1
    have g2 := frozen_heap hp2.out 2
    have g3 := frozen_heap hp2.out 3
    have k0 := frozen_heap hd2.out 0
    have k1 := frozen_heap hd2.out 1
    have k2 := frozen_heap hd2.out 2
    go_wp2_with fail
    have hd8 := box4_other (q := w.heap.size + 1) (u0 := .slice none 0 0) (u1 := .slice none 0 0) (u2 := .int .i64 0) (u3 := .int .i64 0) hd2.out (by omega)
    have hp9 := box3_other (q := w.heap.size + 1 + 1) (u0 := .int .i64 0) (u1 := .slice none 0 0) (u2 := .string ⟨#[]⟩) (box4_same (u0 := .slice none 0 0) (u1 := .slice none 0 0) (u2 := .int .i64 0) (u3 := .int .i64 0) hp2.out) (by omega)
    have hd9 := box3_same (u0 := .int .i64 0) (u1 := .slice none 0 0) (u2 := .string ⟨#[]⟩) hd8
    have hb9 := b_box3 (b_box4 hb2.out (q := w.heap.size + 1) (by omega) (.slice none 0 0) (.slice none 0 0) (.int .i64 0) (.int .i64 0)) (q := w.heap.size + 1 + 1) (by omega) (.int .i64 0) (.slice none 0 0) (.string ⟨#[]⟩)
    obtain ⟨m0, m1, m2, m3⟩ := box4f hp9
    obtain ⟨n0, n1, n2, -⟩ := box3f hd9
    unfold World.box4 World.box3 at m0 m1 m2 m3 n0 n1 n2 hb9
    (try simp only [Exit.inBlock, Exit.then])
    refine bodyPost_ret (by simp [results, Tryz.results13, go_sem, m0, m1, m2, m3, n0, n1, n2]; try rfl) rfl ?_
    exact co_no hd.out hb9
end Go.Proofs.YtojebioolflbkaaGreat
