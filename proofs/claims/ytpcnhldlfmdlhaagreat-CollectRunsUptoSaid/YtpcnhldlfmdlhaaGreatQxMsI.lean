/-
  mark.step: what it answers. Printed by gen_ms.py.
-/
import Derived.Test.YtpcnhldlfmdlhaaGreatQxMsL
namespace Go.Proofs.YtpcnhldlfmdlhaaGreat
open Go.RowKit

set_option maxRecDepth 100000 in
set_option maxHeartbeats 4000000 in
theorem mark_step (v1 v2 gv : Value) (bs : List Blob) (es : List Entry) (r t ph : Int) (pl : ByteArray) (gy : List ByteArray) (B : Nat) (w : World) (hB : B ≤ w.heap.size) (ob : OBlob w B v1 bs) (oe : OEntry w B v2 es) (hg : RT w gv gy)
    (hre : bs.length * 56 ≤ 140737488351232) (hre2 : es.length * 56 ≤ 140737488351232) (hf1 : ∀ x ∈ bs, FitBlob x) (hf2 : ∀ x ∈ es, FitEntry x) (hl : (gy.length + 8) * 16 ≤ 140737488351232) :
    Calls Tryz.prog 200 #[.agg #[v1, v2, .int .i64 r, .int .i64 t], .agg #[.int .i64 ph, gv, .string pl]] w (StepPost (mst bs gy) es r t B w) := by
  have hG := hid hg
  have hgs := hid (rt_sizes hg)
  replace hf1 := hid hf1
  replace hf2 := hid hf2
  obtain ⟨av, cv, rfl⟩ := OX.lenOf ob
  obtain ⟨au, cu, rfl⟩ := OX.lenOf oe
  obtain ⟨ga, gc, rfl, hglc, hgcm, -⟩ := hg
  unfold maxLen at hgcm
  have m1 := hid (mst_nil (bs := bs) (gy := gy))
  have m2 := hid (fun d => mst_none (bs := bs) (gy := gy) (d := d))
  have m3 := hid (fun d x => mst_mark (bs := bs) (gy := gy) (d := d) (x := x))
  have m4 := hid (fun d x => mst_new (bs := bs) (gy := gy) (d := d) (x := x))
  generalize mst bs gy = so at *
  obtain ⟨w1, hw1⟩ : ∃ w1 : World, w1 = (((w.alloc (Obj.cells #[.slice av bs.length cv, .slice au es.length cu, .int .i64 r, .int .i64 t] 29)).alloc (Obj.cells #[.int .i64 ph, .slice ga gy.length gc, .string pl] 32)).alloc (Obj.cells #[.slice none 0 0, .slice none 0 0, .int .i64 0, .int .i64 0] 29)).alloc (Obj.cells #[.int .i64 0, .slice none 0 0, .string ⟨#[]⟩] 32) := ⟨_, rfl⟩
  have hb1 := hid (show Below w.heap.size w w1 by rw [hw1]; exact b_alloc (b_alloc (b_alloc (b_alloc (Below.refl _ _) _) _) _) _)
  have hq1 := hid (show w1.heap[w.heap.size]? = some (.cells #[.slice av bs.length cv, .slice au es.length cu, .int .i64 r, .int .i64 t] 29 (0, 0)) by
    rw [hw1]
    exact (heap_alloc_old _ _ (by first | (simp; done) | (simp; omega))).trans ((heap_alloc_old _ _ (by first | (simp; done) | (simp; omega))).trans ((heap_alloc_old _ _ (by simp)).trans (heap_alloc_new w _))))
  have hk1 := hid (show w1.heap[w.heap.size + 1]? = some (.cells #[.int .i64 ph, .slice ga gy.length gc, .string pl] 32 (0, 0)) by
    rw [hw1]
    exact (heap_alloc_old _ _ (by first | (simp; done) | (simp; omega))).trans ((heap_alloc_old _ _ (by simp)).trans (heap_put _ _ _ (by simp))))
  have hp1 := hid (show w1.heap[w.heap.size + 1 + 1]? = some (.cells #[.slice none 0 0, .slice none 0 0, .int .i64 0, .int .i64 0] 29 (0, 0)) by
    rw [hw1]
    exact (heap_alloc_old _ _ (by simp)).trans (heap_put _ _ _ (by simp)))
  have hd1 := hid (show w1.heap[w.heap.size + 1 + 1 + 1]? = some (.cells #[.int .i64 0, .slice none 0 0, .string ⟨#[]⟩] 32 (0, 0)) by
    rw [hw1]
    exact heap_put _ _ _ (by simp))
  have o1 := hid (OBlob.after ob hb1.out)
  have o2 := hid (OEntry.after oe hb1.out)
  have rg1 := hid (hG.out.mono EStr.stable hb1.out)
  have rb1 := hid (o1.out.toR hre hf1.out)
  have re1 := hid (o2.out.toR hre2 hf2.out)
  have hBB := hid (hb1.out.mono hB)
  have hKK := hid (KT.of hb1.out)
  have rb0 := hid (ob.toR hre hf1.out)
  have re0 := hid (oe.toR hre2 hf2.out)
  clear ob oe hG hb1
  cases hgy : gy[0]? with
  | none =>
    have hso := hid (m1.out hgy)
    have hn0 : gy.length = 0 := by
      rcases Nat.eq_zero_or_pos gy.length with h0 | h0
      · exact h0
      · rw [List.getElem?_eq_getElem h0] at hgy; cases hgy
    have hn1 : decide ((gy.length : Int) = 0) = true := decide_eq_true (by omega)
    have hn2 : ((gy.length : Int) == 0) = true := by rw [hn0]; rfl
    clear m1 m2 m3 m4 hgy
    clear hw1 hq1 hk1 hp1 hd1 o1 o2 rg1 rb1 re1 hBB hKK
    go_enter Tryz.func200, Tryz.ntmps200
    go_wp2_with fail
    (try simp only [Exit.inBlock, Exit.then])
    refine bodyPost_ret (by simp [results, Tryz.results200, go_sem]; try rfl) rfl ?_
    have hbF := fun x0 x1 x2 x3 => b_alloc (b_alloc (b_alloc (b_alloc (Below.refl w.heap.size w) x0) x1) x2) x3
    exact stp_ok hso.out (rb0.out.mono EBlob.stable (hbF _ _ _ _)) (re0.out.mono EEntry.stable (hbF _ _ _ _)) RS.nil OS.nil ((hbF _ _ _ _).mono hB) (KT.of (hbF _ _ _ _))
  | some d =>
    have hn0 : 0 < gy.length := by
      rcases Nat.eq_zero_or_pos gy.length with h0 | h0
      · rw [List.getElem?_eq_none (by omega)] at hgy; cases hgy
      · exact h0
    have hn2 : ((gy.length : Int) == 0) = false := beq_eq_false_iff_ne.2 (by omega)
    obtain ⟨gb, go, rfl, hgb, he4, hsd⟩ := rt_at rg1.out hgy
    rw [Nat.zero_mul, Nat.add_zero] at he4
    have hgyn : (0 : Int) < (gy.length : Int) := by omega
    obtain ⟨A, hA⟩ : ∃ A, (if gc = 1 then (some ⟨gb, go, none⟩ : Option Addr) else some ⟨gb, go + 1, none⟩) = A := ⟨_, rfl⟩
    have hfr := RS.from rg1.out 1 (by omega)
    rw [show (if gc = 1 then (some ⟨gb, go, none⟩ : Option Addr) else (some (⟨gb, go, none⟩ : Addr)).map (·.add (1 * 1))) = A by rw [← hA]; simp [Addr.add_lit]] at hfr
    replace hfr := hid hfr
    have hdl : (gy.drop 1).length = gy.length - 1 := by rw [List.length_drop]
    have hcs := drop_sizes hgs.out 1
    clear m1
    generalize gy.drop 1 = rest at *
    replace hcs := hid hcs
    have hg1 : (1 : Int) ≤ (gy.length : Int) := by omega
    have hg2 : gy.length ≤ gc := hglc
    have hfd := hid (fun W (h : RBl W (.slice av bs.length cv) bs) => blob_Find (.slice av bs.length cv) bs d W h)
    by_cases hin : InB bs d
    · obtain ⟨e1, e2⟩ := find_yes hin
      rw [e1, e2] at hfd
      clear e1 e2 m2
      have hx : bs[atKey (fun x : Blob => x.digest) d bs]? = some bs[atKey (fun x : Blob => x.digest) d bs] := List.getElem?_eq_getElem hin
      have hil : atKey (fun x : Blob => x.digest) d bs < bs.length := hin
      replace m3 := hid (fun x => m3.out d x hgy)
      replace m4 := hid (fun x => m4.out d x hgy)
      generalize bs[atKey (fun x : Blob => x.digest) d bs] = x at hx
      generalize atKey (fun x : Blob => x.digest) d bs = i at *
      have hi0 : (0 : Int) ≤ (i : Int) := by omega
      have hi1 : (i : Int) < (bs.length : Int) := by omega
      cases hm : x.mark with
      | true =>
        have hso := hid (m3.out x hx hm)
        clear m3 m4 hgy
        obtain ⟨x0, x1, x2, x3⟩ := box4f hq1.out
        obtain ⟨y0, y1, y2, -⟩ := box3f hk1.out
        go_enter Tryz.func200, Tryz.ntmps200
        go_wp2_with fail
        rw [← hw1]
        clear hw1
        have hS := And.intro x0 (And.intro y1 he4)
        go_wp2_with fail
        go_region_held3 (fun w' => w'.cell? ⟨w.heap.size, 0, none⟩ = some (.slice av bs.length cv) ∧ w'.cell? ⟨w.heap.size + 1, 1, none⟩ = some (.slice (some ⟨gb, go, none⟩) gy.length gc) ∧ w'.cell? ⟨gb, go, none⟩ = some (.string d))
          (first | exact hS2 | exact hS | go_keep | fail)
          ((first
            | ((with_reducible refine (hfd.out w1.drew (rb1.out.mono EBlob.stable (Below.refl _ w1).drew)).mono ?_)
               rintro e w3 ⟨rfl, b3⟩
               have hS2 := And.intro (box4f (stays b3 (heap_drewn hq1.out))).1 (And.intro (box3f (stays b3 (heap_drewn hk1.out))).2.1 (cell_stays ((Below.refl _ w1).drew.trans b3) hgb he4)))
            | fail))
        clear hS2
        have hq3 := hid (stays b3 (heap_drewn hq1.out))
        have hk3 := hid (stays b3 (heap_drewn hk1.out))
        have hp3 := hid (stays b3 (heap_drewn hp1.out))
        have hd3 := hid (stays b3 (heap_drewn hd1.out))
        have bw3 := (Below.refl w1.heap.size w1).drew.trans b3
        have o3 := hid (OBlob.after o1.out bw3)
        have oe3 := hid (OEntry.after o2.out bw3)
        have rb3 := hid (rb1.out.mono EBlob.stable bw3)
        have re3 := hid (re1.out.mono EEntry.stable bw3)
        have hfr3 := hid (hfr.out.mono EStr.stable bw3)
        have hK3 := hid (KT.call hKK.out bw3)
        have hB3 := hid (hBB.out.trans (bw3.mono (by have := hBB.out.size; omega)))
        have hl1 := heap_lt hd1.out
        have hs13 := bw3.size
        clear hS x0 x1 x2 x3 y0 y1 y2 hq1 hk1 hp1 hd1 o1 o2 rb1 re1 hfr bw3 b3 hBB hKK he4 rg1
        obtain ⟨x0, x1, x2, x3⟩ := box4f hq3.out
        obtain ⟨y0, y1, y2, -⟩ := box3f hk3.out
        go_wp2_with fail
        ((with_reducible refine (slices_Clone_str _ _ _ hfr3.out).mono ?_); rintro e w4 ⟨vc, rfl, oc, b4⟩)
        have hq4 := hid (stays b4 hq3.out)
        have hk4 := hid (stays b4 hk3.out)
        have hp4 := hid (stays b4 hp3.out)
        have hd4 := hid (stays b4 hd3.out)
        have o4 := hid (OBlob.after o3.out b4)
        have oe4 := hid (OEntry.after oe3.out b4)
        have rb4 := hid (rb3.out.mono EBlob.stable b4)
        have re4 := hid (re3.out.mono EEntry.stable b4)
        have hK4 := hid (KT.call hK3.out b4)
        have hB4 := hid (hB3.out.trans (b4.mono (by have := hB3.out.size; omega)))
        have hs34 := b4.size
        obtain ⟨ca, cc, rfl, -⟩ := id (OS.len_le oc)
        rw [hdl] at oc
        have oc4 := hid oc
        have hcl4 : rest.length * 16 ≤ 140737488351232 := by rw [hdl]; omega
        clear x0 x1 x2 x3 y0 y1 y2 hq3 hk3 hp3 hd3 o3 oe3 rb3 re3 hB3 hK3 b4 oc hfr3
        obtain ⟨x0, x1, x2, x3⟩ := box4f hq4.out
        obtain ⟨bb, off, hab, hbb, pv, b0, b1, b2', b3', -⟩ := rs_at rb4.out hx
        obtain rfl : av = some ⟨bb, off, none⟩ := hab
        rw [hm] at b3'
        obtain ⟨p0, p1, p2, p3⟩ := box4f hp4.out
        obtain ⟨d0, d1, d2, -⟩ := box3f hd4.out
        have g0 := frozen_heap hp4.out 0
        have g1 := frozen_heap hp4.out 1
        have g2 := frozen_heap hp4.out 2
        have g3 := frozen_heap hp4.out 3
        have k0 := frozen_heap hd4.out 0
        have k1 := frozen_heap hd4.out 1
        have k2 := frozen_heap hd4.out 2
        go_wp2_with fail
        have hd8 := box4_other (q := w.heap.size + 1 + 1) (u0 := .slice (some ⟨bb, off, none⟩) bs.length cv) (u1 := .slice au es.length cu) (u2 := .int .i64 r) (u3 := .int .i64 t) hd4.out (by omega)
        have hp9 := box3_other (q := w.heap.size + 1 + 1 + 1) (u0 := .int .i64 1) (u1 := .slice ca (gy.length - 1) cc) (u2 := .string ⟨#[]⟩) (box4_same (u0 := .slice (some ⟨bb, off, none⟩) bs.length cv) (u1 := .slice au es.length cu) (u2 := .int .i64 r) (u3 := .int .i64 t) hp4.out) (by omega)
        have hd9 := box3_same (u0 := .int .i64 1) (u1 := .slice ca (gy.length - 1) cc) (u2 := .string ⟨#[]⟩) hd8
        have hb9 := bB_box3 (bB_box4 hB4.out (q := w.heap.size + 1 + 1) (by omega) (.slice (some ⟨bb, off, none⟩) bs.length cv) (.slice au es.length cu) (.int .i64 r) (.int .i64 t)) (q := w.heap.size + 1 + 1 + 1) (by omega) (.int .i64 1) (.slice ca (gy.length - 1) cc) (.string ⟨#[]⟩)
        have hk9 := KT.box3 (KT.box4 hK4.out (q := w.heap.size + 1 + 1) (by omega) (.slice (some ⟨bb, off, none⟩) bs.length cv) (.slice au es.length cu) (.int .i64 r) (.int .i64 t)) (q := w.heap.size + 1 + 1 + 1) (by omega) (.int .i64 1) (.slice ca (gy.length - 1) cc) (.string ⟨#[]⟩)
        unfold World.box4 World.box3 at hk9
        have rl9 := (rb4.out.box4 EBlob.writes ⟨_, _, _, _, _, _, _, _, hp4.out⟩ (some ⟨bb, off, none⟩) bs.length cv au es.length cu r t).box3 EBlob.writesC ⟨_, _, _, _, _, hd8⟩ 1 ca (gy.length - 1) cc ⟨#[]⟩
        have re9 := (re4.out.box4 EEntry.writes ⟨_, _, _, _, _, _, _, _, hp4.out⟩ (some ⟨bb, off, none⟩) bs.length cv au es.length cu r t).box3 EEntry.writesC ⟨_, _, _, _, _, hd8⟩ 1 ca (gy.length - 1) cc ⟨#[]⟩
        have os9 := (OS.boxS3 (u0 := .int .i64 1) (u1 := .slice ca (gy.length - 1) cc) (u2 := .string ⟨#[]⟩) (OS.boxS4 (u0 := .slice (some ⟨bb, off, none⟩) bs.length cv) (u1 := .slice au es.length cu) (u2 := .int .i64 r) (u3 := .int .i64 t) oc4.out hp4.out (by decide)) hd8 (by decide))
        have rt9 := reads_str os9 hcl4 hcs.out
        unfold World.box4 World.box3 at rl9 re9 rt9 os9
        obtain ⟨m0, m1, m2, m3⟩ := box4f hp9
        obtain ⟨n0, n1, n2, -⟩ := box3f hd9
        unfold World.box4 World.box3 at m0 m1 m2 m3 n0 n1 n2 hb9
        (try simp only [Exit.inBlock, Exit.then])
        refine bodyPost_ret (by simp [results, Tryz.results200, go_sem, m0, m1, m2, m3, n0, n1, n2]; try rfl) rfl ?_
        exact stp_ok hso.out rl9 re9 rt9 (OS.mono os9 (by omega)) hb9 hk9
      | false =>
        have hso := hid (m4.out x hx hm)
        clear m3 m4 hgy
        obtain ⟨x0, x1, x2, x3⟩ := box4f hq1.out
        obtain ⟨y0, y1, y2, -⟩ := box3f hk1.out
        go_enter Tryz.func200, Tryz.ntmps200
        go_wp2_with fail
        rw [← hw1]
        clear hw1
        have hS := And.intro x0 (And.intro y1 he4)
        go_wp2_with fail
        go_region_held3 (fun w' => w'.cell? ⟨w.heap.size, 0, none⟩ = some (.slice av bs.length cv) ∧ w'.cell? ⟨w.heap.size + 1, 1, none⟩ = some (.slice (some ⟨gb, go, none⟩) gy.length gc) ∧ w'.cell? ⟨gb, go, none⟩ = some (.string d))
          (first | exact hS2 | exact hS | go_keep | fail)
          ((first
            | ((with_reducible refine (hfd.out w1.drew (rb1.out.mono EBlob.stable (Below.refl _ w1).drew)).mono ?_)
               rintro e w3 ⟨rfl, b3⟩
               have hS2 := And.intro (box4f (stays b3 (heap_drewn hq1.out))).1 (And.intro (box3f (stays b3 (heap_drewn hk1.out))).2.1 (cell_stays ((Below.refl _ w1).drew.trans b3) hgb he4)))
            | fail))
        clear hS2
        have hq3 := hid (stays b3 (heap_drewn hq1.out))
        have hk3 := hid (stays b3 (heap_drewn hk1.out))
        have hp3 := hid (stays b3 (heap_drewn hp1.out))
        have hd3 := hid (stays b3 (heap_drewn hd1.out))
        have bw3 := (Below.refl w1.heap.size w1).drew.trans b3
        have o3 := hid (OBlob.after o1.out bw3)
        have oe3 := hid (OEntry.after o2.out bw3)
        have rb3 := hid (rb1.out.mono EBlob.stable bw3)
        have re3 := hid (re1.out.mono EEntry.stable bw3)
        have hfr3 := hid (hfr.out.mono EStr.stable bw3)
        have hK3 := hid (KT.call hKK.out bw3)
        have hB3 := hid (hBB.out.trans (bw3.mono (by have := hBB.out.size; omega)))
        have hl1 := heap_lt hd1.out
        have hs13 := bw3.size
        clear hS x0 x1 x2 x3 y0 y1 y2 hq1 hk1 hp1 hd1 o1 o2 rb1 re1 hfr bw3 b3 hBB hKK he4 rg1
        obtain ⟨x0, x1, x2, x3⟩ := box4f hq3.out
        obtain ⟨y0, y1, y2, -⟩ := box3f hk3.out
        go_wp2_with fail
        ((with_reducible refine (slices_Clone_str _ _ _ hfr3.out).mono ?_); rintro e w4 ⟨vc, rfl, oc, b4⟩)
        have hq4 := hid (stays b4 hq3.out)
        have hk4 := hid (stays b4 hk3.out)
        have hp4 := hid (stays b4 hp3.out)
        have hd4 := hid (stays b4 hd3.out)
        have o4 := hid (OBlob.after o3.out b4)
        have oe4 := hid (OEntry.after oe3.out b4)
        have rb4 := hid (rb3.out.mono EBlob.stable b4)
        have re4 := hid (re3.out.mono EEntry.stable b4)
        have hK4 := hid (KT.call hK3.out b4)
        have hB4 := hid (hB3.out.trans (b4.mono (by have := hB3.out.size; omega)))
        have hs34 := b4.size
        obtain ⟨ca, cc, rfl, -⟩ := id (OS.len_le oc)
        rw [hdl] at oc
        have oc4 := hid oc
        have hcl4 : rest.length * 16 ≤ 140737488351232 := by rw [hdl]; omega
        clear x0 x1 x2 x3 y0 y1 y2 hq3 hk3 hp3 hd3 o3 oe3 rb3 re3 hB3 hK3 b4 oc hfr3
        obtain ⟨x0, x1, x2, x3⟩ := box4f hq4.out
        have hx4 := hx
        obtain ⟨gg, cap, hv, hgB, hgl, ⟨uu, hcu⟩, hfz⟩ := OX.spot o4.out (i := i) (o := 3) hil (by decide)
        clear hcu
        simp only [Value.slice.injEq, true_and] at hv
        obtain ⟨rfl, rfl⟩ := hv
        obtain ⟨cs9, T9, fr9, hg9, rfl⟩ := obt o4.out rfl
        obtain ⟨bb, off, hab, hbb, pv, b0, b1, b2', b3', -⟩ := rs_at rb4.out hx
        simp only [Option.some.injEq, Addr.mk.injEq, and_true] at hab
        obtain ⟨rfl, rfl⟩ := hab
        rw [Nat.zero_add] at b3'
        rw [hm] at b3'
        have o5 := hid (OBlob.mark true o4.out hx)
        have oe5 := hid (OEntry.beside (o := i * 4 + 3) (u := .bool true) oe4.out o4.out)
        have hq5 := hid (box_other (q := gg) (o := i * 4 + 3) (u := .bool true) hq4.out (ne_type hg9 hq4.out (by decide)))
        have hp5 := hid (box_other (q := gg) (o := i * 4 + 3) (u := .bool true) hp4.out (ne_type hg9 hp4.out (by decide)))
        have hd5 := hid (box_other (q := gg) (o := i * 4 + 3) (u := .bool true) hd4.out (ne_type hg9 hd4.out (by decide)))
        have oc5 := hid (OS.other (o := i * 4 + 3) (u := .bool true) oc4.out hg9 (by decide))
        have hK5 := hid (KT.set (o := i * 4 + 3) (u := .bool true) hK4.out hg9)
        have hB5 := hid (hB4.out.setCell (p := ⟨gg, i * 4 + 3, none⟩) hgB (.bool true))
        have hf5 := hid (mark_fit hf1.out hx)
        have hlen5 : (bs.set i { x with mark := true }).length = bs.length := List.length_set
        have rb5 := hid (o5.out.toR (by rw [hlen5]; exact hre) hf5.out)
        have re5 := hid (oe5.out.toR hre2 hf2.out)
        have hx5 : (bs.set i { x with mark := true })[i]? = some { x with mark := true } := by rw [List.getElem?_set_self hil]
        obtain ⟨bb, off, hab, hbb5, pv5, c0, c1, c2, c3, rd5, -⟩ := rs_at rb5.out hx5
        simp only [Option.some.injEq, Addr.mk.injEq, and_true] at hab
        obtain ⟨rfl, rfl⟩ := hab
        rw [Nat.zero_add] at c0 c1 c2 c3
        have hsw : (w4.setCell ⟨gg, i * 4 + 3, none⟩ (.bool true)).heap.size = w4.heap.size := by simp [World.setCell]
        have rt5 := hid (reads_str oc5.out hcl4 hcs.out)
        obtain ⟨z0, z1, z2, z3⟩ := box4f hq5.out
        obtain ⟨da, dc, rfl, -⟩ := id rd5
        go_wp2_with fail
        generalize w4.setCell ⟨gg, i * 4 + 3, none⟩ (.bool true) = w5 at *
        ((with_reducible refine (reach_PartsD { x with mark := true } _ _ rd5).mono ?_); rintro e w6 ⟨v6, rfl, o6, b6⟩)
        have hds := digs_small x
        have r6 := hid (reads_str (show OS 9 1 cStr w6 w5.heap.size v6 (digsOf x) from o6) (by omega) hds.2)
        have hA6 := hid (mark_Add _ v6 rest (digsOf x) _ (rt5.out.mono EStr.stable b6) r6.out (by rw [hdl]; omega) (fun s hs => (List.mem_append.1 hs).elim (hcs.out s) (hds.2 s)))
        have b56 := hid b6
        have hs56 := b6.size
        have hs45 : w4.heap.size ≤ w5.heap.size := by omega
        clear c0 c1 c2 c3 z0 z1 z2 z3 x0 x1 x2 x3 b0 b1 b2' b3' hfz hg9 hq4 hp4 hd4 o4 oe4 rb4 re4 oc4 hB4 hK4 o5 oe5 b6 o6
        go_wp2_with fail
        ((with_reducible refine hA6.out.mono ?_); rintro e w7 ⟨v7, rfl, r7, o7, b7⟩)
        have b57 := b_call b56.out b7
        have hq7 := hid (stays b57 hq5.out)
        have hp7 := hid (stays b57 hp5.out)
        have hd7 := hid (stays b57 hd5.out)
        have rb7 := hid (rb5.out.mono EBlob.stable b57)
        have re7 := hid (re5.out.mono EEntry.stable b57)
        have hsB := hB5.out.size
        have hK7 := hid (KT.call hK5.out b57)
        have hB7 := hid (hB5.out.trans (b57.mono (by omega)))
        have hb7s := b57.size
        generalize addedL rest (digsOf x) = AL at *
        replace r7 := hid r7
        replace o7 := hid o7
        obtain ⟨aa, ac, rfl, -⟩ := id r7.out
        clear b7 b56 b57 hq5 hp5 hd5 rb5 re5 hB5 hK5 hA6 r6 rt5 oc5
        obtain ⟨z0, z1, z2, z3⟩ := box4f hq7.out
        obtain ⟨p0, p1, p2, p3⟩ := box4f hp7.out
        obtain ⟨d0, d1, d2, -⟩ := box3f hd7.out
        have g0 := frozen_heap hp7.out 0
        have g1 := frozen_heap hp7.out 1
        have g2 := frozen_heap hp7.out 2
        have g3 := frozen_heap hp7.out 3
        have k0 := frozen_heap hd7.out 0
        have k1 := frozen_heap hd7.out 1
        have k2 := frozen_heap hd7.out 2
        go_wp2_with fail
        have hd8 := box4_other (q := w.heap.size + 1 + 1) (u0 := .slice (some ⟨gg, 0, none⟩) bs.length cv) (u1 := .slice au es.length cu) (u2 := .int .i64 r) (u3 := .int .i64 t) hd7.out (by omega)
        have hp9 := box3_other (q := w.heap.size + 1 + 1 + 1) (u0 := .int .i64 1) (u1 := .slice aa AL.length ac) (u2 := .string ⟨#[]⟩) (box4_same (u0 := .slice (some ⟨gg, 0, none⟩) bs.length cv) (u1 := .slice au es.length cu) (u2 := .int .i64 r) (u3 := .int .i64 t) hp7.out) (by omega)
        have hd9 := box3_same (u0 := .int .i64 1) (u1 := .slice aa AL.length ac) (u2 := .string ⟨#[]⟩) hd8
        have hb9 := bB_box3 (bB_box4 hB7.out (q := w.heap.size + 1 + 1) (by omega) (.slice (some ⟨gg, 0, none⟩) bs.length cv) (.slice au es.length cu) (.int .i64 r) (.int .i64 t)) (q := w.heap.size + 1 + 1 + 1) (by omega) (.int .i64 1) (.slice aa AL.length ac) (.string ⟨#[]⟩)
        have hk9 := KT.box3 (KT.box4 hK7.out (q := w.heap.size + 1 + 1) (by omega) (.slice (some ⟨gg, 0, none⟩) bs.length cv) (.slice au es.length cu) (.int .i64 r) (.int .i64 t)) (q := w.heap.size + 1 + 1 + 1) (by omega) (.int .i64 1) (.slice aa AL.length ac) (.string ⟨#[]⟩)
        unfold World.box4 World.box3 at hk9
        have rl9 := (rb7.out.box4 EBlob.writes ⟨_, _, _, _, _, _, _, _, hp7.out⟩ (some ⟨gg, 0, none⟩) bs.length cv au es.length cu r t).box3 EBlob.writesC ⟨_, _, _, _, _, hd8⟩ 1 aa AL.length ac ⟨#[]⟩
        have re9 := (re7.out.box4 EEntry.writes ⟨_, _, _, _, _, _, _, _, hp7.out⟩ (some ⟨gg, 0, none⟩) bs.length cv au es.length cu r t).box3 EEntry.writesC ⟨_, _, _, _, _, hd8⟩ 1 aa AL.length ac ⟨#[]⟩
        have os9 := (OS.boxS3 (u0 := .int .i64 1) (u1 := .slice aa AL.length ac) (u2 := .string ⟨#[]⟩) (OS.boxS4 (u0 := .slice (some ⟨gg, 0, none⟩) bs.length cv) (u1 := .slice au es.length cu) (u2 := .int .i64 r) (u3 := .int .i64 t) o7.out hp7.out (by decide)) hd8 (by decide))
        have rt9 := reads_str os9 (rt_bound r7.out) (rt_sizes r7.out)
        unfold World.box4 World.box3 at rl9 re9 rt9 os9
        obtain ⟨m0, m1, m2, m3⟩ := box4f hp9
        obtain ⟨n0, n1, n2, -⟩ := box3f hd9
        unfold World.box4 World.box3 at m0 m1 m2 m3 n0 n1 n2 hb9
        (try simp only [Exit.inBlock, Exit.then])
        refine bodyPost_ret (by simp [results, Tryz.results200, go_sem, m0, m1, m2, m3, n0, n1, n2]; try rfl) rfl ?_
        exact stp_ok hso.out rl9 re9 rt9 (OS.mono os9 (by omega)) hb9 hk9
    · obtain ⟨e1, e2⟩ := find_no hin
      rw [e1, e2] at hfd
      have hso := hid (m2.out d hgy (List.getElem?_eq_none (by unfold InB at hin; omega)))
      clear e1 e2 m2 m3 m4 hin hgy
      obtain ⟨x0, x1, x2, x3⟩ := box4f hq1.out
      obtain ⟨y0, y1, y2, -⟩ := box3f hk1.out
      go_enter Tryz.func200, Tryz.ntmps200
      go_wp2_with fail
      rw [← hw1]
      clear hw1
      have hS := And.intro x0 (And.intro y1 he4)
      go_wp2_with fail
      go_region_held3 (fun w' => w'.cell? ⟨w.heap.size, 0, none⟩ = some (.slice av bs.length cv) ∧ w'.cell? ⟨w.heap.size + 1, 1, none⟩ = some (.slice (some ⟨gb, go, none⟩) gy.length gc) ∧ w'.cell? ⟨gb, go, none⟩ = some (.string d))
        (first | exact hS2 | exact hS | go_keep | fail)
        ((first
          | ((with_reducible refine (hfd.out w1.drew (rb1.out.mono EBlob.stable (Below.refl _ w1).drew)).mono ?_)
             rintro e w3 ⟨rfl, b3⟩
             have hS2 := And.intro (box4f (stays b3 (heap_drewn hq1.out))).1 (And.intro (box3f (stays b3 (heap_drewn hk1.out))).2.1 (cell_stays ((Below.refl _ w1).drew.trans b3) hgb he4)))
          | fail))
      clear hS2
      have hq3 := hid (stays b3 (heap_drewn hq1.out))
      have hk3 := hid (stays b3 (heap_drewn hk1.out))
      have hp3 := hid (stays b3 (heap_drewn hp1.out))
      have hd3 := hid (stays b3 (heap_drewn hd1.out))
      have bw3 := (Below.refl w1.heap.size w1).drew.trans b3
      have o3 := hid (OBlob.after o1.out bw3)
      have oe3 := hid (OEntry.after o2.out bw3)
      have rb3 := hid (rb1.out.mono EBlob.stable bw3)
      have re3 := hid (re1.out.mono EEntry.stable bw3)
      have hfr3 := hid (hfr.out.mono EStr.stable bw3)
      have hK3 := hid (KT.call hKK.out bw3)
      have hB3 := hid (hBB.out.trans (bw3.mono (by have := hBB.out.size; omega)))
      have hl1 := heap_lt hd1.out
      have hs13 := bw3.size
      clear hS x0 x1 x2 x3 y0 y1 y2 hq1 hk1 hp1 hd1 o1 o2 rb1 re1 hfr bw3 b3 hBB hKK he4 rg1
      obtain ⟨x0, x1, x2, x3⟩ := box4f hq3.out
      obtain ⟨y0, y1, y2, -⟩ := box3f hk3.out
      go_wp2_with fail
      ((with_reducible refine (slices_Clone_str _ _ _ hfr3.out).mono ?_); rintro e w4 ⟨vc, rfl, oc, b4⟩)
      have hq4 := hid (stays b4 hq3.out)
      have hk4 := hid (stays b4 hk3.out)
      have hp4 := hid (stays b4 hp3.out)
      have hd4 := hid (stays b4 hd3.out)
      have o4 := hid (OBlob.after o3.out b4)
      have oe4 := hid (OEntry.after oe3.out b4)
      have rb4 := hid (rb3.out.mono EBlob.stable b4)
      have re4 := hid (re3.out.mono EEntry.stable b4)
      have hK4 := hid (KT.call hK3.out b4)
      have hB4 := hid (hB3.out.trans (b4.mono (by have := hB3.out.size; omega)))
      have hs34 := b4.size
      obtain ⟨ca, cc, rfl, -⟩ := id (OS.len_le oc)
      rw [hdl] at oc
      have oc4 := hid oc
      have hcl4 : rest.length * 16 ≤ 140737488351232 := by rw [hdl]; omega
      clear x0 x1 x2 x3 y0 y1 y2 hq3 hk3 hp3 hd3 o3 oe3 rb3 re3 hB3 hK3 b4 oc hfr3
      obtain ⟨x0, x1, x2, x3⟩ := box4f hq4.out
      obtain ⟨p0, p1, p2, p3⟩ := box4f hp4.out
      obtain ⟨d0, d1, d2, -⟩ := box3f hd4.out
      have g0 := frozen_heap hp4.out 0
      have g1 := frozen_heap hp4.out 1
      have g2 := frozen_heap hp4.out 2
      have g3 := frozen_heap hp4.out 3
      have k0 := frozen_heap hd4.out 0
      have k1 := frozen_heap hd4.out 1
      have k2 := frozen_heap hd4.out 2
      go_wp2_with fail
      have hd8 := box4_other (q := w.heap.size + 1 + 1) (u0 := .slice av bs.length cv) (u1 := .slice au es.length cu) (u2 := .int .i64 r) (u3 := .int .i64 t) hd4.out (by omega)
      have hp9 := box3_other (q := w.heap.size + 1 + 1 + 1) (u0 := .int .i64 1) (u1 := .slice ca (gy.length - 1) cc) (u2 := .string ⟨#[]⟩) (box4_same (u0 := .slice av bs.length cv) (u1 := .slice au es.length cu) (u2 := .int .i64 r) (u3 := .int .i64 t) hp4.out) (by omega)
      have hd9 := box3_same (u0 := .int .i64 1) (u1 := .slice ca (gy.length - 1) cc) (u2 := .string ⟨#[]⟩) hd8
      have hb9 := bB_box3 (bB_box4 hB4.out (q := w.heap.size + 1 + 1) (by omega) (.slice av bs.length cv) (.slice au es.length cu) (.int .i64 r) (.int .i64 t)) (q := w.heap.size + 1 + 1 + 1) (by omega) (.int .i64 1) (.slice ca (gy.length - 1) cc) (.string ⟨#[]⟩)
      have hk9 := KT.box3 (KT.box4 hK4.out (q := w.heap.size + 1 + 1) (by omega) (.slice av bs.length cv) (.slice au es.length cu) (.int .i64 r) (.int .i64 t)) (q := w.heap.size + 1 + 1 + 1) (by omega) (.int .i64 1) (.slice ca (gy.length - 1) cc) (.string ⟨#[]⟩)
      unfold World.box4 World.box3 at hk9
      have rl9 := (rb4.out.box4 EBlob.writes ⟨_, _, _, _, _, _, _, _, hp4.out⟩ av bs.length cv au es.length cu r t).box3 EBlob.writesC ⟨_, _, _, _, _, hd8⟩ 1 ca (gy.length - 1) cc ⟨#[]⟩
      have re9 := (re4.out.box4 EEntry.writes ⟨_, _, _, _, _, _, _, _, hp4.out⟩ av bs.length cv au es.length cu r t).box3 EEntry.writesC ⟨_, _, _, _, _, hd8⟩ 1 ca (gy.length - 1) cc ⟨#[]⟩
      have os9 := (OS.boxS3 (u0 := .int .i64 1) (u1 := .slice ca (gy.length - 1) cc) (u2 := .string ⟨#[]⟩) (OS.boxS4 (u0 := .slice av bs.length cv) (u1 := .slice au es.length cu) (u2 := .int .i64 r) (u3 := .int .i64 t) oc4.out hp4.out (by decide)) hd8 (by decide))
      have rt9 := reads_str os9 hcl4 hcs.out
      unfold World.box4 World.box3 at rl9 re9 rt9 os9
      obtain ⟨m0, m1, m2, m3⟩ := box4f hp9
      obtain ⟨n0, n1, n2, -⟩ := box3f hd9
      unfold World.box4 World.box3 at m0 m1 m2 m3 n0 n1 n2 hb9
      (try simp only [Exit.inBlock, Exit.then])
      refine bodyPost_ret (by simp [results, Tryz.results200, go_sem, m0, m1, m2, m3, n0, n1, n2]; try rfl) rfl ?_
      exact stp_ok hso.out rl9 re9 rt9 (OS.mono os9 (by omega)) hb9 hk9
end Go.Proofs.YtpcnhldlfmdlhaaGreat
