/-
  appleloftref.StoreGet: what it answers. Printed by gen_gt.py.
-/
import Derived.Test.YtcbopanekmpllaaGtL
import Derived.OwnWalk
import Derived.Deep.RegionHeld3
import Derived.StillTactics
namespace Go.Proofs.Ytcbopanekmpllaa
open Go.RowKit

set_option maxRecDepth 100000 in
set_option maxHeartbeats 2000000 in
theorem ref_StoreGet' (v u : Value) (bs : List Blob) (es : List Entry) (r t : Int) (s : ByteArray) (w : World) (h : RBl w v bs) (g : RE w u es) (z : Int)
    (hch : ∀ w, RBl w v bs → RE w u es → Calls Try.prog 115 #[.agg #[v, u, .int .i64 r, .int .i64 t]] w fun e w' => e = .returned (.int .i64 z) ∧ Below w.heap.size w w')
    (hc : z = 0 → 0 ≤ t ∧ t ≤ 1099511627776) :
    Calls Try.prog 28 #[.agg #[v, u, .int .i64 r, .int .i64 t], .string s] w (GtRes (gtE z s t es) ⟨bs, gtL s t es, r, t + 1⟩ (gtP s es) w) := by
  replace hch := hid hch
  have hR := hid h
  have hE := hid g
  have hf1 := hid (fit_B h)
  have hf2 := hid (fit_E g)
  obtain ⟨a, c, rfl, -, -, hre, -⟩ := h
  obtain ⟨a2, c2, rfl, hlc2, hcm2, hre2, -, hat2⟩ := g
  unfold maxLen at hcm2
  by_cases hz : z = 0
  · subst hz
    obtain ⟨hc0, hc1⟩ := hc rfl
    clear hc
    have hle := atKey_le (fun x : Entry => x.key) s es
    have hl1 := hid (fun x (hx : es[atKey (fun x : Entry => x.key) s es]? = some x) => gtL_some (t := t) hx)
    have hl2 := hid (fun x (hx : es[atKey (fun x : Entry => x.key) s es]? = some x) => gtP_some hx)
    have hd1 := hid (fun x (hx : es[atKey (fun x : Entry => x.key) s es]? = some x) => gtE_some (t := t) hx)
    have hd2 := hid (fun (hx : atKey (fun x : Entry => x.key) s es = es.length) => gtE_none (t := t) hx)
    have hAt := hid (fun w g => ref_EntryAt (.slice a2 es.length c2) es s w g)
    generalize atKey (fun x : Entry => x.key) s es = i at *
    generalize gtE 0 s t es = err at *
    generalize gtL s t es = lh at *
    generalize gtP s es = ph at *
    by_cases hi : i = es.length
    · have hd := hid (hd2.out hi)
      have q1 : ((i : Int) == (es.length : Int)) = true := by simp [hi]
      clear hat2
      go_enter Try.func28, Try.ntmps28
      go_wp2_with fail
      ((with_reducible refine (hch.out _ (hR.out.mono EBlob.stable (b_alloc (b_alloc (Below.refl _ _) _) _)) (hE.out.mono EEntry.stable (b_alloc (b_alloc (Below.refl _ _) _) _))).mono ?_); rintro e w1 ⟨rfl, b1⟩)
      have hq1 := hid (stays b1 (heap_alloc2_old w (Obj.cells #[.slice a bs.length c, .slice a2 es.length c2, .int .i64 r, .int .i64 t] 49) (Obj.cells #[.slice none 0 0, .slice none 0 0, .int .i64 0, .int .i64 0] 49)))
      have hp1 := hid (stays b1 (heap_alloc2_new w (Obj.cells #[.slice a bs.length c, .slice a2 es.length c2, .int .i64 r, .int .i64 t] 49) (Obj.cells #[.slice none 0 0, .slice none 0 0, .int .i64 0, .int .i64 0] 49)))
      have hb1 := hid (b_call (b_alloc (b_alloc (Below.refl w.heap.size w) (Obj.cells #[.slice a bs.length c, .slice a2 es.length c2, .int .i64 r, .int .i64 t] 49)) (Obj.cells #[.slice none 0 0, .slice none 0 0, .int .i64 0, .int .i64 0] 49)) b1)
      clear b1
      obtain ⟨x0, x1, x2, x3⟩ := box4f hq1.out
      obtain ⟨y0, y1, y2, y3⟩ := box4f hp1.out
      have g0 := frozen_heap hp1.out 0
      have g1 := frozen_heap hp1.out 1
      have g2 := frozen_heap hp1.out 2
      have g3 := frozen_heap hp1.out 3
      go_wp2_with fail
      ((with_reducible refine (hAt.out w1 (hE.out.mono EEntry.stable hb1.out)).mono ?_); rintro e w2 ⟨rfl, hw2⟩)
      subst hw2
      have hq2 := hid hq1.out
      have hp2 := hid hp1.out
      have hb2 := hid hb1.out
      go_wp2_with fail
      have hp9 := box4_same (u0 := .slice none 0 0) (u1 := .slice none 0 0) (u2 := .int .i64 0) (u3 := .int .i64 0) hp2.out
      have hb9 := b_box4 hb2.out (q := w.heap.size + 1) (Nat.le_succ _) (.slice none 0 0) (.slice none 0 0) (.int .i64 0) (.int .i64 0)
      obtain ⟨m0, m1, m2, m3⟩ := box4f hp9
      unfold World.box4 at m0 m1 m2 m3 hb9
      (try simp only [Exit.inBlock, Exit.then])
      refine bodyPost_ret (by simp [results, Try.results28, go_sem, m0, m1, m2, m3]; try rfl) rfl ?_
      exact gt_no hd.out (by decide) hb9
    · have hx : es[i]? = some es[i] := List.getElem?_eq_getElem (by omega)
      generalize es[i] = x at hx
      obtain ⟨bb, off, rfl, hbb, he⟩ := hat2 _ _ hx
      have hd3 := hid (hd1.out x hx)
      have hl3 := hid (hl1.out x hx)
      have hl4 := hid (hl2.out x hx)
      have hxf := hid ((hf2.out) x (List.mem_of_getElem? hx))
      have hmw := hid (wf_small (n := t + 1) (by omega) (by omega))
      have q1 : ((i : Int) == (es.length : Int)) = false := by simp; omega
      have hilt : i < es.length := by omega
      have hi0 : (0 : Int) ≤ (i : Int) := by omega
      have hi1 : (i : Int) < (es.length : Int) := by omega
      replace hx := hid hx
      replace he := hid he
      clear hat2 hd1 hd2 hl1 hl2
      have g5 : IntKind.i64.wrap (t + 1) = t + 1 := IntWalk.i64_in _ (by omega)
      cases ht : (t == 1099511627776) with
      | true =>
        have hd := hid (hd3.out.trans (if_pos ht))
        go_enter Try.func28, Try.ntmps28
        go_wp2_with fail
        ((with_reducible refine (hch.out _ (hR.out.mono EBlob.stable (b_alloc (b_alloc (Below.refl _ _) _) _)) (hE.out.mono EEntry.stable (b_alloc (b_alloc (Below.refl _ _) _) _))).mono ?_); rintro e w1 ⟨rfl, b1⟩)
        have hq1 := hid (stays b1 (heap_alloc2_old w (Obj.cells #[.slice a bs.length c, .slice (some ⟨bb, off, none⟩) es.length c2, .int .i64 r, .int .i64 t] 49) (Obj.cells #[.slice none 0 0, .slice none 0 0, .int .i64 0, .int .i64 0] 49)))
        have hp1 := hid (stays b1 (heap_alloc2_new w (Obj.cells #[.slice a bs.length c, .slice (some ⟨bb, off, none⟩) es.length c2, .int .i64 r, .int .i64 t] 49) (Obj.cells #[.slice none 0 0, .slice none 0 0, .int .i64 0, .int .i64 0] 49)))
        have hb1 := hid (b_call (b_alloc (b_alloc (Below.refl w.heap.size w) (Obj.cells #[.slice a bs.length c, .slice (some ⟨bb, off, none⟩) es.length c2, .int .i64 r, .int .i64 t] 49)) (Obj.cells #[.slice none 0 0, .slice none 0 0, .int .i64 0, .int .i64 0] 49)) b1)
        clear b1
        obtain ⟨x0, x1, x2, x3⟩ := box4f hq1.out
        obtain ⟨y0, y1, y2, y3⟩ := box4f hp1.out
        have g0 := frozen_heap hp1.out 0
        have g1 := frozen_heap hp1.out 1
        have g2 := frozen_heap hp1.out 2
        have g3 := frozen_heap hp1.out 3
        go_wp2_with fail
        ((with_reducible refine (hAt.out w1 (hE.out.mono EEntry.stable hb1.out)).mono ?_); rintro e w2 ⟨rfl, hw2⟩)
        subst hw2
        have hq2 := hid hq1.out
        have hp2 := hid hp1.out
        have hb2 := hid hb1.out
        go_wp2_with fail
        have hp9 := box4_same (u0 := .slice none 0 0) (u1 := .slice none 0 0) (u2 := .int .i64 0) (u3 := .int .i64 0) hp2.out
        have hb9 := b_box4 hb2.out (q := w.heap.size + 1) (Nat.le_succ _) (.slice none 0 0) (.slice none 0 0) (.int .i64 0) (.int .i64 0)
        obtain ⟨m0, m1, m2, m3⟩ := box4f hp9
        unfold World.box4 at m0 m1 m2 m3 hb9
        (try simp only [Exit.inBlock, Exit.then])
        refine bodyPost_ret (by simp [results, Try.results28, go_sem, m0, m1, m2, m3]; try rfl) rfl ?_
        exact gt_no hd.out (by decide) hb9
      | false =>
        have hd := hid (hd3.out.trans (if_neg (by rw [ht]; decide)))
        go_enter Try.func28, Try.ntmps28
        go_wp2_with fail
        ((with_reducible refine (hch.out _ (hR.out.mono EBlob.stable (b_alloc (b_alloc (Below.refl _ _) _) _)) (hE.out.mono EEntry.stable (b_alloc (b_alloc (Below.refl _ _) _) _))).mono ?_); rintro e w1 ⟨rfl, b1⟩)
        have hq1 := hid (stays b1 (heap_alloc2_old w (Obj.cells #[.slice a bs.length c, .slice (some ⟨bb, off, none⟩) es.length c2, .int .i64 r, .int .i64 t] 49) (Obj.cells #[.slice none 0 0, .slice none 0 0, .int .i64 0, .int .i64 0] 49)))
        have hp1 := hid (stays b1 (heap_alloc2_new w (Obj.cells #[.slice a bs.length c, .slice (some ⟨bb, off, none⟩) es.length c2, .int .i64 r, .int .i64 t] 49) (Obj.cells #[.slice none 0 0, .slice none 0 0, .int .i64 0, .int .i64 0] 49)))
        have hb1 := hid (b_call (b_alloc (b_alloc (Below.refl w.heap.size w) (Obj.cells #[.slice a bs.length c, .slice (some ⟨bb, off, none⟩) es.length c2, .int .i64 r, .int .i64 t] 49)) (Obj.cells #[.slice none 0 0, .slice none 0 0, .int .i64 0, .int .i64 0] 49)) b1)
        clear b1
        obtain ⟨x0, x1, x2, x3⟩ := box4f hq1.out
        obtain ⟨y0, y1, y2, y3⟩ := box4f hp1.out
        have g0 := frozen_heap hp1.out 0
        have g1 := frozen_heap hp1.out 1
        have g2 := frozen_heap hp1.out 2
        have g3 := frozen_heap hp1.out 3
        go_wp2_with fail
        ((with_reducible refine (hAt.out w1 (hE.out.mono EEntry.stable hb1.out)).mono ?_); rintro e w2 ⟨rfl, hw2⟩)
        subst hw2
        have hq2 := hid hq1.out
        have hp2 := hid hp1.out
        have hb2 := hid hb1.out
        go_wp2_with fail
        ((with_reducible refine (ref_StoreCopyO _ _ bs es r t w1 (hR.out.mono EBlob.stable hb2.out) (hE.out.mono EEntry.stable hb2.out)).mono ?_); rintro e w3 ⟨v1, v2, rfl, o1, o2, b3⟩)
        have hs1 := hb2.out.size
        have hs3 := b3.size
        have hp3 := hid (stays b3 hp2.out)
        have hq3 := hid (stays b3 hq2.out)
        have hb3 := hid (b_call hb2.out b3)
        have hpl := heap_lt hp2.out
        have hp4 := heap_lt hp3.out
        have hq4 := heap_lt hq3.out
        obtain ⟨gg, cap, rfl, hgB, hgl, ⟨uu, hcu⟩, hfr⟩ := OX.spot o2 (i := i) (o := 3) hilt (by decide)
        obtain ⟨a3, c3, rfl⟩ := OX.lenOf o1
        replace o1 := hid o1
        replace o2 := hid o2
        clear x0 x1 x2 x3 y0 y1 y2 y3 g0 g1 g2 g3 b3
        obtain ⟨x0, x1, x2, x3⟩ := box4f hq3.out
        obtain ⟨y0, y1, y2, y3⟩ := box4f hp3.out
        have g0 := frozen_heap hp3.out 0
        have g1 := frozen_heap hp3.out 1
        have g2 := frozen_heap hp3.out 2
        have g3 := frozen_heap hp3.out 3
        have hgne : gg ≠ w.heap.size + 1 := by omega
        have hgnq : gg ≠ w.heap.size := by omega
        go_wp2_with fail
        have o1b := hid (OBlob.alloc (o1.out.beside o2.out (o := i * 4 + 3) (u := .int .i64 (t + 1))) (Obj.cells #[.slice a3 bs.length c3, .slice (some ⟨gg, 0, none⟩) es.length cap, .int .i64 r, .int .i64 (t + 1)] 49))
        have o2b := hid (OEntry.alloc (OEntry.stamp (t + 1) o2.out hx.out) (Obj.cells #[.slice a3 bs.length c3, .slice (some ⟨gg, 0, none⟩) es.length cap, .int .i64 r, .int .i64 (t + 1)] 49))
        have hpA := box_other (q := gg) (o := i * 4 + 3) (u := .int .i64 (t + 1)) hp3.out (Ne.symm hgne)
        have hqA := box_other (q := gg) (o := i * 4 + 3) (u := .int .i64 (t + 1)) hq3.out (Ne.symm hgnq)
        have hpb := hid ((heap_alloc_old _ (Obj.cells #[.slice a3 bs.length c3, .slice (some ⟨gg, 0, none⟩) es.length cap, .int .i64 r, .int .i64 (t + 1)] 49) (heap_lt hpA)).trans hpA)
        have hqb := hid ((heap_alloc_old _ (Obj.cells #[.slice a3 bs.length c3, .slice (some ⟨gg, 0, none⟩) es.length cap, .int .i64 r, .int .i64 (t + 1)] 49) (heap_lt hqA)).trans hqA)
        have hnb := hid (heap_put (w3.setCell ⟨gg, i * 4 + 3, none⟩ (.int .i64 (t + 1))) (Obj.cells #[.slice a3 bs.length c3, .slice (some ⟨gg, 0, none⟩) es.length cap, .int .i64 r, .int .i64 (t + 1)] 49) w3.heap.size (by simp [World.setCell]))
        have hbb3 := hid (b_alloc (b_set hb3.out (p := ⟨gg, i * 4 + 3, none⟩) (show w.heap.size ≤ gg by omega) (.int .i64 (t + 1))) (Obj.cells #[.slice a3 bs.length c3, .slice (some ⟨gg, 0, none⟩) es.length cap, .int .i64 r, .int .i64 (t + 1)] 49))
        generalize (w3.setCell ⟨gg, i * 4 + 3, none⟩ (.int .i64 (t + 1))).alloc (Obj.cells #[.slice a3 bs.length c3, .slice (some ⟨gg, 0, none⟩) es.length cap, .int .i64 r, .int .i64 (t + 1)] 49) = wb at *
        obtain ⟨dv, d0, hpart, d2, d3, rdv, -⟩ := EEntry.stable _ _ _ _ _ hbb3.out hbb he.out
        obtain ⟨xa, xc, rfl, -⟩ := id rdv
        have rpx := hid rdv
        have hnl := heap_lt hnb.out
        have hpl2 := heap_lt hpb.out
        have hql2 := heap_lt hqb.out
        have hbl : bb < wb.heap.size := Nat.lt_of_lt_of_le hbb hbb3.out.size
        have hbp : bb ≠ w.heap.size + 1 := by omega
        have hnp : w3.heap.size ≠ w.heap.size + 1 := by omega
        have hqp : w.heap.size ≠ w.heap.size + 1 := by omega
        clear x0 x1 x2 x3 y0 y1 y2 y3 g0 g1 g2 g3 hcu hfr hgl hq3 hp3 hb3 o1 o2 d0 d2 d3 rdv he
        have hS := box4f hnb.out
        have hQ := (box4f hqb.out).2.1
        have g0 := frozen_heap hpb.out 0
        have g1 := frozen_heap hpb.out 1
        have g2 := frozen_heap hpb.out 2
        have g3 := frozen_heap hpb.out 3
        obtain ⟨y0, y1, y2, y3⟩ := box4f hpb.out
        obtain ⟨s0, s1, s2, s3⟩ := hS
        go_region
        have rl4 := o1b.out.toR hre hf1.out
        have re4 := o2b.out.toR (by rw [List.length_set]; exact hre2) (set_all hf2.out (FitEntry.stamp hxf.out hmw.out))
        have hbox := (⟨_, _, _, _, _, _, _, _, hpb.out⟩ : ∃ a n c a' n' c' r t, wb.heap[w.heap.size + 1]? = some (.cells #[.slice a n c, .slice a' n' c', .int .i64 r, .int .i64 t] 49 (0, 0)))
        have rl9 := rl4.box4 EBlob.writes hbox a3 bs.length c3 (some ⟨gg, 0, none⟩) es.length cap r (t + 1)
        have re9 := re4.box4 EEntry.writes hbox a3 bs.length c3 (some ⟨gg, 0, none⟩) es.length cap r (t + 1)
        have rp9 := rpx.out.box4 EPart.writes hbox a3 bs.length c3 (some ⟨gg, 0, none⟩) es.length cap r (t + 1)
        unfold World.box4 at rl9 re9 rp9
        replace rl9 := hid rl9
        replace re9 := hid re9
        replace rp9 := hid rp9
        clear rl4 re4 hbox hQ
        go_wp2_with fail
        have hp9 := box4_same (u0 := .slice a3 bs.length c3) (u1 := .slice (some ⟨gg, 0, none⟩) es.length cap) (u2 := .int .i64 r) (u3 := .int .i64 (t + 1)) hpb.out
        have hb9 := b_box4 hbb3.out (q := w.heap.size + 1) (Nat.le_succ _) (.slice a3 bs.length c3) (.slice (some ⟨gg, 0, none⟩) es.length cap) (.int .i64 r) (.int .i64 (t + 1))
        obtain ⟨m0, m1, m2, m3⟩ := box4f hp9
        unfold World.box4 at m0 m1 m2 m3 hb9
        (try simp only [Exit.inBlock, Exit.then])
        refine bodyPost_ret (by simp [results, Try.results28, go_sem, m0, m1, m2, m3]; try rfl) rfl ?_
        exact gt_ok (bs := bs) (es := lh) (P := ph) hd.out rl9.out (by rw [hl3.out]; exact re9.out) (by rw [hl4.out]; exact rp9.out) hb9.drew
  · have ht : (z != 0) = true := by simp [hz]
    have hd := hid (gtE_bad (s := s) (t := t) (l := es) hz)
    replace hz := hid hz
    clear hat2 hc
    go_enter Try.func28, Try.ntmps28
    go_wp2_with fail
    ((with_reducible refine (hch.out _ (hR.out.mono EBlob.stable (b_alloc (b_alloc (Below.refl _ _) _) _)) (hE.out.mono EEntry.stable (b_alloc (b_alloc (Below.refl _ _) _) _))).mono ?_); rintro e w1 ⟨rfl, b1⟩)
    have hq1 := hid (stays b1 (heap_alloc2_old w (Obj.cells #[.slice a bs.length c, .slice a2 es.length c2, .int .i64 r, .int .i64 t] 49) (Obj.cells #[.slice none 0 0, .slice none 0 0, .int .i64 0, .int .i64 0] 49)))
    have hp1 := hid (stays b1 (heap_alloc2_new w (Obj.cells #[.slice a bs.length c, .slice a2 es.length c2, .int .i64 r, .int .i64 t] 49) (Obj.cells #[.slice none 0 0, .slice none 0 0, .int .i64 0, .int .i64 0] 49)))
    have hb1 := hid (b_call (b_alloc (b_alloc (Below.refl w.heap.size w) (Obj.cells #[.slice a bs.length c, .slice a2 es.length c2, .int .i64 r, .int .i64 t] 49)) (Obj.cells #[.slice none 0 0, .slice none 0 0, .int .i64 0, .int .i64 0] 49)) b1)
    clear b1
    obtain ⟨x0, x1, x2, x3⟩ := box4f hq1.out
    obtain ⟨y0, y1, y2, y3⟩ := box4f hp1.out
    have g0 := frozen_heap hp1.out 0
    have g1 := frozen_heap hp1.out 1
    have g2 := frozen_heap hp1.out 2
    have g3 := frozen_heap hp1.out 3
    go_wp2_with fail
    have hp9 := box4_same (u0 := .slice none 0 0) (u1 := .slice none 0 0) (u2 := .int .i64 0) (u3 := .int .i64 0) hp1.out
    have hb9 := b_box4 hb1.out (q := w.heap.size + 1) (Nat.le_succ _) (.slice none 0 0) (.slice none 0 0) (.int .i64 0) (.int .i64 0)
    obtain ⟨m0, m1, m2, m3⟩ := box4f hp9
    unfold World.box4 at m0 m1 m2 m3 hb9
    (try simp only [Exit.inBlock, Exit.then])
    refine bodyPost_ret (by simp [results, Try.results28, go_sem, m0, m1, m2, m3]; try rfl) rfl ?_
    exact gt_no hd.out hz.out hb9
end Go.Proofs.Ytcbopanekmpllaa
