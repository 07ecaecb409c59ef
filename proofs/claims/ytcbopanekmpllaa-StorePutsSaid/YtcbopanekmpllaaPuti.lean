/-
  index.Put: what it answers. Printed by gen_puti.py.
-/
import Derived.Test.YtcbopanekmpllaaPutL
import Derived.Test.YtcbopanekmpllaaBinE
import Derived.Test.YtcbopanekmpllaaSt
namespace Go.Proofs.Ytcbopanekmpllaa
open Go.RowKit

set_option maxRecDepth 100000 in
set_option maxHeartbeats 1000000 in
theorem index_Put' (v dv : Value) (l : List Entry) (x : Entry) (w : World) (h : RE w v l) (g : RP w dv x.parts) (hx : FitEntry x) (z z2 : Int)
    (hch : ∀ w, RE w v l → Calls Try.prog 70 #[v] w fun e w' => e = .returned (.int .i64 z) ∧ Below w.heap.size w w')
    (hch2 : ∀ v w, RE w v (putL x l) → Calls Try.prog 70 #[v] w fun e w' => e = .returned (.int .i64 z2) ∧ Below w.heap.size w w')
    (hris : z = 0 → Rising (fun x : Entry => x.key) l ∧ l.length ≤ 10) :
    Calls Try.prog 18 #[v, .agg #[.string x.key, dv, .int .i64 x.pins, .int .i64 x.stamp]] w (EnRes (putErr z z2) (putL x l) w) := by
  replace hch := hid hch
  replace hch2 := hid hch2
  have hR := hid h
  have hP := hid g
  have hfit := hid (fit_E h)
  obtain ⟨a, c, rfl, hlc, hcm, hre, hno, hat⟩ := h
  obtain ⟨da, dc, rfl, -⟩ := g
  unfold maxLen at hcm
  replace hat := hid hat
  clear hno
  by_cases hz : z = 0
  · subst hz
    have hd := hid (putErr_rest z2)
    obtain ⟨hri, h10⟩ := hris rfl
    have hbin := hid (fun w (g : RE w (.slice a l.length c) l) => bin_E (.slice a l.length c) l x.key w g hri)
    have hhas := hid (fun y h (hy : l[lowAt (fun x : Entry => x.key) x.key l]? = some y) => putL_has (x := x) h hy)
    have hnot := hid (fun h => putL_no (x := x) (l := l) h)
    have hsome := hid (fun h : hasKey (fun x : Entry => x.key) x.key l = true => hasKey_at h)
    have hle := lowAt_le (fun x : Entry => x.key) x.key l
    generalize putErr 0 z2 = err at *
    generalize putL x l = L at *
    generalize lowAt (fun x : Entry => x.key) x.key l = i at *
    generalize hasKey (fun x : Entry => x.key) x.key l = fin at *
    clear hris hri
    replace hx := hid hx
    cases fin with
    | true =>
      obtain ⟨y, hy, -⟩ := hsome.out rfl
      have hL := hid (hhas.out y rfl hy)
      obtain ⟨bb, off, rfl, hbb, he⟩ := hat.out _ _ hy
      have hyf := hid (hfit.out y (List.mem_of_getElem? hy))
      have hil := (List.getElem?_eq_some_iff.1 hy).1
      have hi0 : (0 : Int) ≤ (i : Int) := by omega
      have hi1 : (i : Int) < (l.length : Int) := by omega
      replace he := hid he
      replace hy := hid hy
      clear hsome hhas hnot hat
      go_enter Try.func18, Try.ntmps18
      go_wp2_with fail
      ((with_reducible refine (hch.out _ (hR.out.mono EEntry.stable (b_alloc (Below.refl w.heap.size w) (Obj.cells #[.string x.key, .slice da x.parts.length dc, .int .i64 x.pins, .int .i64 x.stamp] 31)))).mono ?_); rintro e1 w1 ⟨rfl, b1⟩)
      have hq_q_1 := hid (stays b1 (heap_alloc_new w (Obj.cells #[.string x.key, .slice da x.parts.length dc, .int .i64 x.pins, .int .i64 x.stamp] 31)))
      have hb1 := hid (b_call (b_alloc (Below.refl w.heap.size w) (Obj.cells #[.string x.key, .slice da x.parts.length dc, .int .i64 x.pins, .int .i64 x.stamp] 31)) b1)
      have r_R_1 := hid (hR.out.mono EEntry.stable (b_call (b_alloc (Below.refl w.heap.size w) (Obj.cells #[.string x.key, .slice da x.parts.length dc, .int .i64 x.pins, .int .i64 x.stamp] 31)) b1))
      have r_P_1 := hid (hP.out.mono EPart.stable (b_call (b_alloc (Below.refl w.heap.size w) (Obj.cells #[.string x.key, .slice da x.parts.length dc, .int .i64 x.pins, .int .i64 x.stamp] 31)) b1))
      clear b1
      obtain ⟨x_q_0, x_q_1, x_q_2, x_q_3⟩ := box4f hq_q_1.out
      go_wp2_with fail
      ((with_reducible refine (hbin.out _ r_R_1.out).mono ?_); rintro e2 w2 ⟨rfl, b2⟩)
      clear x_q_0 x_q_1 x_q_2 x_q_3
      have hq_q_2 := hid (stays b2 hq_q_1.out)
      have hb2 := hid (b_call hb1.out b2)
      have r_R_2 := hid (r_R_1.out.mono EEntry.stable (b_call (Below.refl w1.heap.size w1) b2))
      have r_P_2 := hid (r_P_1.out.mono EPart.stable (b_call (Below.refl w1.heap.size w1) b2))
      clear hq_q_1 hb1 r_R_1 r_P_1 b2
      go_wp2_with fail
      have hs2 := hb2.out.size
      ((with_reducible refine (index_Copy _ l _ r_R_2.out).mono ?_); rintro e3 w3 ⟨rfl, o3, b3⟩)
      have hq_q_3 := hid (stays b3 hq_q_2.out)
      have hb3 := hid (b_call hb2.out b3)
      have r_R_3 := hid (r_R_2.out.mono EEntry.stable (b_call (Below.refl w2.heap.size w2) b3))
      have r_P_3 := hid (r_P_2.out.mono EPart.stable (b_call (Below.refl w2.heap.size w2) b3))
      have h23 := b3.size
      have hq2l := heap_lt hq_q_2.out
      replace o3 := hid o3
      clear hq_q_2 hb2 r_R_2 r_P_2 b3
      obtain ⟨x_q_0, x_q_1, x_q_2, x_q_3⟩ := box4f hq_q_3.out
      go_wp2_with fail
      ((with_reducible refine (slices_Clone_part _ x.parts _ r_P_3.out).mono ?_); rintro e4 w4 ⟨v4, rfl, o4, b4⟩)
      clear x_q_0 x_q_1 x_q_2 x_q_3
      have hq_q_4 := hid (stays b4 hq_q_3.out)
      have hb4 := hid (b_call hb3.out b4)
      have r_R_4 := hid (r_R_3.out.mono EEntry.stable (b_call (Below.refl w3.heap.size w3) b4))
      have r_P_4 := hid (r_P_3.out.mono EPart.stable (b_call (Below.refl w3.heap.size w3) b4))
      have o34 := hid (OEntry.after o3.out b4)
      have h34 := b4.size
      have hcr := hid (show CO 102 3 cPart w2.heap.size w4 _ _ from OS.mono o4 h23)
      clear o3
      clear hq_q_3 hb3 r_R_3 r_P_3 b4
      have hq4l := heap_lt hq_q_4.out
      obtain ⟨dvy, c0, c1, c2, c3, -, -⟩ := EEntry.stable _ _ _ _ _ hb4.out hbb he.out
      obtain ⟨ca, cc, rfl, -⟩ := id (OS.len_le o4)
      obtain ⟨x0, x1, x2, x3⟩ := box4f hq_q_4.out
      have g0 := frozen_heap hq_q_4.out 0
      have g1 := frozen_heap hq_q_4.out 1
      have g2 := frozen_heap hq_q_4.out 2
      have g3 := frozen_heap hq_q_4.out 3
      obtain ⟨_, _, hv0, -, hgl, ⟨u0, hu0⟩, hf0⟩ := OX.spot o34.out (i := i) (o := 0) hil (by decide)
      obtain ⟨_, _, hv1, -, -, ⟨u1, hu1⟩, hf1⟩ := OX.spot o34.out (i := i) (o := 1) hil (by decide)
      obtain ⟨_, _, hv2, -, -, ⟨u2, hu2⟩, hf2⟩ := OX.spot o34.out (i := i) (o := 2) hil (by decide)
      obtain ⟨_, _, hv3, -, -, ⟨u3, hu3⟩, hf3⟩ := OX.spot o34.out (i := i) (o := 3) hil (by decide)
      simp only [Value.slice.injEq, Option.some.injEq, Addr.mk.injEq, and_true] at hv0 hv1 hv2 hv3
      obtain ⟨rfl, -, -⟩ := hv0
      obtain ⟨rfl, -, -⟩ := hv1
      obtain ⟨rfl, -, -⟩ := hv2
      obtain ⟨rfl, -, -⟩ := hv3
      rw [Nat.add_zero] at hu0 hf0
      have hbq : bb ≠ w.heap.size := by omega
      have hgq : w2.heap.size ≠ w.heap.size := by omega
      clear o4
      go_wp2_with fail
      have oW := OEntry.put (x := { x with pins := y.pins }) ((o34.out.set (q := w.heap.size) (o := 1) (u := .slice ca x.parts.length cc) hq2l).set (q := w.heap.size) (o := 2) (u := .int .i64 y.pins) hq2l) hy.out (OS.setOld (OS.setOld hcr.out hq2l) hq2l)
      have hb5 := b_set (b_set (b_set (b_set (b_set (b_set hb4.out (p := ⟨w.heap.size, 1, none⟩) (Nat.le_refl _) (.slice ca x.parts.length cc)) (p := ⟨w.heap.size, 2, none⟩) (Nat.le_refl _) (.int .i64 y.pins)) (p := ⟨w2.heap.size, i * 4, none⟩) hs2 (.string x.key)) (p := ⟨w2.heap.size, i * 4 + 1, none⟩) hs2 (.slice ca x.parts.length cc)) (p := ⟨w2.heap.size, i * 4 + 2, none⟩) hs2 (.int .i64 y.pins)) (p := ⟨w2.heap.size, i * 4 + 3, none⟩) hs2 (.int .i64 x.stamp)
      replace oW := hid oW
      replace hb5 := hid hb5
      generalize (((((w4.setCell ⟨w.heap.size, 1, none⟩ (.slice ca x.parts.length cc)).setCell ⟨w.heap.size, 2, none⟩ (.int .i64 y.pins)).setCell ⟨w2.heap.size, i * 4, none⟩ (.string x.key)).setCell ⟨w2.heap.size, i * 4 + 1, none⟩ (.slice ca x.parts.length cc)).setCell ⟨w2.heap.size, i * 4 + 2, none⟩ (.int .i64 y.pins)).setCell ⟨w2.heap.size, i * 4 + 3, none⟩ (.int .i64 x.stamp) = w5 at *
      have rd := hid (show RE w5 _ L by rw [hL.out]; exact oW.out.toR (by rw [List.length_set]; exact hre) (set_all hfit.out (FitEntry.pins hx.out hyf.out.1.2.1)))
      clear oW o34 hcr hq_q_4 x0 x1 x2 x3 g0 g1 g2 g3 c0 c1 c2 c3 hu0 hu1 hu2 hu3 hf0 hf1 hf2 hf3
      ((with_reducible refine (hch2.out _ _ rd.out).mono ?_); rintro e w6 ⟨rfl, b6⟩)
      have r6 := hid (rd.out.mono EEntry.stable b6)
      have hb6 := hid (b_call hb5.out b6)
      clear b6
      by_cases hz2 : z2 = 0
      · subst hz2
        go_wp2_with fail
        go_ret2
        exact en_ok hd.out r6.out hb6.out
      · have ht : (z2 != 0) = true := by simp [hz2]
        replace hz2 := hid hz2
        go_wp2_with fail
        go_ret2
        exact en_no hd.out hz2.out hb6.out
    | false =>
      have hL := hid (hnot.out rfl)
      clear hsome hhas hnot hat
      go_enter Try.func18, Try.ntmps18
      go_wp2_with fail
      ((with_reducible refine (hch.out _ (hR.out.mono EEntry.stable (b_alloc (Below.refl w.heap.size w) (Obj.cells #[.string x.key, .slice da x.parts.length dc, .int .i64 x.pins, .int .i64 x.stamp] 31)))).mono ?_); rintro e1 w1 ⟨rfl, b1⟩)
      have hq_q_1 := hid (stays b1 (heap_alloc_new w (Obj.cells #[.string x.key, .slice da x.parts.length dc, .int .i64 x.pins, .int .i64 x.stamp] 31)))
      have hb1 := hid (b_call (b_alloc (Below.refl w.heap.size w) (Obj.cells #[.string x.key, .slice da x.parts.length dc, .int .i64 x.pins, .int .i64 x.stamp] 31)) b1)
      have r_R_1 := hid (hR.out.mono EEntry.stable (b_call (b_alloc (Below.refl w.heap.size w) (Obj.cells #[.string x.key, .slice da x.parts.length dc, .int .i64 x.pins, .int .i64 x.stamp] 31)) b1))
      have r_P_1 := hid (hP.out.mono EPart.stable (b_call (b_alloc (Below.refl w.heap.size w) (Obj.cells #[.string x.key, .slice da x.parts.length dc, .int .i64 x.pins, .int .i64 x.stamp] 31)) b1))
      clear b1
      obtain ⟨x_q_0, x_q_1, x_q_2, x_q_3⟩ := box4f hq_q_1.out
      go_wp2_with fail
      ((with_reducible refine (hbin.out _ r_R_1.out).mono ?_); rintro e2 w2 ⟨rfl, b2⟩)
      clear x_q_0 x_q_1 x_q_2 x_q_3
      have hq_q_2 := hid (stays b2 hq_q_1.out)
      have hb2 := hid (b_call hb1.out b2)
      have r_R_2 := hid (r_R_1.out.mono EEntry.stable (b_call (Below.refl w1.heap.size w1) b2))
      have r_P_2 := hid (r_P_1.out.mono EPart.stable (b_call (Below.refl w1.heap.size w1) b2))
      clear hq_q_1 hb1 r_R_1 r_P_1 b2
      go_wp2_with fail
      have hs2 := hb2.out.size
      ((with_reducible refine (index_Copy _ l _ r_R_2.out).mono ?_); rintro e3 w3 ⟨rfl, o3, b3⟩)
      have hq_q_3 := hid (stays b3 hq_q_2.out)
      have hb3 := hid (b_call hb2.out b3)
      have r_R_3 := hid (r_R_2.out.mono EEntry.stable (b_call (Below.refl w2.heap.size w2) b3))
      have r_P_3 := hid (r_P_2.out.mono EPart.stable (b_call (Below.refl w2.heap.size w2) b3))
      have h23 := b3.size
      have hq2l := heap_lt hq_q_2.out
      replace o3 := hid o3
      clear hq_q_2 hb2 r_R_2 r_P_2 b3
      obtain ⟨x_q_0, x_q_1, x_q_2, x_q_3⟩ := box4f hq_q_3.out
      go_wp2_with fail
      ((with_reducible refine (slices_Clone_part _ x.parts _ r_P_3.out).mono ?_); rintro e4 w4 ⟨v4, rfl, o4, b4⟩)
      clear x_q_0 x_q_1 x_q_2 x_q_3
      have hq_q_4 := hid (stays b4 hq_q_3.out)
      have hb4 := hid (b_call hb3.out b4)
      have r_R_4 := hid (r_R_3.out.mono EEntry.stable (b_call (Below.refl w3.heap.size w3) b4))
      have r_P_4 := hid (r_P_3.out.mono EPart.stable (b_call (Below.refl w3.heap.size w3) b4))
      have o34 := hid (OEntry.after o3.out b4)
      have h34 := b4.size
      have hcr := hid (show CO 102 3 cPart w2.heap.size w4 _ _ from OS.mono o4 h23)
      clear o3
      clear hq_q_3 hb3 r_R_3 r_P_3 b4
      obtain ⟨ca, cc, rfl, -⟩ := id (OS.len_le o4)
      obtain ⟨x0, x1, x2, x3⟩ := box4f hq_q_4.out
      have g0 := frozen_heap hq_q_4.out 0
      have g1 := frozen_heap hq_q_4.out 1
      have g2 := frozen_heap hq_q_4.out 2
      have g3 := frozen_heap hq_q_4.out 3
      clear o4
      go_wp2_with fail
      have hs4 := hb4.out.size
      have o5 := hid (OEntry.alloc (o34.out.set (q := w.heap.size) (o := 1) (u := .slice ca x.parts.length cc) hq2l) (Obj.cells #[.string x.key, .slice ca x.parts.length cc, .int .i64 x.pins, .int .i64 x.stamp] 31))
      have hcr5 := hid (OS.alloc (OS.setOld (q := w.heap.size) (o := 1) (u := .slice ca x.parts.length cc) hcr.out hq2l) (Obj.cells #[.string x.key, .slice ca x.parts.length cc, .int .i64 x.pins, .int .i64 x.stamp] 31))
      have hrow := hid (row_one (s := 4) (bs := 56) (cells := xc cEntry (·.parts)) (w4.setCell ⟨w.heap.size, 1, none⟩ (.slice ca x.parts.length cc)) 31 ⟨x, ca, cc⟩ #[.string x.key, .slice ca x.parts.length cc, .int .i64 x.pins, .int .i64 x.stamp] w4.heap.size (by simp [World.setCell]) rfl (by decide))
      have hb5 := hid (b_alloc (b_set hb4.out (p := ⟨w.heap.size, 1, none⟩) (Nat.le_refl _) (.slice ca x.parts.length cc)) (Obj.cells #[.string x.key, .slice ca x.parts.length cc, .int .i64 x.pins, .int .i64 x.stamp] 31))
      have hs5 : w2.heap.size ≤ ((w4.setCell ⟨w.heap.size, 1, none⟩ (.slice ca x.parts.length cc)).alloc (Obj.cells #[.string x.key, .slice ca x.parts.length cc, .int .i64 x.pins, .int .i64 x.stamp] 31)).heap.size := by simp [World.setCell]; omega
      generalize (w4.setCell ⟨w.heap.size, 1, none⟩ (.slice ca x.parts.length cc)).alloc (Obj.cells #[.string x.key, .slice ca x.parts.length cc, .int .i64 x.pins, .int .i64 x.stamp] 31) = w5 at *
      have hcr6 : Hid (CO 102 3 cPart w2.heap.size w5 (.slice ca x.parts.length cc) x.parts) := hcr5
      clear hcr5
      ((with_reducible refine (slices_Insert_E l i w2.heap.size w2.heap.size x ca cc w4.heap.size w5 o5.out hle hs5 (by omega) hrow.out hcr6.out).mono ?_); rintro e w6 ⟨v6, rfl, o6, b6⟩)
      have hs6 := b6.size
      have hb6 := hid (hb5.out.trans (b6.mono hs2))
      replace o6 := hid o6
      clear b6 hrow hcr6 o5 x0 x1 x2 x3 g0 g1 g2 g3 hq_q_4 o34 hcr hb4
      go_wp2_with fail
      ((with_reducible refine (slices_Clone_E v6 _ w2.heap.size w6 o6.out (by omega) (by rw [ins_len hle]; omega)).mono ?_); rintro e w7 ⟨v7, rfl, o7, b7⟩)
      have hb7 := hid (hb6.out.trans (b7.mono hs2))
      have rd := hid (show RE w7 v7 L by rw [hL.out]; exact o7.toR (by rw [ins_len hle]; omega) (ins_all hfit.out hx.out))
      clear b7 o7 o6 hb5 hb6
      go_wp2_with fail
      ((with_reducible refine (hch2.out _ _ rd.out).mono ?_); rintro e w8 ⟨rfl, b8⟩)
      have r8 := hid (rd.out.mono EEntry.stable b8)
      have hb8 := hid (b_call hb7.out b8)
      clear b8
      by_cases hz2 : z2 = 0
      · subst hz2
        go_wp2_with fail
        go_ret2
        exact en_ok hd.out r8.out hb8.out
      · have ht : (z2 != 0) = true := by simp [hz2]
        replace hz2 := hid hz2
        go_wp2_with fail
        go_ret2
        exact en_no hd.out hz2.out hb8.out
  · have ht : (z != 0) = true := by simp [hz]
    have hd := hid (putErr_bad (z2 := z2) hz)
    replace hz := hid hz
    clear hat hris
    go_enter Try.func18, Try.ntmps18
    go_wp2_with fail
    ((with_reducible refine (hch.out _ (hR.out.mono EEntry.stable (b_alloc (Below.refl w.heap.size w) (Obj.cells #[.string x.key, .slice da x.parts.length dc, .int .i64 x.pins, .int .i64 x.stamp] 31)))).mono ?_); rintro e1 w1 ⟨rfl, b1⟩)
    have hq_q_1 := hid (stays b1 (heap_alloc_new w (Obj.cells #[.string x.key, .slice da x.parts.length dc, .int .i64 x.pins, .int .i64 x.stamp] 31)))
    have hb1 := hid (b_call (b_alloc (Below.refl w.heap.size w) (Obj.cells #[.string x.key, .slice da x.parts.length dc, .int .i64 x.pins, .int .i64 x.stamp] 31)) b1)
    have r_R_1 := hid (hR.out.mono EEntry.stable (b_call (b_alloc (Below.refl w.heap.size w) (Obj.cells #[.string x.key, .slice da x.parts.length dc, .int .i64 x.pins, .int .i64 x.stamp] 31)) b1))
    have r_P_1 := hid (hP.out.mono EPart.stable (b_call (b_alloc (Below.refl w.heap.size w) (Obj.cells #[.string x.key, .slice da x.parts.length dc, .int .i64 x.pins, .int .i64 x.stamp] 31)) b1))
    clear b1
    go_wp2_with fail
    go_ret2
    exact en_no hd.out hz.out hb1.out
end Go.Proofs.Ytcbopanekmpllaa
