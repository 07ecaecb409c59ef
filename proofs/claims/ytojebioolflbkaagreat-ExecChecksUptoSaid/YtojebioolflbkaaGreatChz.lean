/-
  collect.Check: what it answers. Printed by gen_chk.py. The reference's CollectFault: what it answers. Printed by gen_chr.py. The law CollectChecks: its walk. Printed by gen_chw.py.
-/
import Derived.Test.YtojebioolflbkaaGreatChx
import Derived.Test.YtojebioolflbkaaGreatWstW
namespace Go.Proofs.YtojebioolflbkaaGreat
open Go.RowKit Go.Maps

theorem all_inB {bs : List Blob} {es : List Entry} {w w' : World} {e : Ending} (h : FromPost bs (rootsL bs es) w e w') : ∀ d ∈ allOf bs es, InB bs d := fun d hd => ((h.comes.2 d).1 hd).inB
theorem filter_nn (bs : List Blob) (D : List ByteArray) : D.filter (fun x => !(!inBb bs x)) = D.filter (inBb bs) := by
  congr 1
  funext x
  rw [Bool.not_not]

set_option maxRecDepth 100000 in
set_option maxHeartbeats 8000000 in
theorem collect_Check' (v u gv : Value) (bs : List Blob) (es : List Entry) (r t ph : Int) (pl : ByteArray) (gy : List ByteArray) (w : World) (h : RBl w v bs) (g : RE w u es) (hg : RT w gv gy) (hpl : pl.size ≤ 140737488351232) (hgl : gy.length ≤ 8388608) (z : Int)
    (hch : ∀ w, RBl w v bs → RE w u es → Calls Tryz.prog 35 #[.agg #[v, u, .int .i64 r, .int .i64 t]] w fun e w' => e = .returned (.int .i64 z) ∧ Below w.heap.size w w')
    (hN : z = 0 → bulkN bs es ≤ 104) (hr : z = 0 → Rising (fun x : Blob => x.digest) bs) (hb24 : z = 0 → bs.length ≤ 24) :
    Calls Tryz.prog 24 #[.agg #[v, u, .int .i64 r, .int .i64 t], .agg #[.int .i64 ph, gv, .string pl]] w fun e w' => e = .returned (.int .i64 (collE z (shapeE ph gy pl) ph bs es gy)) ∧ Below w.heap.size w w' := by
  obtain ⟨i0, ii0, hz0, hz1, hz2⟩ := info_parts info_str
  replace hch := hid hch
  have hR := hid h
  have hE := hid g
  have hG := hid hg
  have hgs := hid (rt_sizes hg)
  have hds := hid (rootsL_size (fit_B h) (fit_E g))
  have hms := hid (marked_size (fit_B h))
  have hsh := hid (fun W (hg : RT W gv gy) => collect_shape ph gv gy pl W hg hpl)
  have hmk := hid (fun W (h : RBl W v bs) => collect_marked v bs W h)
  have e1 := hid (fun (h : z ≠ 0) => (coll_z h : collE z (shapeE ph gy pl) ph bs es gy = z))
  have e2 := hid (fun (h : z = 0) (h2 : shapeE ph gy pl ≠ 0) => (show collE z (shapeE ph gy pl) ph bs es gy = shapeE ph gy pl by rw [h]; exact coll_s h2))
  have e3 := hid (fun (h : z = 0) (h2 : shapeE ph gy pl = 0) (h3 : okMust bs gy (mustD ph bs es)) => (show collE z (shapeE ph gy pl) ph bs es gy = 0 by rw [h, h2]; exact coll_ok h3))
  have e4 := hid (fun (h : z = 0) (h2 : shapeE ph gy pl = 0) (h3 : ¬ okMust bs gy (mustD ph bs es)) => (show collE z (shapeE ph gy pl) ph bs es gy = 12 by rw [h, h2]; exact coll_bad h3))
  have hsz := hid (@shape_zero ph gy pl)
  generalize collE z (shapeE ph gy pl) ph bs es gy = ce at *
  generalize shapeE ph gy pl = s at *
  replace hr := hid hr
  replace hN := hid hN
  replace hb24 := hid hb24
  obtain ⟨a, c, rfl, hlc, hcm, hre, -, hat⟩ := h
  obtain ⟨a2, c2, rfl, -⟩ := g
  obtain ⟨ga, gc, rfl, -⟩ := hg
  unfold maxLen at hcm
  replace hat := hid hat
  obtain ⟨w1, hw1⟩ : ∃ w1 : World, w1 = (w.alloc (Obj.cells #[.slice a bs.length c, .slice a2 es.length c2, .int .i64 r, .int .i64 t] 25)).alloc (Obj.cells #[.int .i64 ph, .slice ga gy.length gc, .string pl] 28) := ⟨_, rfl⟩
  have hb1 := hid (show Below w.heap.size w w1 by rw [hw1]; exact b_alloc (b_alloc (Below.refl _ _) _) _)
  have hq1 := hid (show w1.heap[w.heap.size]? = some (.cells #[.slice a bs.length c, .slice a2 es.length c2, .int .i64 r, .int .i64 t] 25 (0, 0)) by
    rw [hw1]
    exact (heap_alloc_old _ _ (by simp)).trans (heap_alloc_new w _))
  have hk1 := hid (show w1.heap[w.heap.size + 1]? = some (.cells #[.int .i64 ph, .slice ga gy.length gc, .string pl] 28 (0, 0)) by
    rw [hw1]
    exact heap_put _ _ _ (by simp))
  obtain ⟨x0, x1, x2, x3⟩ := box4f hq1.out
  go_enter Tryz.func24, Tryz.ntmps24
  go_wp2_with fail
  rw [← hw1]
  clear hw1
  ((with_reducible refine (hch.out _ (hR.out.mono EBlob.stable hb1.out) (hE.out.mono EEntry.stable hb1.out)).mono ?_); rintro e w2 ⟨rfl, b2⟩)
  have hq2 := hid (stays b2 hq1.out)
  have hk2 := hid (stays b2 hk1.out)
  have hb2 := hid (b_call hb1.out b2)
  clear b2 hq1 hk1 hb1 x0 x1 x2 x3
  by_cases hz : z = 0
  · subst hz
    replace e2 := hid (e2.out rfl)
    replace e3 := hid (e3.out rfl)
    replace e4 := hid (e4.out rfl)
    replace hr := hid (hr.out rfl)
    replace hN := hid (hN.out rfl)
    replace hb24 := hb24.out rfl
    have hNN := hN.out
    obtain ⟨y0, y1, y2, -⟩ := box3f hk2.out
    clear e1 hch
    go_wp2_with fail
    ((with_reducible refine (hsh.out _ (hG.out.mono EStr.stable hb2.out)).mono ?_); rintro e w3 ⟨rfl, b3⟩)
    have hq3 := hid (stays b3 hq2.out)
    have hk3 := hid (stays b3 hk2.out)
    have hb3 := hid (b_call hb2.out b3)
    clear b3 hq2 hk2 hb2 y0 y1 y2 hsh
    by_cases hs : s = 0
    · subst hs
      obtain ⟨hph, hgc⟩ := hsz.out rfl
      replace e3 := hid (e3.out rfl)
      replace e4 := hid (e4.out rfl)
      replace hgc := hid hgc
      clear e2 hsz
      obtain ⟨x0, x1, x2, x3⟩ := box4f hq3.out
      go_wp2_with fail
      ((with_reducible refine (hmk.out _ (hR.out.mono EBlob.stable hb3.out)).mono ?_); rintro e w4 ⟨v4, rfl, r4, b4⟩)
      obtain ⟨ba, bc, rfl, -⟩ := id r4
      have hq4 := hid (stays b4 hq3.out)
      have hk4 := hid (stays b4 hk3.out)
      have hb4 := hid (b_call hb3.out b4)
      replace r4 := hid r4
      clear b4 hq3 hk3 hb3 x0 x1 x2 x3 hmk
      obtain ⟨x0, x1, x2, x3⟩ := box4f hq4.out
      obtain ⟨y0, y1, y2, -⟩ := box3f hk4.out
      rcases hph with rfl | rfl | rfl
      · have hd := hid (e3.out (fun d hd => by unfold mustD at hd; simp at hd))
        clear e3 e4
        go_wp2_with fail
        go_ret
        exact ⟨ret_i hd.out.symm, hb4.out⟩
      · have hst := hid (sub_there hr.out gy (rootsL bs es ++ deepD bs))
        have hmu : mustD 1 bs es = rootsL bs es ++ deepD bs := if_pos rfl
        rw [← hmu] at hst
        have hrt := hid (fun W (h : RBl W (.slice a bs.length c) bs) (g : RE W (.slice a2 es.length c2) es) => reach_Roots _ _ bs es r t W h g (by have := hN.out; omega))
        unfold RootsPost at hrt
        have hrl := rootsL_len bs es
        have hdl := deep_len bs
        have hml := marked_len bs
        rw [hmu] at hst
        have hDs : Hid (∀ x ∈ rootsL bs es ++ deepD bs, x.size ≤ 140737488351232) := hid (fun x hx => (List.mem_append.1 hx).elim (hds.out x) (deep_size bs x))
        have hfin1 := hid (fun (h : isSub ((rootsL bs es ++ deepD bs).filter (inBb bs)) (markedD bs ++ gy) = true) => e3.out (by rw [hmu]; exact hst.out.1 h))
        have hfin2 := hid (fun (h : isSub ((rootsL bs es ++ deepD bs).filter (inBb bs)) (markedD bs ++ gy) = false) => e4.out (fun h2 => by rw [hmu] at h2; rw [hst.out.2 h2] at h; cases h))
        clear e3 e4 hst hmu
        generalize rootsL bs es = RL at *
        go_wp2_with fail
        ((with_reducible refine (hrt.out _ (hR.out.mono EBlob.stable hb4.out) (hE.out.mono EEntry.stable hb4.out)).mono ?_); rintro e w5 ⟨v5, rfl, r5, -, b5⟩)
        go_wp2_with fail
        ((with_reducible refine (slices_Clone_str _ _ _ r5).mono ?_); rintro e w6 ⟨v6, rfl, o6, b6⟩)
        have b56 := b_call b5 b6
        have hq6 := hid (stays b56 hq4.out)
        have hk6 := hid (stays b56 hk4.out)
        have hb6 := hid (b_call hb4.out b56)
        have r6 := hid (r4.out.mono EStr.stable b56)
        have ho6 : Hid (OS 9 1 cStr w6 w5.heap.size v6 (RL ++ deepD (bs.take 0))) := hid (by rw [List.take_zero]; unfold deepD; simpa using o6)
        have hb56 := hid (show Below w5.heap.size w5 w6 from b6)
        have hqB : w.heap.size + 1 < w5.heap.size := Nat.lt_of_lt_of_le (heap_lt hk4.out) b5.size
        have hb5 := hid (b_call hb4.out b5)
        have hq5 := hid (stays b5 hq4.out)
        have hk5 := hid (stays b5 hk4.out)
        have r45 := hid (r4.out.mono EStr.stable b5)
        clear b5 b6 b56 o6 r5 x0 x1 x2 x3 y0 y1 y2 hq4 hk4 hb4 r4 hrt
        obtain ⟨x0, x1, x2, x3⟩ := box4f hq6.out
        go_wp2_with fail
        clear x0 x1 x2 x3
        go_loopw [8, 10, 35] (fun o _ i wr => ∃ k : Nat, k ≤ bs.length ∧ i = .int .i64 (k : Int) ∧ Hid (OS 9 1 cStr wr w5.heap.size o (RL ++ deepD (bs.take k))) ∧ Hid (Below w5.heap.size w5 wr)) (fun _ _ i _ => bs.length - (intOf i).toNat)
        case atStart => exact ⟨0, by omega, rfl, ho6, hb56⟩
        case round =>
          obtain ⟨k, hk, rfl, hown, hbr⟩ := hrel
          have hbk := hid (b_call hb5.out hbr.out)
          have hsB := hbr.out.size
          by_cases hlt2 : k < bs.length
          · have hn : bs[k]? = some bs[k] := List.getElem?_eq_getElem hlt2
            have hyes := hid (deep_yes (List.take_succ_eq_append_getElem hlt2))
            have hno := hid (deep_no (List.take_succ_eq_append_getElem hlt2))
            generalize bs[k] = x at *
            obtain ⟨bb, off, rfl, hbb, pv, k0, k1, k2, k3, rp, s0, -⟩ := hat.out k _ hn
            have c0 := cell_stays hbk.out hbb k0
            have c1 := cell_stays hbk.out hbb k1
            have c2' := cell_stays hbk.out hbb k2
            have c3 := cell_stays hbk.out hbb k3
            have hbw : bb < wr.heap.size := Nat.lt_of_lt_of_le hbb hbk.out.size
            have rpx := rp.mono EU8.stable hbk.out
            obtain ⟨xa, xc, rfl, -⟩ := rp
            have hhk := deep_len (bs.take k)
            rw [List.length_take] at hhk
            have hown1 := hid (OS.alloc hown.out (Obj.cells #[.string x.digest, .slice xa x.data.length xc, .int .i64 x.pins, .bool x.mark] 61))
            have hb1 := hid (hbr.out.alloc hsB (Obj.cells #[.string x.digest, .slice xa x.data.length xc, .int .i64 x.pins, .bool x.mark] 61))
            have rp1 := hid (rpx.mono EU8.stable (b_alloc (Below.refl _ wr) (Obj.cells #[.string x.digest, .slice xa x.data.length xc, .int .i64 x.pins, .bool x.mark] 61)))
            clear k0 k1 k2 k3 hn rpx
            cases hm : x.mark with
            | true =>
              have hpa := hid (reach_PartsD x _ _ rp1.out)
              rw [hm] at c3 hown1 hb1 hpa rp1
              replace hyes := hid (hyes.out hm)
              have hdx := digs_small x
              have hyes2 := hid (show RL ++ deepD (bs.take (k + 1)) = (RL ++ deepD (bs.take k)) ++ digsOf x by rw [hyes.out, List.append_assoc])
              have hDk : (RL ++ deepD (bs.take k)).length ≤ 1000 := by rw [List.length_append]; omega
              clear hno hown hbr hyes
              generalize RL ++ deepD (bs.take k) = D8 at *
              go_wp2_with fail
              ((with_reducible refine hpa.out.mono ?_); rintro e w7 ⟨v7, rfl, o7, b7⟩)
              have r7 := hid (reads_str o7 (by omega) hdx.2)
              have o8 := hid (OS.below hown1.out b7)
              have hb8 := hid (hb1.out.trans (b7.mono hb1.out.size))
              have hs8 := hb8.out.size
              obtain ⟨oa, oc, rfl, -⟩ := id (OS.len_le o8.out)
              clear b7 o7 hpa hown1 hb1 rp1 c0 c1 c2' c3
              go_wp2_with (at_builtin; go_must (refine wpL_append flat_str rfl (.tmp 41) (.tmp 43) 26 rfl 9 i0 _ Tryz.underlying26 ii0 hz0 hz1 hz2 rfl w5.heap.size _ _ rfl o8.out _ (digsOf x) rfl r7.out ?c1 ?c2 ?c3 ?_))
              case c1 => omega
              case c2 => unfold maxLen; omega
              case c3 => omega
              intro v9 w9 ho9 hg9
              have hb9 := hid (hb8.out.grown hg9 hs8 (OS.block o8.out))
              rw [← hyes2.out] at ho9
              replace ho9 := hid ho9
              clear hg9 o8 hb8 r7 hyes2
              go_wp2_with fail
              go_roundw
              case rel => exact ⟨k + 1, by omega, by go_num, ho9, hb9⟩
              case measure => simp [intOf]; omega
            | false =>
              rw [hm] at c3 hown1 hb1
              replace hno := hid (hno.out hm)
              rw [← hno.out] at hown1
              clear hno hyes hown hbr rp1
              go_wp2_with fail
              go_roundw
              case rel => exact ⟨k + 1, by omega, by go_num, hown1, hb1⟩
              case measure => simp [intOf]; omega
          · obtain rfl : k = bs.length := by omega
            rw [List.take_length] at hown
            have hDl : (RL ++ deepD bs).length ≤ 1000 := by rw [List.length_append]; omega
            have hqr := hid (hbr.out.block w.heap.size (by omega) |>.trans hq5.out)
            have hkr := hid (hbr.out.block (w.heap.size + 1) hqB |>.trans hk5.out)
            have hRr := hid (hR.out.mono EBlob.stable hbk.out)
            have hdf := hid (deleteFunc_S 62 #[.pointer (some ⟨w.heap.size, 0, none⟩)] (fun d => !inBb bs d) (enters_of Tryz.func62 (by kernel_rfl) rfl) _ (RL ++ deepD bs) w5.heap.size wr hown.out hsB (by omega) hDs.out
              (fun W x hb hx => check1 x _ _ bs es.length r t w.heap.size W hx ((hb.block w.heap.size (by omega)).trans hqr.out) (hR.out.mono EBlob.stable (b_call hb5.out (hbr.out.trans hb))) ⟨_, _, rfl⟩))
            rw [filter_nn] at hdf
            have hfl : ((RL ++ deepD bs).filter (inBb bs)).length ≤ 1000 := Nat.le_trans (List.length_filter_le _ _) hDl
            have hfs : Hid (∀ x ∈ (RL ++ deepD bs).filter (inBb bs), x.size ≤ 140737488351232) := hid (fun x hx => hDs.out x (List.mem_filter.1 hx).1)
            generalize (RL ++ deepD bs).filter (inBb bs) = TH at *
            clear hown
            go_wp2_with fail
            ((with_reducible refine hdf.out.mono ?_); rintro e w7 ⟨v7, rfl, o7, b7⟩)
            have r7 := reads_str o7 (by omega) hfs.out
            have hb57 := hbr.out.trans b7
            have hk7 := hid (hb57.block (w.heap.size + 1) hqB |>.trans hk5.out)
            have hb7 := hid (b_call hb5.out hb57)
            have rb7 := hid (r45.out.mono EStr.stable hb57)
            have rg7 := hid (hG.out.mono EStr.stable hb7.out)
            have hAL := b_alloc (Below.refl w7.heap.size w7) (Obj.cells #[.slice ba (markedD bs).length bc, .slice ga gy.length gc] 26)
            have hcc := hid (slices_Concat_str _ _ (markedD bs) gy w7.heap.size _ (heap_alloc_new w7 (Obj.cells #[.slice ba (markedD bs).length bc, .slice ga gy.length gc] 26)) (rb7.out.mono EStr.stable hAL) (rg7.out.mono EStr.stable hAL) (by omega))
            have r8 := hid (r7.mono EStr.stable hAL)
            have hb8 := hid (b_alloc hb7.out (Obj.cells #[.slice ba (markedD bs).length bc, .slice ga gy.length gc] 26))
            obtain ⟨ta, tc, rfl, -⟩ := id r7
            obtain ⟨y0, y1, y2, -⟩ := box3f hk7.out
            clear hdf o7 b7 hb57 r7 hbr hbk rb7 rg7 hAL hb7
            go_wp2_with fail
            ((with_reducible refine hcc.out.mono ?_); rintro e w9 ⟨v9, rfl, o9, b9⟩)
            have hcs9 : Hid (∀ x ∈ markedD bs ++ gy, x.size ≤ 140737488351232) := hid (fun x hx => (List.mem_append.1 hx).elim (hms.out x) (hgs.out x))
            have r9 := hid (reads_str o9 (by rw [List.length_append]; omega) hcs9.out)
            have r10 := hid (r8.out.mono EStr.stable b9)
            have hb9 := hid (b_call hb8.out b9)
            have hwi := hid (collect_within _ v9 TH (markedD bs ++ gy) w9 r10.out r9.out)
            clear hcc o9 b9 r8 hb8 y0 y1 y2
            generalize isSub TH (markedD bs ++ gy) = bb at *
            cases bb with
            | true =>
              have hd := hid (hfin1.out rfl)
              go_wp2_with fail
              ((with_reducible refine hwi.out.mono ?_); rintro e w10 ⟨rfl, b10⟩)
              have hb10 := hid (b_call hb9.out b10)
              clear b10
              go_wp2_with fail
              go_ret
              exact ⟨ret_i hd.out.symm, hb10.out⟩
            | false =>
              have hd := hid (hfin2.out rfl)
              go_wp2_with fail
              ((with_reducible refine hwi.out.mono ?_); rintro e w10 ⟨rfl, b10⟩)
              have hb10 := hid (b_call hb9.out b10)
              clear b10
              go_wp2_with fail
              go_ret
              exact ⟨ret_i hd.out.symm, hb10.out⟩
      · obtain rfl : gy = [] := hgc.out.2.1.elim id (fun h => by cases h)
        have hmu : mustD 2 bs es = allOf bs es := by unfold mustD; rw [if_neg (by decide), if_pos rfl]
        have hal := hid (fun W (h : RBl W (.slice a bs.length c) bs) (g : RE W (.slice a2 es.length c2) es) => (reach_All _ _ bs es r t W h g (by have := hN.out; omega)).mono (fun e w' h => (⟨h.all, all_inB h⟩ : AllPost bs (allOf bs es) W e w' ∧ ∀ d ∈ allOf bs es, InB bs d)))
        have hfin1 := hid (fun (hin : ∀ d ∈ allOf bs es, InB bs d) (h : isSub (allOf bs es) (markedD bs) = true) => e3.out (by rw [hmu]; exact (sub_all hr.out hin).1 h))
        have hfin2 := hid (fun (hin : ∀ d ∈ allOf bs es, InB bs d) (h : isSub (allOf bs es) (markedD bs) = false) => e4.out (fun h2 => by rw [hmu] at h2; rw [(sub_all hr.out hin).2 h2] at h; cases h))
        unfold AllPost at hal
        clear e3 e4 hmu
        generalize allOf bs es = AL at *
        go_wp2_with fail
        ((with_reducible refine (hal.out _ (hR.out.mono EBlob.stable hb4.out) (hE.out.mono EEntry.stable hb4.out)).mono ?_); rintro e w5 ⟨⟨v5, rfl, -, r5, -, b5⟩, hin⟩)
        have hb5 := hid (b_call hb4.out b5)
        have r45 := hid (r4.out.mono EStr.stable b5)
        have hwi := hid (collect_within v5 _ AL (markedD bs) w5 r5 r45.out)
        replace hfin1 := hid (hfin1.out hin)
        replace hfin2 := hid (hfin2.out hin)
        clear b5 hb4 r4 hal hin
        generalize isSub AL (markedD bs) = bb at *
        cases bb with
        | true =>
          have hd := hid (hfin1.out rfl)
          go_wp2_with fail
          ((with_reducible refine hwi.out.mono ?_); rintro e w10 ⟨rfl, b10⟩)
          have hb10 := hid (b_call hb5.out b10)
          clear b10
          go_wp2_with fail
          go_ret
          exact ⟨ret_i hd.out.symm, hb10.out⟩
        | false =>
          have hd := hid (hfin2.out rfl)
          go_wp2_with fail
          ((with_reducible refine hwi.out.mono ?_); rintro e w10 ⟨rfl, b10⟩)
          have hb10 := hid (b_call hb5.out b10)
          clear b10
          go_wp2_with fail
          go_ret
          exact ⟨ret_i hd.out.symm, hb10.out⟩
    · have hs' : (s != 0) = true := by simp [hs]
      have hd := hid (e2.out hs)
      clear e2 e3 e4 hsz
      replace hs := hid hs
      go_wp2_with fail
      go_ret
      exact ⟨ret_i hd.out.symm, hb3.out⟩
  · have ht : (z != 0) = true := by simp [hz]
    have hd := hid (e1.out hz)
    replace hz := hid hz
    clear e1 e2 e3 e4 hsz hr hN hb24 hch
    go_wp2_with fail
    go_ret
    exact ⟨ret_i hd.out.symm, hb2.out⟩
end Go.Proofs.YtojebioolflbkaaGreat

namespace Go.Proofs.YtojebioolflbkaaGreat
open Go.RowKit Go.Maps

def pOk (ph : Int) (gy : List ByteArray) (j : Nat) (d : ByteArray) : Prop := ph = 1 ∧ hexFault d = 0 ∧ ∀ p, 0 < j → gy[j - 1]? = some p → slt p d = true
def upTo (ph : Int) (gy : List ByteArray) (pl : ByteArray) (k : Nat) : Prop := (pl = ⟨#[]⟩ ∨ ph = 2 ∧ hexFault pl = 0) ∧ ∀ j d, j < k → gy[j]? = some d → pOk ph gy j d
theorem upTo_no {ph : Int} {gy : List ByteArray} {pl : ByteArray} {k : Nat} (h : ¬ upTo ph gy pl k) : ¬ upTo ph gy pl (k + 1) := fun h2 => h ⟨h2.1, fun j d hj => h2.2 j d (by omega)⟩
theorem upTo_bad {ph : Int} {gy : List ByteArray} {pl : ByteArray} {k : Nat} {d : ByteArray} (hd : gy[k]? = some d) (h : ¬ pOk ph gy k d) : ¬ upTo ph gy pl (k + 1) := fun h2 => h (h2.2 k d (by omega) hd)
theorem upTo_ok {ph : Int} {gy : List ByteArray} {pl : ByteArray} {k : Nat} {d : ByteArray} (hd : gy[k]? = some d) (h0 : upTo ph gy pl k) (h : pOk ph gy k d) : upTo ph gy pl (k + 1) := ⟨h0.1, fun j e hj he => by
  by_cases hjk : j = k
  · subst hjk
    rw [hd] at he
    cases he
    exact h
  · exact h0.2 j e (by omega) he⟩
theorem upTo_all {ph : Int} {gy : List ByteArray} {pl : ByteArray} : upTo ph gy pl gy.length ↔ goodC ph gy pl := by
  constructor
  · rintro ⟨h1, h2⟩
    have h3 : ∀ i d, gy[i]? = some d → pOk ph gy i d := fun i d hd => h2 i d (List.getElem?_eq_some_iff.1 hd).1 hd
    refine ⟨h1, ?_, fun i d hd => (h3 i d hd).2⟩
    cases hg : gy with
    | nil => exact .inl rfl
    | cons x l => exact .inr (h3 0 x (by rw [hg]; rfl)).1
  · rintro ⟨h1, h2, h3⟩
    refine ⟨h1, fun j d hj hd => ⟨?_, h3 j d hd⟩⟩
    rcases h2 with h2 | h2
    · rw [h2] at hd; simp at hd
    · exact h2
theorem small_wrap {m n : Nat} (h1 : m + 1 < n) (h2 : n ≤ 8388608) : wrap64 (m : Int) = m ∧ wrap64 ((m : Int) + 1 - 1) = m ∧ (0 : Int) ≤ m ∧ (m : Int) < n ∧ ((m : Int) + 1 == 0) = false ∧ (((m + 1 : Nat) : Int) == 0) = false := by
  have hw : wrap64 (m : Int) = m := wrap64_in' (by omega) (by omega)
  exact ⟨hw, by rw [Int.add_sub_cancel]; exact hw, by omega, by omega, beq_eq_false_iff_ne.2 (by omega), beq_eq_false_iff_ne.2 (by omega)⟩
def okAt (bs : List Blob) (gy : List ByteArray) (d : ByteArray) : Prop := ∀ x, bs[atKey (fun x : Blob => x.digest) d bs]? = some x → x.mark = true ∨ d ∈ gy

set_option maxRecDepth 100000 in
set_option maxHeartbeats 8000000 in
theorem ref_CollectFault' (v u gv : Value) (bs : List Blob) (es : List Entry) (r t ph : Int) (pl : ByteArray) (gy : List ByteArray) (w : World) (h : RBl w v bs) (g : RE w u es) (hg : RT w gv gy) (hpl : pl.size ≤ 140737488351232) (hgl : gy.length ≤ 8388608) (z : Int)
    (hch : ∀ w, RBl w v bs → RE w u es → Calls Tryz.prog 42 #[.agg #[v, u, .int .i64 r, .int .i64 t]] w fun e w' => e = .returned (.int .i64 z) ∧ Below w.heap.size w w')
    (hN : z = 0 → bulkN bs es ≤ 104) (hb24 : z = 0 → bs.length ≤ 24) :
    Calls Tryz.prog 25 #[.agg #[v, u, .int .i64 r, .int .i64 t], .agg #[.int .i64 ph, gv, .string pl]] w fun e w' => e = .returned (.int .i64 (collE z (shapeE ph gy pl) ph bs es gy)) ∧ Below w.heap.size w w' := by
  obtain ⟨i0, ii0, hz0, hz1, hz2⟩ := info_parts info_str
  replace hch := hid hch
  have hR := hid h
  have hE := hid g
  have hG := hid hg
  have hgs := hid (rt_sizes hg)
  have hgb := rt_bound hg
  have hds := hid (rootsL_size (fit_B h) (fit_E g))
  have e1 := hid (fun (h : z ≠ 0) => (coll_z h : collE z (shapeE ph gy pl) ph bs es gy = z))
  have e2 := hid (fun (h : z = 0) (h2 : shapeE ph gy pl ≠ 0) => (show collE z (shapeE ph gy pl) ph bs es gy = shapeE ph gy pl by rw [h]; exact coll_s h2))
  have e3 := hid (fun (h : z = 0) (h2 : shapeE ph gy pl = 0) (h3 : okMust bs gy (mustD ph bs es)) => (show collE z (shapeE ph gy pl) ph bs es gy = 0 by rw [h, h2]; exact coll_ok h3))
  have e4 := hid (fun (h : z = 0) (h2 : shapeE ph gy pl = 0) (h3 : ¬ okMust bs gy (mustD ph bs es)) => (show collE z (shapeE ph gy pl) ph bs es gy = 12 by rw [h, h2]; exact coll_bad h3))
  have s1 := hid (@shape_kind ph gy pl)
  have s2 := hid (@shape_bad ph gy pl)
  have s3 := hid (@shape_ok ph gy pl)
  generalize collE z (shapeE ph gy pl) ph bs es gy = ce at *
  generalize shapeE ph gy pl = s at *
  have hx := hid (fun w => ref_HexFault_any pl w hpl)
  generalize hzx : hexFault pl = hz at hx
  replace hzx := hid hzx
  replace hN := hid hN
  replace hb24 := hid hb24
  obtain ⟨a, c, rfl, hlc, hcm, hre, -, hat⟩ := h
  obtain ⟨a2, c2, rfl, -⟩ := g
  obtain ⟨ga, gc, rfl, -⟩ := hg
  unfold maxLen at hcm
  replace hat := hid hat
  obtain ⟨w1, hw1⟩ : ∃ w1 : World, w1 = (w.alloc (Obj.cells #[.slice a bs.length c, .slice a2 es.length c2, .int .i64 r, .int .i64 t] 25)).alloc (Obj.cells #[.int .i64 ph, .slice ga gy.length gc, .string pl] 28) := ⟨_, rfl⟩
  have hb1 := hid (show Below w.heap.size w w1 by rw [hw1]; exact b_alloc (b_alloc (Below.refl _ _) _) _)
  have hq1 := hid (show w1.heap[w.heap.size]? = some (.cells #[.slice a bs.length c, .slice a2 es.length c2, .int .i64 r, .int .i64 t] 25 (0, 0)) by
    rw [hw1]
    exact (heap_alloc_old _ _ (by simp)).trans (heap_alloc_new w _))
  have hk1 := hid (show w1.heap[w.heap.size + 1]? = some (.cells #[.int .i64 ph, .slice ga gy.length gc, .string pl] 28 (0, 0)) by
    rw [hw1]
    exact heap_put _ _ _ (by simp))
  obtain ⟨x0, x1, x2, x3⟩ := box4f hq1.out
  go_enter Tryz.func25, Tryz.ntmps25
  go_wp2_with fail
  rw [← hw1]
  clear hw1
  ((with_reducible refine (hch.out _ (hR.out.mono EBlob.stable hb1.out) (hE.out.mono EEntry.stable hb1.out)).mono ?_); rintro e w2 ⟨rfl, b2⟩)
  have hq2 := hid (stays b2 hq1.out)
  have hk2 := hid (stays b2 hk1.out)
  have hb2 := hid (b_call hb1.out b2)
  clear b2 hq1 hk1 hb1 x0 x1 x2 x3
  by_cases hz0' : z = 0
  · subst hz0'
    replace hN := hid (hN.out rfl)
    replace hb24 := hb24.out rfl
    have hNN := hN.out
    replace e2 := hid (e2.out rfl)
    replace e3 := hid (e3.out rfl)
    replace e4 := hid (e4.out rfl)
    obtain ⟨y0, y1, y2, -⟩ := box3f hk2.out
    clear e1 hch
    by_cases hk : ph < 0 ∨ 2 < ph
    · have hs := s1.out hk
      have hr := hid (e2.out (by rw [hs]; decide))
      rw [hs] at hr
      clear e2 e3 e4 s1 s2 s3
      by_cases h0 : ph < 0
      · have d1 : decide (ph < 0) = true := decide_eq_true h0
        replace hk := hid hk
        replace h0 := hid h0
        go_wp2_with fail
        go_ret
        exact ⟨ret_i hr.out.symm, hb2.out⟩
      · have d1 : decide (ph < 0) = false := decide_eq_false h0
        have d2 : decide (ph > 2) = true := decide_eq_true (by omega)
        have d3 : decide (2 < ph) = true := decide_eq_true (by omega)
        replace hk := hid hk
        replace h0 := hid h0
        go_wp2_with fail
        go_ret
        exact ⟨ret_i hr.out.symm, hb2.out⟩
    · have f3 := hid (fun (h : ¬ upTo ph gy pl gy.length) => s2.out hk (fun h2 => h (upTo_all.2 h2)))
      have f0 := hid (fun (h : upTo ph gy pl gy.length) => s3.out hk (upTo_all.1 h))
      clear s1 s2 s3
      have hp3 : ph = 0 ∨ ph = 1 ∨ ph = 2 := by omega
      clear hk
      -- the world ahead of the loop
      have hsz := hgb
      by_cases hpe : pl = ⟨#[]⟩
      · subst hpe
        clear hx hzx
        rcases hp3 with rfl | rfl | rfl
        · go_wp2_with fail
          have hu0 := hid (show true = true ↔ upTo 0 gy ⟨#[]⟩ 0 from ⟨fun _ => ⟨.inl rfl, fun j d hj => by omega⟩, fun _ => rfl⟩)
          clear y0 y1 y2
          go_loopw [6, 7, 8, 45] (fun gd _ _ i wr => ∃ (k : Nat) (b : Bool), k ≤ gy.length ∧ i = .int .i64 (k : Int) ∧ gd = .bool b ∧ Hid (b = true ↔ upTo 0 gy ⟨#[]⟩ k) ∧ Hid (Below w2.heap.size w2 wr)) (fun _ _ _ i _ => gy.length - (intOf i).toNat)
          case atStart => exact ⟨0, true, by omega, rfl, rfl, hu0, hid (Below.refl _ _)⟩
          case round =>
            obtain ⟨k, b, hk9, rfl, rfl, hu, hbr⟩ := hrel
            have hbk := hid (b_call hb2.out hbr.out)
            have hqr := stays hbr.out hq2.out
            have hkr := stays hbr.out hk2.out
            obtain ⟨x0, x1, x2, x3⟩ := box4f hqr
            obtain ⟨y0, y1, y2, -⟩ := box3f hkr
            by_cases hlt : k < gy.length
            · have hn : gy[k]? = some gy[k] := List.getElem?_eq_getElem hlt
              have hsd := hgs.out _ (List.getElem_mem hlt)
              generalize gy[k] = d at *
              obtain ⟨gb, go, rfl, hgl', he4, -⟩ := rt_at (hG.out.mono EStr.stable hbk.out) hn
              rw [Nat.mul_one] at he4
              have hk0 : (0 : Int) ≤ (k : Int) := by omega
              have hk1 : (k : Int) < (gy.length : Int) := by omega
              have hbad := hid (fun (h : ¬ pOk 0 gy k d) => (show false = true ↔ upTo 0 gy ⟨#[]⟩ (k + 1) from ⟨fun h => (by cases h), fun h2 => absurd h2 (upTo_bad hn h)⟩))
              cases b with
              | false =>
                have hr := hid (show false = true ↔ upTo 0 gy ⟨#[]⟩ (k + 1) from ⟨fun h => (by cases h), fun h2 => absurd h2 (upTo_no (fun h3 => (by have := hu.out.2 h3; cases this)))⟩)
                clear hn hbad hu
                go_wp2_with fail
                go_roundw
                case rel => exact ⟨k + 1, false, by omega, by go_num, rfl, hr, hbr⟩
                case measure => simp [intOf]; omega
              | true =>
                have hr := hid (hbad.out (fun h => by have := h.1; cases this))
                clear hn hbad hu
                go_wp2_with fail
                go_roundw
                case rel => exact ⟨k + 1, false, by omega, by go_num, rfl, hr, hbr⟩
                case measure => simp [intOf]; omega
            · obtain rfl : k = gy.length := by omega
              cases b with
              | false =>
                have hs := f3.out (fun h => by have := hu.out.2 h; cases this)
                have hr := hid (e2.out (by rw [hs]; decide))
                rw [hs] at hr
                clear e2 e3 e4 f0 f3 hu
                go_wp2_with fail
                go_ret
                exact ⟨ret_i hr.out.symm, hbk.out⟩
              | true =>
                have hs := f0.out (hu.out.1 rfl)
                replace e3 := hid (e3.out hs)
                replace e4 := hid (e4.out hs)
                clear e2 f0 f3 hu
                have hd := hid (e3.out (fun d hd => by unfold mustD at hd; simp at hd))
                clear e3 e4
                go_wp2_with fail
                refine wp_loop_rounds 1 ?_
                rw [rounds_succ]
                go_wp2_with fail
                go_ret
                exact ⟨ret_i hd.out.symm, hbk.out⟩
        · go_wp2_with fail
          have hu0 := hid (show true = true ↔ upTo 1 gy ⟨#[]⟩ 0 from ⟨fun _ => ⟨.inl rfl, fun j d hj => by omega⟩, fun _ => rfl⟩)
          clear y0 y1 y2
          go_loopw [6, 7, 8, 45] (fun gd _ _ i wr => ∃ (k : Nat) (b : Bool), k ≤ gy.length ∧ i = .int .i64 (k : Int) ∧ gd = .bool b ∧ Hid (b = true ↔ upTo 1 gy ⟨#[]⟩ k) ∧ Hid (Below w2.heap.size w2 wr)) (fun _ _ _ i _ => gy.length - (intOf i).toNat)
          case atStart => exact ⟨0, true, by omega, rfl, rfl, hu0, hid (Below.refl _ _)⟩
          case round =>
            obtain ⟨k, b, hk9, rfl, rfl, hu, hbr⟩ := hrel
            have hbk := hid (b_call hb2.out hbr.out)
            have hqr := stays hbr.out hq2.out
            have hkr := stays hbr.out hk2.out
            obtain ⟨x0, x1, x2, x3⟩ := box4f hqr
            obtain ⟨y0, y1, y2, -⟩ := box3f hkr
            by_cases hlt : k < gy.length
            · have hn : gy[k]? = some gy[k] := List.getElem?_eq_getElem hlt
              have hsd := hgs.out _ (List.getElem_mem hlt)
              generalize gy[k] = d at *
              obtain ⟨gb, go, rfl, hgl', he4, -⟩ := rt_at (hG.out.mono EStr.stable hbk.out) hn
              rw [Nat.mul_one] at he4
              have hk0 : (0 : Int) ≤ (k : Int) := by omega
              have hk1 : (k : Int) < (gy.length : Int) := by omega
              have hbad := hid (fun (h : ¬ pOk 1 gy k d) => (show false = true ↔ upTo 1 gy ⟨#[]⟩ (k + 1) from ⟨fun h => (by cases h), fun h2 => absurd h2 (upTo_bad hn h)⟩))
              cases b with
              | false =>
                have hr := hid (show false = true ↔ upTo 1 gy ⟨#[]⟩ (k + 1) from ⟨fun h => (by cases h), fun h2 => absurd h2 (upTo_no (fun h3 => (by have := hu.out.2 h3; cases this)))⟩)
                clear hn hbad hu
                go_wp2_with fail
                go_roundw
                case rel => exact ⟨k + 1, false, by omega, by go_num, rfl, hr, hbr⟩
                case measure => simp [intOf]; omega
              | true =>
                have hgood := hid (fun (h : pOk 1 gy k d) => (upTo_ok hn (hu.out.1 rfl) h : upTo 1 gy ⟨#[]⟩ (k + 1)))
                have hxd := hid (ref_HexFault_any d wr hsd)
                generalize hhd : hexFault d = hd at hxd
                replace hhd := hid hhd
                by_cases hz9 : hd = 0
                · subst hz9
                  by_cases hkz : k = 0
                  · subst hkz
                    have hr := hid (hgood.out ⟨rfl, hhd.out, fun p hp => by omega⟩)
                    rw [Nat.add_zero] at he4
                    clear hn hbad hgood hu
                    go_wp2_with fail
                    ((with_reducible refine hxd.out.mono ?_); rintro e w5 ⟨rfl, b5⟩)
                    have hb5 := hid (hbr.out.trans (b5.mono hbr.out.size))
                    clear b5 hxd he4
                    go_wp2_with fail
                    go_roundw
                    case rel => exact ⟨0 + 1, true, by omega, by go_num, rfl, hid ⟨fun _ => hr.out, fun _ => rfl⟩, hb5⟩
                    case measure => simp [intOf]; omega
                  · obtain ⟨m, rfl⟩ : ∃ m, k = m + 1 := ⟨k - 1, by omega⟩
                    have hp : gy[m]? = some gy[m] := List.getElem?_eq_getElem (by omega)
                    generalize gy[m] = p at hp
                    obtain ⟨gb', go', hab, -, he5, -⟩ := rt_at (hG.out.mono EStr.stable hbk.out) hp
                    simp only [Option.some.injEq, Addr.mk.injEq, and_true] at hab
                    obtain ⟨rfl, rfl⟩ := hab
                    rw [Nat.mul_one] at he5
                    clear hre hlc hcm hNN hb24 hsz hgb hkz
                    obtain ⟨hw2, hw1, hm0, hm1, hg0, hg1⟩ := small_wrap hlt hgl
                    have hb5 := hid (fun (h : slt p d = false) => hbad.out (fun h2 => by have := h2.2.2 p (Nat.succ_pos m) (by simpa using hp); rw [h] at this; cases this))
                    have hn5 := hid (fun (h : slt p d = true) => hgood.out ⟨rfl, hhd.out, fun p' _ hp' => by rw [Nat.add_sub_cancel, hp] at hp'; cases hp'; exact h⟩)
                    rcases sle_atoms d p with ⟨a1, a2⟩ | ⟨a1, rfl, a2⟩ | ⟨a1, a2, a3⟩
                    · have hr := hid (hb5.out a2)
                      clear hn hbad hgood hu hb5 hn5 a2 hp
                      go_wp2_with fail
                      ((with_reducible refine hxd.out.mono ?_); rintro e w5 ⟨rfl, b5⟩)
                      have hk5 := stays b5 hkr
                      clear y0 y1 y2
                      obtain ⟨y0, y1, y2, -⟩ := box3f hk5
                      have he6 := cell_stays b5 hgl' he5
                      have hb5 := hid (hbr.out.trans (b5.mono hbr.out.size))
                      clear b5 hxd he4 he5
                      go_wp2_with fail
                      go_roundw
                      case rel => exact ⟨m + 1 + 1, false, by omega, by go_num, rfl, hr, hb5⟩
                      case measure => simp [intOf]; omega
                    · have hr := hid (hb5.out a2)
                      clear hn hbad hgood hu hb5 hn5 a2 hp
                      go_wp2_with fail
                      ((with_reducible refine hxd.out.mono ?_); rintro e w5 ⟨rfl, b5⟩)
                      have hk5 := stays b5 hkr
                      clear y0 y1 y2
                      obtain ⟨y0, y1, y2, -⟩ := box3f hk5
                      have he6 := cell_stays b5 hgl' he5
                      have hb5 := hid (hbr.out.trans (b5.mono hbr.out.size))
                      clear b5 hxd he4 he5
                      go_wp2_with fail
                      go_roundw
                      case rel => exact ⟨m + 1 + 1, false, by omega, by go_num, rfl, hr, hb5⟩
                      case measure => simp [intOf]; omega
                    · have hr := hid (hn5.out a3)
                      clear hn hbad hgood hu hb5 hn5 a3 hp
                      go_wp2_with fail
                      ((with_reducible refine hxd.out.mono ?_); rintro e w5 ⟨rfl, b5⟩)
                      have hk5 := stays b5 hkr
                      clear y0 y1 y2
                      obtain ⟨y0, y1, y2, -⟩ := box3f hk5
                      have he6 := cell_stays b5 hgl' he5
                      have hb5 := hid (hbr.out.trans (b5.mono hbr.out.size))
                      clear b5 hxd he4 he5
                      go_wp2_with fail
                      go_roundw
                      case rel => exact ⟨m + 1 + 1, true, by omega, by go_num, rfl, hid ⟨fun _ => hr.out, fun _ => rfl⟩, hb5⟩
                      case measure => simp [intOf]; omega
                · have hr := hid (hbad.out (fun h => hz9 (hhd.out.symm.trans h.2.1)))
                  have hz' : (hd == 0) = false := beq_eq_false_iff_ne.2 hz9
                  clear hn hbad hgood hu
                  go_wp2_with fail
                  ((with_reducible refine hxd.out.mono ?_); rintro e w5 ⟨rfl, b5⟩)
                  have hb5 := hid (hbr.out.trans (b5.mono hbr.out.size))
                  clear b5 hxd he4
                  go_wp2_with fail
                  go_roundw
                  case rel => exact ⟨k + 1, false, by omega, by go_num, rfl, hr, hb5⟩
                  case measure => simp [intOf]; omega
            · obtain rfl : k = gy.length := by omega
              cases b with
              | false =>
                have hs := f3.out (fun h => by have := hu.out.2 h; cases this)
                have hr := hid (e2.out (by rw [hs]; decide))
                rw [hs] at hr
                clear e2 e3 e4 f0 f3 hu
                go_wp2_with fail
                go_ret
                exact ⟨ret_i hr.out.symm, hbk.out⟩
              | true =>
                have hs := f0.out (hu.out.1 rfl)
                replace e3 := hid (e3.out hs)
                replace e4 := hid (e4.out hs)
                clear e2 f0 f3 hu
                have hmu : mustD 1 bs es = rootsL bs es ++ deepD bs := if_pos rfl
                rw [hmu] at e3 e4
                have hrt := hid (fun W (h : RBl W (.slice a bs.length c) bs) (g : RE W (.slice a2 es.length c2) es) => ref_ReachRoots _ _ bs es r t W h g (by have := hN.out; omega))
                unfold RootsPost at hrt
                have hrl := rootsL_len bs es
                have hdl := deep_len bs
                have hDs : Hid (∀ x ∈ rootsL bs es ++ deepD bs, x.size ≤ 140737488351232) := hid (fun x hx => (List.mem_append.1 hx).elim (hds.out x) (deep_size bs x))
                clear hmu
                generalize rootsL bs es = RL at *
                go_wp2_with fail
                ((with_reducible refine (hrt.out _ (hR.out.mono EBlob.stable hbk.out) (hE.out.mono EEntry.stable hbk.out)).mono ?_); rintro e w6 ⟨v6, rfl, r6, o6, b6⟩)
                have hq6 := hid (stays b6 hqr)
                have hk6 := hid (stays b6 hkr)
                have hb6 := hid (b_call hbk.out b6)
                have hqB : w.heap.size + 1 < wr.heap.size := heap_lt hkr
                have hs6 := b6.size
                have hb56' := b6
                have ho6 : Hid (OS 9 1 cStr w6 wr.heap.size v6 (RL ++ deepD (bs.take 0))) := hid (by rw [List.take_zero]; unfold deepD; simpa using o6)
                clear o6 r6 x0 x1 x2 x3 y0 y1 y2 hrt
                obtain ⟨x0, x1, x2, x3⟩ := box4f hq6.out
                go_wp2_with fail
                clear x0 x1 x2 x3
                have hqq := hid hqr
                have hkk := hid hkr
                obtain ⟨w5, rfl⟩ : ∃ w5 : World, w5 = wr := ⟨wr, rfl⟩
                have hb56 := hid hb56'
                clear hb56'

                go_loopw [9, 11, 86] (fun o _ i wx => ∃ k : Nat, k ≤ bs.length ∧ i = .int .i64 (k : Int) ∧ Hid (OS 9 1 cStr wx w5.heap.size o (RL ++ deepD (bs.take k))) ∧ Hid (Below w5.heap.size w5 wx)) (fun _ _ i _ => bs.length - (intOf i).toNat)
                case atStart => exact ⟨0, by omega, rfl, ho6, hb56⟩
                case round =>
                  obtain ⟨k, hk, rfl, hown, hbx⟩ := hrel
                  have hby := hid (b_call hbk.out hbx.out)
                  have hsB := hbx.out.size
                  by_cases hlt2 : k < bs.length
                  · have hn : bs[k]? = some bs[k] := List.getElem?_eq_getElem hlt2
                    have hyes := hid (deep_yes (List.take_succ_eq_append_getElem hlt2))
                    have hno := hid (deep_no (List.take_succ_eq_append_getElem hlt2))
                    generalize bs[k] = x at *
                    obtain ⟨bb, off, rfl, hbb, pv, k0, k1, k2, k3, rp, s0, -⟩ := hat.out k _ hn
                    have c0 := cell_stays hby.out hbb k0
                    have c1 := cell_stays hby.out hbb k1
                    have c2' := cell_stays hby.out hbb k2
                    have c3 := cell_stays hby.out hbb k3
                    have hbw : bb < wr.heap.size := Nat.lt_of_lt_of_le hbb hby.out.size
                    have rpx := rp.mono EU8.stable hby.out
                    obtain ⟨xa, xc, rfl, -⟩ := rp
                    have hhk := deep_len (bs.take k)
                    rw [List.length_take] at hhk
                    have hown1 := hid (OS.alloc hown.out (Obj.cells #[.string x.digest, .slice xa x.data.length xc, .int .i64 x.pins, .bool x.mark] 61))
                    have hb1 := hid (hbx.out.alloc hsB (Obj.cells #[.string x.digest, .slice xa x.data.length xc, .int .i64 x.pins, .bool x.mark] 61))
                    have rp1 := hid (rpx.mono EU8.stable (b_alloc (Below.refl _ wr) (Obj.cells #[.string x.digest, .slice xa x.data.length xc, .int .i64 x.pins, .bool x.mark] 61)))
                    clear k0 k1 k2 k3 hn rpx
                    cases hm : x.mark with
                    | true =>
                      have hpa := hid (ref_PartsInD x _ _ rp1.out)
                      rw [hm] at c3 hown1 hb1 hpa rp1
                      replace hyes := hid (hyes.out hm)
                      have hdx := digs_small x
                      have hyes2 := hid (show RL ++ deepD (bs.take (k + 1)) = (RL ++ deepD (bs.take k)) ++ digsOf x by rw [hyes.out, List.append_assoc])
                      have hDk : (RL ++ deepD (bs.take k)).length ≤ 1000 := by rw [List.length_append]; omega
                      clear hno hown hbx hyes
                      generalize RL ++ deepD (bs.take k) = D8 at *
                      go_wp2_with fail
                      ((with_reducible refine hpa.out.mono ?_); rintro e w7 ⟨v7, rfl, o7, b7⟩)
                      have r7 := hid (reads_str o7 (by omega) hdx.2)
                      have o8 := hid (OS.below hown1.out b7)
                      have hb8 := hid (hb1.out.trans (b7.mono hb1.out.size))
                      have hs8 := hb8.out.size
                      obtain ⟨oa, oc, rfl, -⟩ := id (OS.len_le o8.out)
                      clear b7 o7 hpa hown1 hb1 rp1 c0 c1 c2' c3
                      go_wp2_with (at_builtin; go_must (refine wpL_append flat_str rfl (.tmp 92) (.tmp 94) 26 rfl 9 i0 _ Tryz.underlying26 ii0 hz0 hz1 hz2 rfl w5.heap.size _ _ rfl o8.out _ (digsOf x) rfl r7.out ?c1 ?c2 ?c3 ?_))
                      case c1 => omega
                      case c2 => unfold maxLen; omega
                      case c3 => omega
                      intro v9 w9 ho9 hg9
                      have hb9 := hid (hb8.out.grown hg9 hs8 (OS.block o8.out))
                      rw [← hyes2.out] at ho9
                      replace ho9 := hid ho9
                      clear hg9 o8 hb8 r7 hyes2
                      go_wp2_with fail
                      go_roundw
                      case rel => exact ⟨k + 1, by omega, by go_num, ho9, hb9⟩
                      case measure => simp [intOf]; omega
                    | false =>
                      rw [hm] at c3 hown1 hb1
                      replace hno := hid (hno.out hm)
                      rw [← hno.out] at hown1
                      clear hno hyes hown hbx rp1
                      go_wp2_with fail
                      go_roundw
                      case rel => exact ⟨k + 1, by omega, by go_num, hown1, hb1⟩
                      case measure => simp [intOf]; omega
                  · obtain rfl : k = bs.length := by omega
                    rw [List.take_length] at hown
                    have hDl : (RL ++ deepD bs).length ≤ 1000 := by rw [List.length_append]; omega
                    have hq7 := hbx.out.block w.heap.size (by omega) |>.trans hqq.out
                    have hk7 := hbx.out.block (w.heap.size + 1) hqB |>.trans hkk.out
                    have rD := reads_str hown.out (by omega) hDs.out
                    have hb7 := hby.out
                    generalize RL ++ deepD bs = D9 at *
                    obtain ⟨w8, rfl⟩ : ∃ w8 : World, w8 = wr := ⟨wr, rfl⟩
                    clear hown
                    have hlD : D9.length ≤ 140737488351232 := by have := rt_bound rD; omega
                    have hRw := hid (hR.out.mono EBlob.stable hb7)
                    have hGw := hid (hG.out.mono EStr.stable hb7)
                    have hAt := hid (fun d => ref_BlobAt _ bs d w8 hRw.out)
                    have hHo := hid (fun d => ref_holds _ gy d w8 hGw.out)
                    obtain ⟨da, dc, rfl, -⟩ := id rD
                    have hrD := hid rD
                    have hbw := hid hb7
                    have hqw := hid hq7
                    have hkw := hid hk7
                    obtain ⟨v0, v1, v2, -⟩ := box3f hkw.out
                    go_wp2_with fail
                    clear v0 v1 v2
                    go_loopw [13, 14, 104] (fun _ _ i wx => ∃ k : Nat, k ≤ D9.length ∧ i = .int .i64 (k : Int) ∧ Hid (∀ j d, j < k → D9[j]? = some d → okAt bs gy d) ∧ wx = w8) (fun _ _ i _ => D9.length - (intOf i).toNat)
                    case atStart => exact ⟨0, by omega, rfl, hid (fun j d hj => by omega), rfl⟩
                    case round =>
                      obtain ⟨k, hk, rfl, hall, rfl⟩ := hrel
                      obtain ⟨x0, x1, x2, x3⟩ := box4f hqw.out
                      obtain ⟨y0, y1, y2, -⟩ := box3f hkw.out
                      by_cases hlt : k < D9.length
                      · have hn : D9[k]? = some D9[k] := List.getElem?_eq_getElem hlt
                        generalize D9[k] = d at *
                        obtain ⟨bq, oq, rfl, hbq, p0, -⟩ := rs_at hrD.out hn
                        rw [Nat.mul_one] at p0
                        have hbad := hid (fun (h : ¬ okAt bs gy d) => e4.out (fun h2 => h (h2 d (List.mem_of_getElem? hn))))
                        have hnx := hid (fun (h : okAt bs gy d) j y (hj : j < k + 1) (hy : D9[j]? = some y) => (show okAt bs gy y from by
                          by_cases e : j = k
                          · subst e
                            rw [hn] at hy
                            cases hy
                            exact h
                          · exact hall.out j y (by omega) hy))
                        have hA := hid (hAt.out d)
                        have hH := hid (hHo.out d)
                        have hk0 : (0 : Int) ≤ (k : Int) := by omega
                        have hk1 : (k : Int) < (D9.length : Int) := by omega
                        clear hn hall
                        by_cases hin : InB bs d
                        · have hx : bs[atKey (fun x : Blob => x.digest) d bs]? = some bs[atKey (fun x : Blob => x.digest) d bs] := List.getElem?_eq_getElem hin
                          have hil : atKey (fun x : Blob => x.digest) d bs < bs.length := hin
                          generalize hgx : bs[atKey (fun x : Blob => x.digest) d bs] = x at hx
                          clear hgx
                          have hok := hid (fun (h : x.mark = true ∨ d ∈ gy) => hnx.out (fun y hy => by rw [hx] at hy; cases hy; exact h))
                          have hno := hid (fun (h : ¬ (x.mark = true ∨ d ∈ gy)) => hbad.out (fun h2 => h (h2 x hx)))
                          clear hnx hbad
                          generalize atKey (fun x : Blob => x.digest) d bs = i at *
                          obtain ⟨bb, off, rfl, hbb, pv, b0, b1, b2', b3', -⟩ := rs_at hRw.out hx
                          have hi0 : (0 : Int) ≤ (i : Int) := by omega
                          have hi1 : (i : Int) < (bs.length : Int) := by omega
                          have hi2 : decide ((i : Int) < (bs.length : Int)) = true := decide_eq_true hi1
                          cases hm : x.mark with
                          | true =>
                            have hr := hid (hok.out (.inl hm))
                            rw [hm] at b3'
                            clear hok hno
                            go_wp2_with fail
                            ((with_reducible refine hA.out.mono ?_); rintro e w7 ⟨rfl, rfl⟩)
                            go_wp2_with fail
                            go_roundw
                            case rel => exact ⟨k + 1, by omega, by go_num, hr, trivial⟩
                            case measure => simp [intOf]; omega
                          | false =>
                            rw [hm] at b3'
                            cases hi : isIn d gy with
                            | true =>
                              have hr := hid (hok.out (.inr (isIn_iff.1 hi)))
                              rw [hi] at hH
                              clear hok hno
                              go_wp2_with fail
                              ((with_reducible refine hA.out.mono ?_); rintro e w7 ⟨rfl, rfl⟩)
                              go_wp2_with fail
                              ((with_reducible refine hH.out.mono ?_); rintro e w7 ⟨rfl, rfl⟩)
                              go_wp2_with fail
                              go_roundw
                              case rel => exact ⟨k + 1, by omega, by go_num, hr, trivial⟩
                              case measure => simp [intOf]; omega
                            | false =>
                              have hr := hid (hno.out (fun h => h.elim (fun h => by rw [hm] at h; cases h) (isIn_not.1 hi)))
                              rw [hi] at hH
                              clear hok hno
                              go_wp2_with fail
                              ((with_reducible refine hA.out.mono ?_); rintro e w7 ⟨rfl, rfl⟩)
                              go_wp2_with fail
                              ((with_reducible refine hH.out.mono ?_); rintro e w7 ⟨rfl, rfl⟩)
                              go_wp2_with fail
                              go_ret
                              exact ⟨ret_i hr.out.symm, hbw.out⟩
                        · have hr := hid (hnx.out (fun y hy => absurd (inB_some.2 ⟨y, hy⟩) hin))
                          have hi1 : ¬ (atKey (fun x : Blob => x.digest) d bs : Int) < (bs.length : Int) := by unfold InB at hin; omega
                          have hi2 : decide ((atKey (fun x : Blob => x.digest) d bs : Int) < (bs.length : Int)) = false := decide_eq_false hi1
                          have hi3 : decide (atKey (fun x : Blob => x.digest) d bs < bs.length) = false := decide_eq_false (by unfold InB at hin; omega)
                          generalize atKey (fun x : Blob => x.digest) d bs = i at *
                          clear hnx hbad hin
                          go_wp2_with fail
                          ((with_reducible refine hA.out.mono ?_); rintro e w7 ⟨rfl, rfl⟩)
                          go_wp2_with fail
                          go_roundw
                          case rel => exact ⟨k + 1, by omega, by go_num, hr, trivial⟩
                          case measure => simp [intOf]; omega
                      · obtain rfl : k = D9.length := by omega
                        have hr := hid (e3.out (fun d hd => by
                          obtain ⟨j, hj⟩ := List.mem_iff_getElem?.1 hd
                          exact hall.out j d (List.getElem?_eq_some_iff.1 hj).1 hj))
                        clear hall
                        go_wp2_with fail
                        go_ret
                        exact ⟨ret_i hr.out.symm, hbw.out⟩
        · go_wp2_with fail
          have hu0 := hid (show true = true ↔ upTo 2 gy ⟨#[]⟩ 0 from ⟨fun _ => ⟨.inl rfl, fun j d hj => by omega⟩, fun _ => rfl⟩)
          clear y0 y1 y2
          go_loopw [6, 7, 8, 45] (fun gd _ _ i wr => ∃ (k : Nat) (b : Bool), k ≤ gy.length ∧ i = .int .i64 (k : Int) ∧ gd = .bool b ∧ Hid (b = true ↔ upTo 2 gy ⟨#[]⟩ k) ∧ Hid (Below w2.heap.size w2 wr)) (fun _ _ _ i _ => gy.length - (intOf i).toNat)
          case atStart => exact ⟨0, true, by omega, rfl, rfl, hu0, hid (Below.refl _ _)⟩
          case round =>
            obtain ⟨k, b, hk9, rfl, rfl, hu, hbr⟩ := hrel
            have hbk := hid (b_call hb2.out hbr.out)
            have hqr := stays hbr.out hq2.out
            have hkr := stays hbr.out hk2.out
            obtain ⟨x0, x1, x2, x3⟩ := box4f hqr
            obtain ⟨y0, y1, y2, -⟩ := box3f hkr
            by_cases hlt : k < gy.length
            · have hn : gy[k]? = some gy[k] := List.getElem?_eq_getElem hlt
              have hsd := hgs.out _ (List.getElem_mem hlt)
              generalize gy[k] = d at *
              obtain ⟨gb, go, rfl, hgl', he4, -⟩ := rt_at (hG.out.mono EStr.stable hbk.out) hn
              rw [Nat.mul_one] at he4
              have hk0 : (0 : Int) ≤ (k : Int) := by omega
              have hk1 : (k : Int) < (gy.length : Int) := by omega
              have hbad := hid (fun (h : ¬ pOk 2 gy k d) => (show false = true ↔ upTo 2 gy ⟨#[]⟩ (k + 1) from ⟨fun h => (by cases h), fun h2 => absurd h2 (upTo_bad hn h)⟩))
              cases b with
              | false =>
                have hr := hid (show false = true ↔ upTo 2 gy ⟨#[]⟩ (k + 1) from ⟨fun h => (by cases h), fun h2 => absurd h2 (upTo_no (fun h3 => (by have := hu.out.2 h3; cases this)))⟩)
                clear hn hbad hu
                go_wp2_with fail
                go_roundw
                case rel => exact ⟨k + 1, false, by omega, by go_num, rfl, hr, hbr⟩
                case measure => simp [intOf]; omega
              | true =>
                have hr := hid (hbad.out (fun h => by have := h.1; cases this))
                clear hn hbad hu
                go_wp2_with fail
                go_roundw
                case rel => exact ⟨k + 1, false, by omega, by go_num, rfl, hr, hbr⟩
                case measure => simp [intOf]; omega
            · obtain rfl : k = gy.length := by omega
              cases b with
              | false =>
                have hs := f3.out (fun h => by have := hu.out.2 h; cases this)
                have hr := hid (e2.out (by rw [hs]; decide))
                rw [hs] at hr
                clear e2 e3 e4 f0 f3 hu
                go_wp2_with fail
                go_ret
                exact ⟨ret_i hr.out.symm, hbk.out⟩
              | true =>
                have hs := f0.out (hu.out.1 rfl)
                replace e3 := hid (e3.out hs)
                replace e4 := hid (e4.out hs)
                clear e2 f0 f3 hu
                have hmu : mustD 2 bs es = allOf bs es := by unfold mustD; rw [if_neg (by decide), if_pos rfl]
                rw [hmu] at e3 e4
                have hal := hid (fun W (h : RBl W (.slice a bs.length c) bs) (g : RE W (.slice a2 es.length c2) es) => ref_ReachAllP _ _ bs es r t W h g (by have := hN.out; omega))
                unfold AllPost at hal
                clear hmu
                generalize allOf bs es = AL at *
                go_wp2_with fail
                ((with_reducible refine (hal.out _ (hR.out.mono EBlob.stable hbk.out) (hE.out.mono EEntry.stable hbk.out)).mono ?_); rintro e w6 ⟨v6, rfl, -, r6, -, b6⟩)
                have hq6 := stays b6 hqr
                have hk6 := stays b6 hkr
                have hb6 := b_call hbk.out b6
                clear b6 x0 x1 x2 x3 y0 y1 y2 hal hqr hkr hbk hbr

                have hlD : AL.length ≤ 140737488351232 := by have := rt_bound r6; omega
                have hRw := hid (hR.out.mono EBlob.stable hb6)
                have hGw := hid (hG.out.mono EStr.stable hb6)
                have hAt := hid (fun d => ref_BlobAt _ bs d w6 hRw.out)
                have hHo := hid (fun d => ref_holds _ gy d w6 hGw.out)
                obtain ⟨da, dc, rfl, -⟩ := id r6
                have hrD := hid r6
                have hbw := hid hb6
                have hqw := hid hq6
                have hkw := hid hk6
                obtain ⟨v0, v1, v2, -⟩ := box3f hkw.out
                go_wp2_with fail
                clear v0 v1 v2
                go_loopw [13, 14, 104] (fun _ _ i wx => ∃ k : Nat, k ≤ AL.length ∧ i = .int .i64 (k : Int) ∧ Hid (∀ j d, j < k → AL[j]? = some d → okAt bs gy d) ∧ wx = w6) (fun _ _ i _ => AL.length - (intOf i).toNat)
                case atStart => exact ⟨0, by omega, rfl, hid (fun j d hj => by omega), rfl⟩
                case round =>
                  obtain ⟨k, hk, rfl, hall, rfl⟩ := hrel
                  obtain ⟨x0, x1, x2, x3⟩ := box4f hqw.out
                  obtain ⟨y0, y1, y2, -⟩ := box3f hkw.out
                  by_cases hlt : k < AL.length
                  · have hn : AL[k]? = some AL[k] := List.getElem?_eq_getElem hlt
                    generalize AL[k] = d at *
                    obtain ⟨bq, oq, rfl, hbq, p0, -⟩ := rs_at hrD.out hn
                    rw [Nat.mul_one] at p0
                    have hbad := hid (fun (h : ¬ okAt bs gy d) => e4.out (fun h2 => h (h2 d (List.mem_of_getElem? hn))))
                    have hnx := hid (fun (h : okAt bs gy d) j y (hj : j < k + 1) (hy : AL[j]? = some y) => (show okAt bs gy y from by
                      by_cases e : j = k
                      · subst e
                        rw [hn] at hy
                        cases hy
                        exact h
                      · exact hall.out j y (by omega) hy))
                    have hA := hid (hAt.out d)
                    have hH := hid (hHo.out d)
                    have hk0 : (0 : Int) ≤ (k : Int) := by omega
                    have hk1 : (k : Int) < (AL.length : Int) := by omega
                    clear hn hall
                    by_cases hin : InB bs d
                    · have hx : bs[atKey (fun x : Blob => x.digest) d bs]? = some bs[atKey (fun x : Blob => x.digest) d bs] := List.getElem?_eq_getElem hin
                      have hil : atKey (fun x : Blob => x.digest) d bs < bs.length := hin
                      generalize hgx : bs[atKey (fun x : Blob => x.digest) d bs] = x at hx
                      clear hgx
                      have hok := hid (fun (h : x.mark = true ∨ d ∈ gy) => hnx.out (fun y hy => by rw [hx] at hy; cases hy; exact h))
                      have hno := hid (fun (h : ¬ (x.mark = true ∨ d ∈ gy)) => hbad.out (fun h2 => h (h2 x hx)))
                      clear hnx hbad
                      generalize atKey (fun x : Blob => x.digest) d bs = i at *
                      obtain ⟨bb, off, rfl, hbb, pv, b0, b1, b2', b3', -⟩ := rs_at hRw.out hx
                      have hi0 : (0 : Int) ≤ (i : Int) := by omega
                      have hi1 : (i : Int) < (bs.length : Int) := by omega
                      have hi2 : decide ((i : Int) < (bs.length : Int)) = true := decide_eq_true hi1
                      cases hm : x.mark with
                      | true =>
                        have hr := hid (hok.out (.inl hm))
                        rw [hm] at b3'
                        clear hok hno
                        go_wp2_with fail
                        ((with_reducible refine hA.out.mono ?_); rintro e w7 ⟨rfl, rfl⟩)
                        go_wp2_with fail
                        go_roundw
                        case rel => exact ⟨k + 1, by omega, by go_num, hr, trivial⟩
                        case measure => simp [intOf]; omega
                      | false =>
                        rw [hm] at b3'
                        cases hi : isIn d gy with
                        | true =>
                          have hr := hid (hok.out (.inr (isIn_iff.1 hi)))
                          rw [hi] at hH
                          clear hok hno
                          go_wp2_with fail
                          ((with_reducible refine hA.out.mono ?_); rintro e w7 ⟨rfl, rfl⟩)
                          go_wp2_with fail
                          ((with_reducible refine hH.out.mono ?_); rintro e w7 ⟨rfl, rfl⟩)
                          go_wp2_with fail
                          go_roundw
                          case rel => exact ⟨k + 1, by omega, by go_num, hr, trivial⟩
                          case measure => simp [intOf]; omega
                        | false =>
                          have hr := hid (hno.out (fun h => h.elim (fun h => by rw [hm] at h; cases h) (isIn_not.1 hi)))
                          rw [hi] at hH
                          clear hok hno
                          go_wp2_with fail
                          ((with_reducible refine hA.out.mono ?_); rintro e w7 ⟨rfl, rfl⟩)
                          go_wp2_with fail
                          ((with_reducible refine hH.out.mono ?_); rintro e w7 ⟨rfl, rfl⟩)
                          go_wp2_with fail
                          go_ret
                          exact ⟨ret_i hr.out.symm, hbw.out⟩
                    · have hr := hid (hnx.out (fun y hy => absurd (inB_some.2 ⟨y, hy⟩) hin))
                      have hi1 : ¬ (atKey (fun x : Blob => x.digest) d bs : Int) < (bs.length : Int) := by unfold InB at hin; omega
                      have hi2 : decide ((atKey (fun x : Blob => x.digest) d bs : Int) < (bs.length : Int)) = false := decide_eq_false hi1
                      have hi3 : decide (atKey (fun x : Blob => x.digest) d bs < bs.length) = false := decide_eq_false (by unfold InB at hin; omega)
                      generalize atKey (fun x : Blob => x.digest) d bs = i at *
                      clear hnx hbad hin
                      go_wp2_with fail
                      ((with_reducible refine hA.out.mono ?_); rintro e w7 ⟨rfl, rfl⟩)
                      go_wp2_with fail
                      go_roundw
                      case rel => exact ⟨k + 1, by omega, by go_num, hr, trivial⟩
                      case measure => simp [intOf]; omega
                  · obtain rfl : k = AL.length := by omega
                    have hr := hid (e3.out (fun d hd => by
                      obtain ⟨j, hj⟩ := List.mem_iff_getElem?.1 hd
                      exact hall.out j d (List.getElem?_eq_some_iff.1 hj).1 hj))
                    clear hall
                    go_wp2_with fail
                    go_ret
                    exact ⟨ret_i hr.out.symm, hbw.out⟩
      · obtain ⟨t1, t2⟩ := str_full hpe
        rcases hp3 with rfl | rfl | rfl
        · go_wp2_with fail
          have hu0 := hid (show false = true ↔ upTo 0 gy pl 0 from ⟨fun h => (by cases h), fun h => absurd h (fun h => h.1.elim hpe (fun h => (by cases h.1)))⟩)
          clear y0 y1 y2
          go_loopw [6, 7, 8, 45] (fun gd _ _ i wr => ∃ (k : Nat) (b : Bool), k ≤ gy.length ∧ i = .int .i64 (k : Int) ∧ gd = .bool b ∧ Hid (b = true ↔ upTo 0 gy pl k) ∧ Hid (Below w2.heap.size w2 wr)) (fun _ _ _ i _ => gy.length - (intOf i).toNat)
          case atStart => exact ⟨0, false, by omega, rfl, rfl, hu0, hid (Below.refl _ _)⟩
          case round =>
            obtain ⟨k, b, hk9, rfl, rfl, hu, hbr⟩ := hrel
            have hbk := hid (b_call hb2.out hbr.out)
            have hqr := stays hbr.out hq2.out
            have hkr := stays hbr.out hk2.out
            obtain ⟨x0, x1, x2, x3⟩ := box4f hqr
            obtain ⟨y0, y1, y2, -⟩ := box3f hkr
            by_cases hlt : k < gy.length
            · have hn : gy[k]? = some gy[k] := List.getElem?_eq_getElem hlt
              have hsd := hgs.out _ (List.getElem_mem hlt)
              generalize gy[k] = d at *
              obtain ⟨gb, go, rfl, hgl', he4, -⟩ := rt_at (hG.out.mono EStr.stable hbk.out) hn
              rw [Nat.mul_one] at he4
              have hk0 : (0 : Int) ≤ (k : Int) := by omega
              have hk1 : (k : Int) < (gy.length : Int) := by omega
              have hbad := hid (fun (h : ¬ pOk 0 gy k d) => (show false = true ↔ upTo 0 gy pl (k + 1) from ⟨fun h => (by cases h), fun h2 => absurd h2 (upTo_bad hn h)⟩))
              cases b with
              | false =>
                have hr := hid (show false = true ↔ upTo 0 gy pl (k + 1) from ⟨fun h => (by cases h), fun h2 => absurd h2 (upTo_no (fun h3 => (by have := hu.out.2 h3; cases this)))⟩)
                clear hn hbad hu
                go_wp2_with fail
                go_roundw
                case rel => exact ⟨k + 1, false, by omega, by go_num, rfl, hr, hbr⟩
                case measure => simp [intOf]; omega
              | true =>
                have hr := hid (hbad.out (fun h => by have := h.1; cases this))
                clear hn hbad hu
                go_wp2_with fail
                go_roundw
                case rel => exact ⟨k + 1, false, by omega, by go_num, rfl, hr, hbr⟩
                case measure => simp [intOf]; omega
            · obtain rfl : k = gy.length := by omega
              cases b with
              | false =>
                have hs := f3.out (fun h => by have := hu.out.2 h; cases this)
                have hr := hid (e2.out (by rw [hs]; decide))
                rw [hs] at hr
                clear e2 e3 e4 f0 f3 hu
                go_wp2_with fail
                go_ret
                exact ⟨ret_i hr.out.symm, hbk.out⟩
              | true =>
                exact absurd (hu.out.1 rfl) (fun h => h.1.elim hpe (fun h => (by cases h.1)))
        · go_wp2_with fail
          have hu0 := hid (show false = true ↔ upTo 1 gy pl 0 from ⟨fun h => (by cases h), fun h => absurd h (fun h => h.1.elim hpe (fun h => (by cases h.1)))⟩)
          clear y0 y1 y2
          go_loopw [6, 7, 8, 45] (fun gd _ _ i wr => ∃ (k : Nat) (b : Bool), k ≤ gy.length ∧ i = .int .i64 (k : Int) ∧ gd = .bool b ∧ Hid (b = true ↔ upTo 1 gy pl k) ∧ Hid (Below w2.heap.size w2 wr)) (fun _ _ _ i _ => gy.length - (intOf i).toNat)
          case atStart => exact ⟨0, false, by omega, rfl, rfl, hu0, hid (Below.refl _ _)⟩
          case round =>
            obtain ⟨k, b, hk9, rfl, rfl, hu, hbr⟩ := hrel
            have hbk := hid (b_call hb2.out hbr.out)
            have hqr := stays hbr.out hq2.out
            have hkr := stays hbr.out hk2.out
            obtain ⟨x0, x1, x2, x3⟩ := box4f hqr
            obtain ⟨y0, y1, y2, -⟩ := box3f hkr
            by_cases hlt : k < gy.length
            · have hn : gy[k]? = some gy[k] := List.getElem?_eq_getElem hlt
              have hsd := hgs.out _ (List.getElem_mem hlt)
              generalize gy[k] = d at *
              obtain ⟨gb, go, rfl, hgl', he4, -⟩ := rt_at (hG.out.mono EStr.stable hbk.out) hn
              rw [Nat.mul_one] at he4
              have hk0 : (0 : Int) ≤ (k : Int) := by omega
              have hk1 : (k : Int) < (gy.length : Int) := by omega
              have hbad := hid (fun (h : ¬ pOk 1 gy k d) => (show false = true ↔ upTo 1 gy pl (k + 1) from ⟨fun h => (by cases h), fun h2 => absurd h2 (upTo_bad hn h)⟩))
              cases b with
              | false =>
                have hr := hid (show false = true ↔ upTo 1 gy pl (k + 1) from ⟨fun h => (by cases h), fun h2 => absurd h2 (upTo_no (fun h3 => (by have := hu.out.2 h3; cases this)))⟩)
                clear hn hbad hu
                go_wp2_with fail
                go_roundw
                case rel => exact ⟨k + 1, false, by omega, by go_num, rfl, hr, hbr⟩
                case measure => simp [intOf]; omega
              | true =>
                have hgood := hid (fun (h : pOk 1 gy k d) => (upTo_ok hn (hu.out.1 rfl) h : upTo 1 gy pl (k + 1)))
                have hxd := hid (ref_HexFault_any d wr hsd)
                generalize hhd : hexFault d = hd at hxd
                replace hhd := hid hhd
                by_cases hz9 : hd = 0
                · subst hz9
                  by_cases hkz : k = 0
                  · subst hkz
                    have hr := hid (hgood.out ⟨rfl, hhd.out, fun p hp => by omega⟩)
                    rw [Nat.add_zero] at he4
                    clear hn hbad hgood hu
                    go_wp2_with fail
                    ((with_reducible refine hxd.out.mono ?_); rintro e w5 ⟨rfl, b5⟩)
                    have hb5 := hid (hbr.out.trans (b5.mono hbr.out.size))
                    clear b5 hxd he4
                    go_wp2_with fail
                    go_roundw
                    case rel => exact ⟨0 + 1, true, by omega, by go_num, rfl, hid ⟨fun _ => hr.out, fun _ => rfl⟩, hb5⟩
                    case measure => simp [intOf]; omega
                  · obtain ⟨m, rfl⟩ : ∃ m, k = m + 1 := ⟨k - 1, by omega⟩
                    have hp : gy[m]? = some gy[m] := List.getElem?_eq_getElem (by omega)
                    generalize gy[m] = p at hp
                    obtain ⟨gb', go', hab, -, he5, -⟩ := rt_at (hG.out.mono EStr.stable hbk.out) hp
                    simp only [Option.some.injEq, Addr.mk.injEq, and_true] at hab
                    obtain ⟨rfl, rfl⟩ := hab
                    rw [Nat.mul_one] at he5
                    clear hre hlc hcm hNN hb24 hsz hgb hkz
                    obtain ⟨hw2, hw1, hm0, hm1, hg0, hg1⟩ := small_wrap hlt hgl
                    have hb5 := hid (fun (h : slt p d = false) => hbad.out (fun h2 => by have := h2.2.2 p (Nat.succ_pos m) (by simpa using hp); rw [h] at this; cases this))
                    have hn5 := hid (fun (h : slt p d = true) => hgood.out ⟨rfl, hhd.out, fun p' _ hp' => by rw [Nat.add_sub_cancel, hp] at hp'; cases hp'; exact h⟩)
                    rcases sle_atoms d p with ⟨a1, a2⟩ | ⟨a1, rfl, a2⟩ | ⟨a1, a2, a3⟩
                    · have hr := hid (hb5.out a2)
                      clear hn hbad hgood hu hb5 hn5 a2 hp
                      go_wp2_with fail
                      ((with_reducible refine hxd.out.mono ?_); rintro e w5 ⟨rfl, b5⟩)
                      have hk5 := stays b5 hkr
                      clear y0 y1 y2
                      obtain ⟨y0, y1, y2, -⟩ := box3f hk5
                      have he6 := cell_stays b5 hgl' he5
                      have hb5 := hid (hbr.out.trans (b5.mono hbr.out.size))
                      clear b5 hxd he4 he5
                      go_wp2_with fail
                      go_roundw
                      case rel => exact ⟨m + 1 + 1, false, by omega, by go_num, rfl, hr, hb5⟩
                      case measure => simp [intOf]; omega
                    · have hr := hid (hb5.out a2)
                      clear hn hbad hgood hu hb5 hn5 a2 hp
                      go_wp2_with fail
                      ((with_reducible refine hxd.out.mono ?_); rintro e w5 ⟨rfl, b5⟩)
                      have hk5 := stays b5 hkr
                      clear y0 y1 y2
                      obtain ⟨y0, y1, y2, -⟩ := box3f hk5
                      have he6 := cell_stays b5 hgl' he5
                      have hb5 := hid (hbr.out.trans (b5.mono hbr.out.size))
                      clear b5 hxd he4 he5
                      go_wp2_with fail
                      go_roundw
                      case rel => exact ⟨m + 1 + 1, false, by omega, by go_num, rfl, hr, hb5⟩
                      case measure => simp [intOf]; omega
                    · have hr := hid (hn5.out a3)
                      clear hn hbad hgood hu hb5 hn5 a3 hp
                      go_wp2_with fail
                      ((with_reducible refine hxd.out.mono ?_); rintro e w5 ⟨rfl, b5⟩)
                      have hk5 := stays b5 hkr
                      clear y0 y1 y2
                      obtain ⟨y0, y1, y2, -⟩ := box3f hk5
                      have he6 := cell_stays b5 hgl' he5
                      have hb5 := hid (hbr.out.trans (b5.mono hbr.out.size))
                      clear b5 hxd he4 he5
                      go_wp2_with fail
                      go_roundw
                      case rel => exact ⟨m + 1 + 1, true, by omega, by go_num, rfl, hid ⟨fun _ => hr.out, fun _ => rfl⟩, hb5⟩
                      case measure => simp [intOf]; omega
                · have hr := hid (hbad.out (fun h => hz9 (hhd.out.symm.trans h.2.1)))
                  have hz' : (hd == 0) = false := beq_eq_false_iff_ne.2 hz9
                  clear hn hbad hgood hu
                  go_wp2_with fail
                  ((with_reducible refine hxd.out.mono ?_); rintro e w5 ⟨rfl, b5⟩)
                  have hb5 := hid (hbr.out.trans (b5.mono hbr.out.size))
                  clear b5 hxd he4
                  go_wp2_with fail
                  go_roundw
                  case rel => exact ⟨k + 1, false, by omega, by go_num, rfl, hr, hb5⟩
                  case measure => simp [intOf]; omega
            · obtain rfl : k = gy.length := by omega
              cases b with
              | false =>
                have hs := f3.out (fun h => by have := hu.out.2 h; cases this)
                have hr := hid (e2.out (by rw [hs]; decide))
                rw [hs] at hr
                clear e2 e3 e4 f0 f3 hu
                go_wp2_with fail
                go_ret
                exact ⟨ret_i hr.out.symm, hbk.out⟩
              | true =>
                exact absurd (hu.out.1 rfl) (fun h => h.1.elim hpe (fun h => (by cases h.1)))
        · by_cases h0 : hz = 0
          · subst h0
            go_wp2_with fail
            ((with_reducible refine (hx.out _).mono ?_); rintro e w3 ⟨rfl, b3⟩)
            have hq3 := hid (stays b3 hq2.out)
            have hk3 := hid (stays b3 hk2.out)
            have hb3 := hid (b_call hb2.out b3)
            clear b3 y0 y1 y2 hq2 hk2 hb2
            obtain ⟨y0, y1, y2, -⟩ := box3f hk3.out
            go_wp2_with fail
            have hu0 := hid (show true = true ↔ upTo 2 gy pl 0 from ⟨fun _ => ⟨.inr ⟨rfl, hzx.out⟩, fun j d hj => by omega⟩, fun _ => rfl⟩)
            clear y0 y1 y2
            go_loopw [6, 7, 8, 45] (fun gd _ _ i wr => ∃ (k : Nat) (b : Bool), k ≤ gy.length ∧ i = .int .i64 (k : Int) ∧ gd = .bool b ∧ Hid (b = true ↔ upTo 2 gy pl k) ∧ Hid (Below w3.heap.size w3 wr)) (fun _ _ _ i _ => gy.length - (intOf i).toNat)
            case atStart => exact ⟨0, true, by omega, rfl, rfl, hu0, hid (Below.refl _ _)⟩
            case round =>
              obtain ⟨k, b, hk9, rfl, rfl, hu, hbr⟩ := hrel
              have hbk := hid (b_call hb3.out hbr.out)
              have hqr := stays hbr.out hq3.out
              have hkr := stays hbr.out hk3.out
              obtain ⟨x0, x1, x2, x3⟩ := box4f hqr
              obtain ⟨y0, y1, y2, -⟩ := box3f hkr
              by_cases hlt : k < gy.length
              · have hn : gy[k]? = some gy[k] := List.getElem?_eq_getElem hlt
                have hsd := hgs.out _ (List.getElem_mem hlt)
                generalize gy[k] = d at *
                obtain ⟨gb, go, rfl, hgl', he4, -⟩ := rt_at (hG.out.mono EStr.stable hbk.out) hn
                rw [Nat.mul_one] at he4
                have hk0 : (0 : Int) ≤ (k : Int) := by omega
                have hk1 : (k : Int) < (gy.length : Int) := by omega
                have hbad := hid (fun (h : ¬ pOk 2 gy k d) => (show false = true ↔ upTo 2 gy pl (k + 1) from ⟨fun h => (by cases h), fun h2 => absurd h2 (upTo_bad hn h)⟩))
                cases b with
                | false =>
                  have hr := hid (show false = true ↔ upTo 2 gy pl (k + 1) from ⟨fun h => (by cases h), fun h2 => absurd h2 (upTo_no (fun h3 => (by have := hu.out.2 h3; cases this)))⟩)
                  clear hn hbad hu
                  go_wp2_with fail
                  go_roundw
                  case rel => exact ⟨k + 1, false, by omega, by go_num, rfl, hr, hbr⟩
                  case measure => simp [intOf]; omega
                | true =>
                  have hr := hid (hbad.out (fun h => by have := h.1; cases this))
                  clear hn hbad hu
                  go_wp2_with fail
                  go_roundw
                  case rel => exact ⟨k + 1, false, by omega, by go_num, rfl, hr, hbr⟩
                  case measure => simp [intOf]; omega
              · obtain rfl : k = gy.length := by omega
                cases b with
                | false =>
                  have hs := f3.out (fun h => by have := hu.out.2 h; cases this)
                  have hr := hid (e2.out (by rw [hs]; decide))
                  rw [hs] at hr
                  clear e2 e3 e4 f0 f3 hu
                  go_wp2_with fail
                  go_ret
                  exact ⟨ret_i hr.out.symm, hbk.out⟩
                | true =>
                  have hs := f0.out (hu.out.1 rfl)
                  replace e3 := hid (e3.out hs)
                  replace e4 := hid (e4.out hs)
                  clear e2 f0 f3 hu
                  have hmu : mustD 2 bs es = allOf bs es := by unfold mustD; rw [if_neg (by decide), if_pos rfl]
                  rw [hmu] at e3 e4
                  have hal := hid (fun W (h : RBl W (.slice a bs.length c) bs) (g : RE W (.slice a2 es.length c2) es) => ref_ReachAllP _ _ bs es r t W h g (by have := hN.out; omega))
                  unfold AllPost at hal
                  clear hmu
                  generalize allOf bs es = AL at *
                  go_wp2_with fail
                  ((with_reducible refine (hal.out _ (hR.out.mono EBlob.stable hbk.out) (hE.out.mono EEntry.stable hbk.out)).mono ?_); rintro e w6 ⟨v6, rfl, -, r6, -, b6⟩)
                  have hq6 := stays b6 hqr
                  have hk6 := stays b6 hkr
                  have hb6 := b_call hbk.out b6
                  clear b6 x0 x1 x2 x3 y0 y1 y2 hal hqr hkr hbk hbr

                  have hlD : AL.length ≤ 140737488351232 := by have := rt_bound r6; omega
                  have hRw := hid (hR.out.mono EBlob.stable hb6)
                  have hGw := hid (hG.out.mono EStr.stable hb6)
                  have hAt := hid (fun d => ref_BlobAt _ bs d w6 hRw.out)
                  have hHo := hid (fun d => ref_holds _ gy d w6 hGw.out)
                  obtain ⟨da, dc, rfl, -⟩ := id r6
                  have hrD := hid r6
                  have hbw := hid hb6
                  have hqw := hid hq6
                  have hkw := hid hk6
                  obtain ⟨v0, v1, v2, -⟩ := box3f hkw.out
                  go_wp2_with fail
                  clear v0 v1 v2
                  go_loopw [13, 14, 104] (fun _ _ i wx => ∃ k : Nat, k ≤ AL.length ∧ i = .int .i64 (k : Int) ∧ Hid (∀ j d, j < k → AL[j]? = some d → okAt bs gy d) ∧ wx = w6) (fun _ _ i _ => AL.length - (intOf i).toNat)
                  case atStart => exact ⟨0, by omega, rfl, hid (fun j d hj => by omega), rfl⟩
                  case round =>
                    obtain ⟨k, hk, rfl, hall, rfl⟩ := hrel
                    obtain ⟨x0, x1, x2, x3⟩ := box4f hqw.out
                    obtain ⟨y0, y1, y2, -⟩ := box3f hkw.out
                    by_cases hlt : k < AL.length
                    · have hn : AL[k]? = some AL[k] := List.getElem?_eq_getElem hlt
                      generalize AL[k] = d at *
                      obtain ⟨bq, oq, rfl, hbq, p0, -⟩ := rs_at hrD.out hn
                      rw [Nat.mul_one] at p0
                      have hbad := hid (fun (h : ¬ okAt bs gy d) => e4.out (fun h2 => h (h2 d (List.mem_of_getElem? hn))))
                      have hnx := hid (fun (h : okAt bs gy d) j y (hj : j < k + 1) (hy : AL[j]? = some y) => (show okAt bs gy y from by
                        by_cases e : j = k
                        · subst e
                          rw [hn] at hy
                          cases hy
                          exact h
                        · exact hall.out j y (by omega) hy))
                      have hA := hid (hAt.out d)
                      have hH := hid (hHo.out d)
                      have hk0 : (0 : Int) ≤ (k : Int) := by omega
                      have hk1 : (k : Int) < (AL.length : Int) := by omega
                      clear hn hall
                      by_cases hin : InB bs d
                      · have hx : bs[atKey (fun x : Blob => x.digest) d bs]? = some bs[atKey (fun x : Blob => x.digest) d bs] := List.getElem?_eq_getElem hin
                        have hil : atKey (fun x : Blob => x.digest) d bs < bs.length := hin
                        generalize hgx : bs[atKey (fun x : Blob => x.digest) d bs] = x at hx
                        clear hgx
                        have hok := hid (fun (h : x.mark = true ∨ d ∈ gy) => hnx.out (fun y hy => by rw [hx] at hy; cases hy; exact h))
                        have hno := hid (fun (h : ¬ (x.mark = true ∨ d ∈ gy)) => hbad.out (fun h2 => h (h2 x hx)))
                        clear hnx hbad
                        generalize atKey (fun x : Blob => x.digest) d bs = i at *
                        obtain ⟨bb, off, rfl, hbb, pv, b0, b1, b2', b3', -⟩ := rs_at hRw.out hx
                        have hi0 : (0 : Int) ≤ (i : Int) := by omega
                        have hi1 : (i : Int) < (bs.length : Int) := by omega
                        have hi2 : decide ((i : Int) < (bs.length : Int)) = true := decide_eq_true hi1
                        cases hm : x.mark with
                        | true =>
                          have hr := hid (hok.out (.inl hm))
                          rw [hm] at b3'
                          clear hok hno
                          go_wp2_with fail
                          ((with_reducible refine hA.out.mono ?_); rintro e w7 ⟨rfl, rfl⟩)
                          go_wp2_with fail
                          go_roundw
                          case rel => exact ⟨k + 1, by omega, by go_num, hr, trivial⟩
                          case measure => simp [intOf]; omega
                        | false =>
                          rw [hm] at b3'
                          cases hi : isIn d gy with
                          | true =>
                            have hr := hid (hok.out (.inr (isIn_iff.1 hi)))
                            rw [hi] at hH
                            clear hok hno
                            go_wp2_with fail
                            ((with_reducible refine hA.out.mono ?_); rintro e w7 ⟨rfl, rfl⟩)
                            go_wp2_with fail
                            ((with_reducible refine hH.out.mono ?_); rintro e w7 ⟨rfl, rfl⟩)
                            go_wp2_with fail
                            go_roundw
                            case rel => exact ⟨k + 1, by omega, by go_num, hr, trivial⟩
                            case measure => simp [intOf]; omega
                          | false =>
                            have hr := hid (hno.out (fun h => h.elim (fun h => by rw [hm] at h; cases h) (isIn_not.1 hi)))
                            rw [hi] at hH
                            clear hok hno
                            go_wp2_with fail
                            ((with_reducible refine hA.out.mono ?_); rintro e w7 ⟨rfl, rfl⟩)
                            go_wp2_with fail
                            ((with_reducible refine hH.out.mono ?_); rintro e w7 ⟨rfl, rfl⟩)
                            go_wp2_with fail
                            go_ret
                            exact ⟨ret_i hr.out.symm, hbw.out⟩
                      · have hr := hid (hnx.out (fun y hy => absurd (inB_some.2 ⟨y, hy⟩) hin))
                        have hi1 : ¬ (atKey (fun x : Blob => x.digest) d bs : Int) < (bs.length : Int) := by unfold InB at hin; omega
                        have hi2 : decide ((atKey (fun x : Blob => x.digest) d bs : Int) < (bs.length : Int)) = false := decide_eq_false hi1
                        have hi3 : decide (atKey (fun x : Blob => x.digest) d bs < bs.length) = false := decide_eq_false (by unfold InB at hin; omega)
                        generalize atKey (fun x : Blob => x.digest) d bs = i at *
                        clear hnx hbad hin
                        go_wp2_with fail
                        ((with_reducible refine hA.out.mono ?_); rintro e w7 ⟨rfl, rfl⟩)
                        go_wp2_with fail
                        go_roundw
                        case rel => exact ⟨k + 1, by omega, by go_num, hr, trivial⟩
                        case measure => simp [intOf]; omega
                    · obtain rfl : k = AL.length := by omega
                      have hr := hid (e3.out (fun d hd => by
                        obtain ⟨j, hj⟩ := List.mem_iff_getElem?.1 hd
                        exact hall.out j d (List.getElem?_eq_some_iff.1 hj).1 hj))
                      clear hall
                      go_wp2_with fail
                      go_ret
                      exact ⟨ret_i hr.out.symm, hbw.out⟩
          · have h0' : (hz != 0) = true := by simp [h0]
            have h0'' : (hz == 0) = false := by simp [h0]
            go_wp2_with fail
            ((with_reducible refine (hx.out _).mono ?_); rintro e w3 ⟨rfl, b3⟩)
            have hq3 := hid (stays b3 hq2.out)
            have hk3 := hid (stays b3 hk2.out)
            have hb3 := hid (b_call hb2.out b3)
            clear b3 y0 y1 y2 hq2 hk2 hb2
            obtain ⟨y0, y1, y2, -⟩ := box3f hk3.out
            go_wp2_with fail
            have hu0 := hid (show false = true ↔ upTo 2 gy pl 0 from ⟨fun h => (by cases h), fun h => absurd h (fun h => h.1.elim hpe (fun h => h0 (hzx.out.symm.trans h.2)))⟩)
            clear y0 y1 y2
            go_loopw [6, 7, 8, 45] (fun gd _ _ i wr => ∃ (k : Nat) (b : Bool), k ≤ gy.length ∧ i = .int .i64 (k : Int) ∧ gd = .bool b ∧ Hid (b = true ↔ upTo 2 gy pl k) ∧ Hid (Below w3.heap.size w3 wr)) (fun _ _ _ i _ => gy.length - (intOf i).toNat)
            case atStart => exact ⟨0, false, by omega, rfl, rfl, hu0, hid (Below.refl _ _)⟩
            case round =>
              obtain ⟨k, b, hk9, rfl, rfl, hu, hbr⟩ := hrel
              have hbk := hid (b_call hb3.out hbr.out)
              have hqr := stays hbr.out hq3.out
              have hkr := stays hbr.out hk3.out
              obtain ⟨x0, x1, x2, x3⟩ := box4f hqr
              obtain ⟨y0, y1, y2, -⟩ := box3f hkr
              by_cases hlt : k < gy.length
              · have hn : gy[k]? = some gy[k] := List.getElem?_eq_getElem hlt
                have hsd := hgs.out _ (List.getElem_mem hlt)
                generalize gy[k] = d at *
                obtain ⟨gb, go, rfl, hgl', he4, -⟩ := rt_at (hG.out.mono EStr.stable hbk.out) hn
                rw [Nat.mul_one] at he4
                have hk0 : (0 : Int) ≤ (k : Int) := by omega
                have hk1 : (k : Int) < (gy.length : Int) := by omega
                have hbad := hid (fun (h : ¬ pOk 2 gy k d) => (show false = true ↔ upTo 2 gy pl (k + 1) from ⟨fun h => (by cases h), fun h2 => absurd h2 (upTo_bad hn h)⟩))
                cases b with
                | false =>
                  have hr := hid (show false = true ↔ upTo 2 gy pl (k + 1) from ⟨fun h => (by cases h), fun h2 => absurd h2 (upTo_no (fun h3 => (by have := hu.out.2 h3; cases this)))⟩)
                  clear hn hbad hu
                  go_wp2_with fail
                  go_roundw
                  case rel => exact ⟨k + 1, false, by omega, by go_num, rfl, hr, hbr⟩
                  case measure => simp [intOf]; omega
                | true =>
                  have hr := hid (hbad.out (fun h => by have := h.1; cases this))
                  clear hn hbad hu
                  go_wp2_with fail
                  go_roundw
                  case rel => exact ⟨k + 1, false, by omega, by go_num, rfl, hr, hbr⟩
                  case measure => simp [intOf]; omega
              · obtain rfl : k = gy.length := by omega
                cases b with
                | false =>
                  have hs := f3.out (fun h => by have := hu.out.2 h; cases this)
                  have hr := hid (e2.out (by rw [hs]; decide))
                  rw [hs] at hr
                  clear e2 e3 e4 f0 f3 hu
                  go_wp2_with fail
                  go_ret
                  exact ⟨ret_i hr.out.symm, hbk.out⟩
                | true =>
                  exact absurd (hu.out.1 rfl) (fun h => h.1.elim hpe (fun h => h0 (hzx.out.symm.trans h.2)))
  · have ht : (z != 0) = true := by simp [hz0']
    have hd := hid (e1.out hz0')
    replace hz0' := hid hz0'
    clear e1 e2 e3 e4 s1 s2 s3 hN hb24 hch
    go_wp2_with fail
    go_ret
    exact ⟨ret_i hd.out.symm, hb2.out⟩
end Go.Proofs.YtojebioolflbkaaGreat

namespace Go.Proofs.YtojebioolflbkaaGreat
open Go.RowKit

noncomputable def collF (bs : List Blob) (es : List Entry) (r t ph : Int) (gy : List ByteArray) (pl : ByteArray) : Int := collE (storeFault bs es r t) (shapeE ph gy pl) ph bs es gy
theorem collect_Check (v u gv : Value) (bs : List Blob) (es : List Entry) (r t ph : Int) (pl : ByteArray) (gy : List ByteArray) (w : World) (h : RBl w v bs) (g : RE w u es) (hg : RT w gv gy) (hpl : pl.size ≤ 140737488351232) (hgl : gy.length ≤ 8388608) :
    Calls Tryz.prog 24 #[.agg #[v, u, .int .i64 r, .int .i64 t], .agg #[.int .i64 ph, gv, .string pl]] w fun e w' => e = .returned (.int .i64 (collF bs es r t ph gy pl)) ∧ Below w.heap.size w w' :=
  collect_Check' v u gv bs es r t ph pl gy w h g hg hpl hgl _ (fun w h g => store_Check v u bs es r t w h g) (fun hz => (store_small hz).2.2) (fun hz => rising_blobs' (store_zero hz).1) (fun hz => (store_small hz).1)
theorem ref_CollectFault (v u gv : Value) (bs : List Blob) (es : List Entry) (r t ph : Int) (pl : ByteArray) (gy : List ByteArray) (w : World) (h : RBl w v bs) (g : RE w u es) (hg : RT w gv gy) (hpl : pl.size ≤ 140737488351232) (hgl : gy.length ≤ 8388608) :
    Calls Tryz.prog 25 #[.agg #[v, u, .int .i64 r, .int .i64 t], .agg #[.int .i64 ph, gv, .string pl]] w fun e w' => e = .returned (.int .i64 (collF bs es r t ph gy pl)) ∧ Below w.heap.size w w' :=
  ref_CollectFault' v u gv bs es r t ph pl gy w h g hg hpl hgl _ (fun w h g => ref_StoreFault v u bs es r t w h g) (fun hz => (store_small hz).2.2) (fun hz => (store_small hz).1)

set_option maxRecDepth 100000 in
set_option maxHeartbeats 2000000 in
theorem CollectChecks_walk' (v u gv : Value) (bs : List Blob) (es : List Entry) (r t ph : Int) (pl : ByteArray) (gy : List ByteArray) (w : World) (h : RBl w v bs) (g : RE w u es) (hg : RT w gv gy) (hpl : pl.size ≤ 140737488351232) (hgl : gy.length ≤ 8388608) :
    Calls Tryz.prog 7 #[.agg #[v, u, .int .i64 r, .int .i64 t], .agg #[.int .i64 ph, gv, .string pl]] w fun e w' => e = .returned (.bool true) ∧ Below w.heap.size w w' := by
  have f1 := hid fun w (h : RBl w v bs) (g : RE w u es) (hg : RT w gv gy) => collect_Check v u gv bs es r t ph pl gy w h g hg hpl hgl
  have f2 := hid fun w (h : RBl w v bs) (g : RE w u es) (hg : RT w gv gy) => ref_CollectFault v u gv bs es r t ph pl gy w h g hg hpl hgl
  have hR := hid h
  have hE := hid g
  have hG := hid hg
  obtain ⟨a, c, rfl, -⟩ := h
  obtain ⟨a2, c2, rfl, -⟩ := g
  obtain ⟨ga, gc, rfl, -⟩ := hg
  generalize collF bs es r t ph gy pl = z at *
  go_enter Tryz.func7, Tryz.ntmps7
  go_wp2_with fail
  ((with_reducible refine (f1.out _ (hR.out.mono EBlob.stable (b_alloc (b_alloc (Below.refl w.heap.size w) (Obj.cells #[.slice a bs.length c, .slice a2 es.length c2, .int .i64 r, .int .i64 t] 25)) (Obj.cells #[.int .i64 ph, .slice ga gy.length gc, .string pl] 28))) (hE.out.mono EEntry.stable (b_alloc (b_alloc (Below.refl w.heap.size w) (Obj.cells #[.slice a bs.length c, .slice a2 es.length c2, .int .i64 r, .int .i64 t] 25)) (Obj.cells #[.int .i64 ph, .slice ga gy.length gc, .string pl] 28))) (hG.out.mono EStr.stable (b_alloc (b_alloc (Below.refl w.heap.size w) (Obj.cells #[.slice a bs.length c, .slice a2 es.length c2, .int .i64 r, .int .i64 t] 25)) (Obj.cells #[.int .i64 ph, .slice ga gy.length gc, .string pl] 28)))).mono ?_); rintro e1 w1 ⟨rfl, b1⟩)
  have hq_q_1 := hid (stays b1 ((heap_alloc_old (w.alloc (Obj.cells #[.slice a bs.length c, .slice a2 es.length c2, .int .i64 r, .int .i64 t] 25)) (Obj.cells #[.int .i64 ph, .slice ga gy.length gc, .string pl] 28) (heap_lt (heap_put w (Obj.cells #[.slice a bs.length c, .slice a2 es.length c2, .int .i64 r, .int .i64 t] 25) (w.heap.size) (by simp)))).trans (heap_put w (Obj.cells #[.slice a bs.length c, .slice a2 es.length c2, .int .i64 r, .int .i64 t] 25) (w.heap.size) (by simp))))
  have hq_k_1 := hid (stays b1 (heap_put (w.alloc (Obj.cells #[.slice a bs.length c, .slice a2 es.length c2, .int .i64 r, .int .i64 t] 25)) (Obj.cells #[.int .i64 ph, .slice ga gy.length gc, .string pl] 28) (w.heap.size + 1) (by simp)))
  have hb1 := hid (b_call (b_alloc (b_alloc (Below.refl w.heap.size w) (Obj.cells #[.slice a bs.length c, .slice a2 es.length c2, .int .i64 r, .int .i64 t] 25)) (Obj.cells #[.int .i64 ph, .slice ga gy.length gc, .string pl] 28)) b1)
  have r_R_1 := hid (hR.out.mono EBlob.stable (b_call (b_alloc (b_alloc (Below.refl w.heap.size w) (Obj.cells #[.slice a bs.length c, .slice a2 es.length c2, .int .i64 r, .int .i64 t] 25)) (Obj.cells #[.int .i64 ph, .slice ga gy.length gc, .string pl] 28)) b1))
  have r_E_1 := hid (hE.out.mono EEntry.stable (b_call (b_alloc (b_alloc (Below.refl w.heap.size w) (Obj.cells #[.slice a bs.length c, .slice a2 es.length c2, .int .i64 r, .int .i64 t] 25)) (Obj.cells #[.int .i64 ph, .slice ga gy.length gc, .string pl] 28)) b1))
  have r_G_1 := hid (hG.out.mono EStr.stable (b_call (b_alloc (b_alloc (Below.refl w.heap.size w) (Obj.cells #[.slice a bs.length c, .slice a2 es.length c2, .int .i64 r, .int .i64 t] 25)) (Obj.cells #[.int .i64 ph, .slice ga gy.length gc, .string pl] 28)) b1))
  clear b1
  obtain ⟨x_q_0, x_q_1, x_q_2, x_q_3⟩ := box4f hq_q_1.out
  have l_q := heap_lt hq_q_1.out
  obtain ⟨x_k_0, x_k_1, x_k_2, -⟩ := box3f hq_k_1.out
  have l_k := heap_lt hq_k_1.out
  go_wp2_with fail
  ((with_reducible refine (f2.out _ r_R_1.out r_E_1.out r_G_1.out).mono ?_); rintro e2 w2 ⟨rfl, b2⟩)
  clear x_q_0 x_q_1 x_q_2 x_q_3 l_q x_k_0 x_k_1 x_k_2 l_k
  have hq_q_2 := hid (stays b2 hq_q_1.out)
  have hq_k_2 := hid (stays b2 hq_k_1.out)
  have hb2 := hid (b_call hb1.out b2)
  have r_R_2 := hid (r_R_1.out.mono EBlob.stable (b_call (Below.refl w1.heap.size w1) b2))
  have r_E_2 := hid (r_E_1.out.mono EEntry.stable (b_call (Below.refl w1.heap.size w1) b2))
  have r_G_2 := hid (r_G_1.out.mono EStr.stable (b_call (Below.refl w1.heap.size w1) b2))
  clear hq_q_1 hq_k_1 hb1 r_R_1 r_E_1 r_G_1 b2
  go_wp2_with fail
  go_ret
  exact ⟨rfl, hb2.out⟩
theorem CollectChecks_walk (w : World) (cs : Array Value) (x : Store) (ds : Array Value) (y : Coll) (hx : VStore w cs.toList x) (hy : VColl w ds.toList y) (hl : y.grey.length ≤ 8388608) :
    Calls Tryz.prog 7 #[.agg cs, .agg ds] w fun e w' => e = .returned (.bool true) ∧ Below w.heap.size w w' := by
  obtain ⟨bv, ev, hc, hp, he, -⟩ := hx
  obtain rfl : cs = #[bv, ev, .int .i64 x.room, .int .i64 x.clock] := by
    cases cs
    simp only at hc
    rw [hc]
  obtain ⟨gv, hd, hg, hpl, -⟩ := hy
  obtain rfl : ds = #[.int .i64 y.phase, gv, .string y.place] := by
    cases ds
    simp only at hd
    rw [hd]
  exact CollectChecks_walk' bv ev gv x.blobs x.entries x.room x.clock y.phase y.place y.grey w hp he hg hpl hl
end Go.Proofs.YtojebioolflbkaaGreat
