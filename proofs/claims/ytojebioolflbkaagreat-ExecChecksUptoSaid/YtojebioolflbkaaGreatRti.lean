/-
  reach.Roots: what it answers.
-/
import Derived.Test.YtojebioolflbkaaGreatRtL
namespace Go.Proofs.YtojebioolflbkaaGreat
open Go.RowKit Go.Maps

set_option maxRecDepth 100000 in
set_option maxHeartbeats 4000000 in
theorem reach_Roots (v u : Value) (bs : List Blob) (es : List Entry) (r t : Int) (w : World) (h : RBl w v bs) (g : RE w u es) (hN : bulkN bs es ≤ 8388608) :
    Calls Tryz.prog 37 #[.agg #[v, u, .int .i64 r, .int .i64 t]] w (RootsPost bs es w) := by
  have hsz := hid (rootsL_size (fit_B h) (fit_E g))
  have hrl := rootsL_len bs es
  have hsort := hid (roots_sort bs es)
  have hel := entsD_len es
  have hhl := heldD_len bs
  unfold bulkN at hN hrl
  unfold RootsPost
  generalize rootsL bs es = RL at *
  obtain ⟨a, c, rfl, hlc, hcm, hre, -, hat⟩ := h
  obtain ⟨a2, c2, rfl, hlc2, hcm2, hre2, -, hat2⟩ := g
  replace hat := hid hat
  replace hat2 := hid hat2
  have hmm := @run_makeMap Tryz.prog
  have hm0 := MetD.made (w.alloc (Obj.cells #[.slice a bs.length c, .slice a2 es.length c2, .int .i64 r, .int .i64 t] 25))
  rw [show (w.alloc (Obj.cells #[.slice a bs.length c, .slice a2 es.length c2, .int .i64 r, .int .i64 t] 25)).heap.size = w.heap.size + 1 by simp] at hm0
  have hq0 := (heap_alloc_old _ (Obj.map #[] 0) (heap_lt (heap_alloc_new w (Obj.cells #[.slice a bs.length c, .slice a2 es.length c2, .int .i64 r, .int .i64 t] 25)))).trans (heap_alloc_new w (Obj.cells #[.slice a bs.length c, .slice a2 es.length c2, .int .i64 r, .int .i64 t] 25))
  have hb0 := b_alloc (b_alloc (Below.refl w.heap.size w) (Obj.cells #[.slice a bs.length c, .slice a2 es.length c2, .int .i64 r, .int .i64 t] 25)) (Obj.map #[] 0)
  go_enter Tryz.func37, Tryz.ntmps37
  go_wp2_with fail
  generalize (w.alloc (Obj.cells #[.slice a bs.length c, .slice a2 es.length c2, .int .i64 r, .int .i64 t] 25)).alloc (Obj.map #[] 0) = W0 at *
  have hlW := heap_lt hq0
  replace hm0 := hid hm0
  replace hq0 := hid hq0
  replace hb0 := hid hb0
  clear hmm
  go_loopw [5, 7, 14] (fun _ _ i wr => ∃ j : Nat, j ≤ es.length ∧ i = .int .i64 (j : Int) ∧ Hid (MetD wr (w.heap.size + 1) (entsD (es.take j))) ∧ Hid (W0.grownBy wr (some (w.heap.size + 1)))) (fun _ _ i _ => es.length - (intOf i).toNat)
  case atStart => exact ⟨0, by omega, rfl, hm0, hid ⟨rfl, rfl, rfl, Nat.le_refl _, fun _ _ _ => rfl⟩⟩
  case round =>
    obtain ⟨j, hj, rfl, hmj, hgj⟩ := hrel
    have hbj := hid (hb0.out.grown hgj.out hb0.out.size (fun k hk => by simp at hk; omega))
    by_cases hlt : j < es.length
    · have hn : es[j]? = some es[j] := List.getElem?_eq_getElem hlt
      have htk := hid (entsD_next (List.take_succ_eq_append_getElem hlt))
      have hpl := entsD_take es (j + 1)
      rw [htk.out, List.length_append] at hpl
      generalize es[j] = x at *
      obtain ⟨bb, off, rfl, hbb, pv, k0, k1, k2, k3, rp, -⟩ := hat2.out j _ hn
      have c0 := cell_stays hbj.out hbb k0
      have c1 := cell_stays hbj.out hbb k1
      have c2' := cell_stays hbj.out hbb k2
      have c3 := cell_stays hbj.out hbb k3
      have hbw : bb < wr.heap.size := Nat.lt_of_lt_of_le hbb hbj.out.size
      clear k0 k1 k2 k3 hn
      have hlen : (entD x).length = x.parts.length := by unfold entD; rw [List.length_map]
      have hRP := hid rp
      obtain ⟨pa, pc, rfl, -, hpm, hpr, -⟩ := rp
      have hma := hmj.out.after (b_alloc (Below.refl _ wr) (Obj.cells #[.string x.key, .slice pa x.parts.length pc, .int .i64 x.pins, .int .i64 x.stamp] 84))
      have hga := hid (grown_trans hgj.out (below_grown (b_alloc (Below.refl _ wr) (Obj.cells #[.string x.key, .slice pa x.parts.length pc, .int .i64 x.pins, .int .i64 x.stamp] 84)) (some (w.heap.size + 1))))
      have hfin := hid (fun W (hm : MetD W (w.heap.size + 1) (entsD (es.take j) ++ (entD x).take x.parts.length)) => (show MetD W (w.heap.size + 1) (entsD (es.take (j + 1))) from by
        rw [htk.out]
        rwa [← hlen, List.take_length] at hm))
      clear htk
      generalize entsD (es.take j) = D0 at *
      have hm1 : Hid (MetD (wr.alloc (Obj.cells #[.string x.key, .slice pa x.parts.length pc, .int .i64 x.pins, .int .i64 x.stamp] 84)) (w.heap.size + 1) (D0 ++ (entD x).take 0)) := hid (by rw [List.take_zero, List.append_nil]; exact hma)
      clear hma hmj hbj hgj
      go_wp2_with fail
      generalize wr.alloc (Obj.cells #[.string x.key, .slice pa x.parts.length pc, .int .i64 x.pins, .int .i64 x.stamp] 84) = W1 at *
      clear c0 c1 c2' c3
      go_loopw [7, 21] (fun _ i wx => ∃ k : Nat, k ≤ x.parts.length ∧ i = .int .i64 (k : Int) ∧ Hid (MetD wx (w.heap.size + 1) (D0 ++ (entD x).take k)) ∧ Hid (W0.grownBy wx (some (w.heap.size + 1)))) (fun _ i _ => x.parts.length - (intOf i).toNat)
      case atStart => exact ⟨0, by omega, rfl, hm1, hga⟩
      case round =>
        obtain ⟨k, hk, rfl, hmk, hgk⟩ := hrel
        have hbk := hid (hb0.out.grown hgk.out hb0.out.size (fun k hk => by simp at hk; omega))
        by_cases hlt2 : k < x.parts.length
        · have hn : x.parts[k]? = some x.parts[k] := List.getElem?_eq_getElem hlt2
          have htk := hid (show (entD x).take (k + 1) = (entD x).take k ++ [x.parts[k].digest] by
            unfold entD
            rw [← List.map_take, ← List.map_take, List.take_succ_eq_append_getElem hlt2, List.map_append]
            rfl)
          generalize x.parts[k] = y at *
          obtain ⟨bq, oq, rfl, hbq, p0, p1, p2, s0, s1, -⟩ := rs_at (hRP.out.mono EPart.stable hbk.out) hn
          have hkey := keyed_str s1
          have hmb := hmk.out.after (b_alloc (Below.refl _ wr) (Obj.cells #[.string y.name, .string y.digest, .int .i64 y.size] 104))
          have hgb := hid (grown_trans hgk.out (below_grown (b_alloc (Below.refl _ wr) (Obj.cells #[.string y.name, .string y.digest, .int .i64 y.size] 104)) (some (w.heap.size + 1))))
          have hnn : (D0 ++ (entD x).take k).length < maxLen := by rw [List.length_append, List.length_take]; unfold maxLen; omega
          obtain ⟨D, hown, hseen⟩ := hmb
          have hput := hid (fun W h => MetD.put (w' := W) (b := w.heap.size + 1) (s := y.digest) hseen h)
          rw [List.append_assoc, ← htk.out] at hput
          generalize (D0 ++ (entD x).take k).length = nD at hown hput hnn
          replace hown := hid hown
          clear hn htk hseen hmk hgk hbk
          go_wp2_with (at_mapUpdate; refine wpList_mapUpdate_own _ rfl _ _ _ 102 rfl 9 4 map_keyS Tryz.underlying102 _ (w.heap.size + 1) _ D rfl hown.out hnn _ _ _ rfl rfl hkey _ [] (plainElem_bool Tryz.underlying4 true) ?_)
          intro w2 hown2 hg2
          have hm2 := hid (hput.out _ hown2)
          have hg3 := hid (grown_trans hgb.out hg2)
          clear hown2 hg2 hown hput hgb p0 p1 p2 hnn
          go_wp2_with fail
          go_roundw
          case rel => exact ⟨k + 1, by omega, by go_num, hm2, hg3⟩
          case measure => simp [intOf]; omega
        · obtain rfl : k = x.parts.length := by omega
          have hm9 := hid (hfin.out _ hmk.out)
          clear hmk hbk hfin
          go_wp2_with fail
          go_roundw
          case rel => exact ⟨j + 1, by omega, by go_num, hm9, hgk⟩
          case measure => simp [intOf]; omega
    · obtain rfl : j = es.length := by omega
      rw [List.take_length] at hmj
      have hqj := hid ((hgj.out.block w.heap.size hlW (by simp)).trans hq0.out)
      obtain ⟨x0, x1, -, -⟩ := box4f hqj.out
      have hm1 : Hid (MetD wr (w.heap.size + 1) (entsD es ++ heldD (bs.take 0))) := hid (by rw [List.take_zero]; unfold heldD; simpa using hmj.out)
      have hgj2 := hid hgj.out
      clear hmj hqj hbj hgj
      go_wp2_with fail
      clear x0 x1
      go_loopw [9, 33] (fun _ i wx => ∃ k : Nat, k ≤ bs.length ∧ i = .int .i64 (k : Int) ∧ Hid (MetD wx (w.heap.size + 1) (entsD es ++ heldD (bs.take k))) ∧ Hid (W0.grownBy wx (some (w.heap.size + 1)))) (fun _ i _ => bs.length - (intOf i).toNat)
      case atStart => exact ⟨0, by omega, rfl, hm1, hgj2⟩
      case round =>
        obtain ⟨k, hk, rfl, hmk, hgk⟩ := hrel
        have hbk := hid (hb0.out.grown hgk.out hb0.out.size (fun k hk => by simp at hk; omega))
        by_cases hlt2 : k < bs.length
        · have hn : bs[k]? = some bs[k] := List.getElem?_eq_getElem hlt2
          have hyes := hid (heldD_yes (List.take_succ_eq_append_getElem hlt2))
          have hno := hid (heldD_no (List.take_succ_eq_append_getElem hlt2))
          generalize bs[k] = x at *
          obtain ⟨bb, off, rfl, hbb, pv, k0, k1, k2, k3, rp, s0, -⟩ := hat.out k _ hn
          have c0 := cell_stays hbk.out hbb k0
          have c1 := cell_stays hbk.out hbb k1
          have c2' := cell_stays hbk.out hbb k2
          have c3 := cell_stays hbk.out hbb k3
          have hbw : bb < wr.heap.size := Nat.lt_of_lt_of_le hbb hbk.out.size
          obtain ⟨pa, pc, rfl, -⟩ := rp
          have hkey := keyed_str s0
          have hmb := hmk.out.after (b_alloc (Below.refl _ wr) (Obj.cells #[.string x.digest, .slice pa x.data.length pc, .int .i64 x.pins, .bool x.mark] 61))
          have hgb := hid (grown_trans hgk.out (below_grown (b_alloc (Below.refl _ wr) (Obj.cells #[.string x.digest, .slice pa x.data.length pc, .int .i64 x.pins, .bool x.mark] 61)) (some (w.heap.size + 1))))
          have hhk := heldD_len (bs.take k)
          rw [List.length_take] at hhk
          have hnn : (entsD es ++ heldD (bs.take k)).length < maxLen := by rw [List.length_append]; unfold maxLen; omega
          clear k0 k1 k2 k3 hn hmk hgk hbk
          by_cases hp : 0 < x.pins
          · have hp1 : decide (x.pins > 0) = true := by simpa using hp
            replace hyes := hid (hyes.out hp)
            obtain ⟨D, hown, hseen⟩ := hmb
            have hput := hid (fun W h => MetD.put (w' := W) (b := w.heap.size + 1) (s := x.digest) hseen h)
            rw [List.append_assoc, ← hyes.out] at hput
            generalize (entsD es ++ heldD (bs.take k)).length = nD at hown hput hnn
            replace hown := hid hown
            clear hseen hno hyes
            go_wp2_with (at_mapUpdate; refine wpList_mapUpdate_own _ rfl _ _ _ 102 rfl 9 4 map_keyS Tryz.underlying102 _ (w.heap.size + 1) _ D rfl hown.out hnn _ _ _ rfl rfl hkey _ [] (plainElem_bool Tryz.underlying4 true) ?_)
            intro w2 hown2 hg2
            have hm2 := hid (hput.out _ hown2)
            have hg3 := hid (grown_trans hgb.out hg2)
            clear hown2 hg2 hown hput hgb c0 c1 c2' c3 hnn
            go_wp2_with fail
            go_roundw
            case rel => exact ⟨k + 1, by omega, by go_num, hm2, hg3⟩
            case measure => simp [intOf]; omega
          · have hp1 : decide (x.pins > 0) = false := by simpa using hp
            replace hno := hid (hno.out hp)
            rw [← hno.out] at hmb
            replace hmb := hid hmb
            clear hno hyes
            go_wp2_with fail
            go_roundw
            case rel => exact ⟨k + 1, by omega, by go_num, hmb, hgb⟩
            case measure => simp [intOf]; omega
        · obtain rfl : k = bs.length := by omega
          rw [List.take_length] at hmk
          have hll : (entsD es ++ heldD bs).length * 16 ≤ 140737488351232 := by rw [List.length_append]; omega
          have hsrt := hid (sorted_ofD (w.heap.size + 1) _ _ hmk.out hll)
          rw [hsort.out] at hsrt
          clear hmk hgk hll
          go_wp2_with fail
          ((with_reducible refine (keys_of (w.heap.size + 1) _).mono ?_); rintro e w6 ⟨rfl, rfl⟩)
          go_wp2_with fail
          ((with_reducible refine hsrt.out.mono ?_); rintro e w7 ⟨v7, rfl, o7, b7⟩)
          have hb7 := hid (b_call (b_alloc hbk.out _) b7)
          have r7 := hid (reads_str o7 (by omega) hsz.out)
          have o8 := hid (OS.mono o7 (b_alloc hbk.out (.cells #[.map (some (w.heap.size + 1))] 102)).size)
          clear o7 b7 hsrt
          go_wp2_with fail
          go_ret
          exact ⟨_, rfl, r7.out, o8.out, hb7.out⟩
end Go.Proofs.YtojebioolflbkaaGreat
