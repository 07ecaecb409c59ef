/-
  The reference's ReachRoots: what it answers.
-/
import Derived.Test.YtojebioolflbkaaGreatRtL
namespace Go.Proofs.YtojebioolflbkaaGreat
open Go.RowKit Go.Maps

set_option maxRecDepth 100000 in
set_option maxHeartbeats 4000000 in
theorem ref_ReachRoots (v u : Value) (bs : List Blob) (es : List Entry) (r t : Int) (w : World) (h : RBl w v bs) (g : RE w u es) (hN : bulkN bs es ≤ 8388608) :
    Calls Tryz.prog 44 #[.agg #[v, u, .int .i64 r, .int .i64 t]] w (RootsPost bs es w) := by
  obtain ⟨i0, ii0, hz0, hz1, hz2⟩ := info_parts info_str
  have hsz := hid (rootsL_size (fit_B h) (fit_E g))
  have hds := hid (digs_size (fit_B h) (fit_E g))
  have hrl := rootsL_len bs es
  have hel := entsD_len es
  have hhl := heldD_len bs
  unfold bulkN at hN hrl
  unfold RootsPost
  have hRL := hid (show rootsL bs es = risingL (heldD bs ++ entsD es) from rfl)
  generalize rootsL bs es = RL at *
  obtain ⟨a, c, rfl, hlc, hcm, hre, -, hat⟩ := h
  obtain ⟨a2, c2, rfl, hlc2, hcm2, hre2, -, hat2⟩ := g
  replace hat := hid hat
  replace hat2 := hid hat2
  have hq0 := heap_alloc_new w (Obj.cells #[.slice a bs.length c, .slice a2 es.length c2, .int .i64 r, .int .i64 t] 25)
  have hb0 := b_alloc (Below.refl w.heap.size w) (Obj.cells #[.slice a bs.length c, .slice a2 es.length c2, .int .i64 r, .int .i64 t] 25)
  go_enter Tryz.func44, Tryz.ntmps44
  go_wp2_with fail
  generalize w.alloc (Obj.cells #[.slice a bs.length c, .slice a2 es.length c2, .int .i64 r, .int .i64 t] 25) = W0 at *
  have hlW := heap_lt hq0
  have hown0 : Hid (OS 9 1 cStr W0 W0.heap.size (.slice none 0 0) (heldD (bs.take 0))) := hid OS.nil
  replace hq0 := hid hq0
  replace hb0 := hid hb0
  go_loopw [3, 5, 13] (fun o _ i wr => ∃ k : Nat, k ≤ bs.length ∧ i = .int .i64 (k : Int) ∧ Hid (OS 9 1 cStr wr W0.heap.size o (heldD (bs.take k))) ∧ Hid (Below W0.heap.size W0 wr)) (fun _ _ i _ => bs.length - (intOf i).toNat)
  case atStart => exact ⟨0, by omega, rfl, hown0, hid (Below.refl _ _)⟩
  case round =>
    obtain ⟨k, hk, rfl, hown, hbr⟩ := hrel
    have hbk := hid (b_call hb0.out hbr.out)
    have hsB := hbr.out.size
    by_cases hlt2 : k < bs.length
    · have hn : bs[k]? = some bs[k] := List.getElem?_eq_getElem hlt2
      have hyes := hid (heldD_yes (List.take_succ_eq_append_getElem hlt2))
      have hno := hid (heldD_no (List.take_succ_eq_append_getElem hlt2))
      generalize bs[k] = x at *
      obtain ⟨bb, off, rfl, hbb, pv, k0, k1, k2, k3, rp, s0, -⟩ := hat.out k _ hn
      have c0 := cell_stays hbk.out hbb k0
      have c1 := cell_stays hbk.out hbb k1
      have c2' := cell_stays hbk.out hbb k2
      have c3 := cell_stays hbk.out hbb k3
      have hbw : bb < wr.heap.size := Nat.lt_of_lt_of_le hbb hbk.out.size
      obtain ⟨pa, pc, rfl, -⟩ := rp
      have hhk := heldD_len (bs.take k)
      rw [List.length_take] at hhk
      have hown1 := hid (OS.alloc hown.out (Obj.cells #[.string x.digest, .slice pa x.data.length pc, .int .i64 x.pins, .bool x.mark] 61))
      have hb1 := hid (hbr.out.alloc hsB (Obj.cells #[.string x.digest, .slice pa x.data.length pc, .int .i64 x.pins, .bool x.mark] 61))
      clear k0 k1 k2 k3 hn hbk
      by_cases hp : 0 < x.pins
      · have hp1 : decide (x.pins > 0) = true := by simpa using hp
        replace hyes := hid (hyes.out hp)
        have hrow := row_one (s := 1) (bs := 16) (cells := cStr) (wr.alloc (Obj.cells #[.string x.digest, .slice pa x.data.length pc, .int .i64 x.pins, .bool x.mark] 61)) 9 x.digest #[.string x.digest] (wr.heap.size + 1) (by simp) rfl (by decide)
        clear hno
        go_wp2_with (at_builtin; go_must (refine wpL_append flat_rstr rfl (.tmp 20) (.tmp 23) 26 rfl 9 i0 _ Tryz.underlying26 ii0 hz0 hz1 hz2 rfl W0.heap.size _ _ rfl (OS.alloc hown1.out _) _ [x.digest] rfl hrow ?c1 ?c2 ?c3 ?_))
        case c1 => simp only [List.length_cons, List.length_nil]; omega
        case c2 => simp only [List.length_cons, List.length_nil, maxLen]; omega
        case c3 => simp; omega
        intro v8 w8 ho8 hg8
        have hbr8 := hid ((hb1.out.alloc (by simp; omega) (Obj.cells #[.string x.digest] 9)).grown hg8 (by simp; omega) (OS.block hown.out))
        rw [← hyes.out] at ho8
        replace ho8 := hid ho8
        clear hg8 hrow hown1 hown hbr hyes hb1 c0 c1 c2' c3
        go_wp2_with fail
        go_roundw
        case rel => exact ⟨k + 1, by omega, by go_num, ho8, hbr8⟩
        case measure => simp [intOf]; omega
      · have hp1 : decide (x.pins > 0) = false := by simpa using hp
        replace hno := hid (hno.out hp)
        rw [← hno.out] at hown1
        clear hno hyes hown hbr
        go_wp2_with fail
        go_roundw
        case rel => exact ⟨k + 1, by omega, by go_num, hown1, hb1⟩
        case measure => simp [intOf]; omega
    · obtain rfl : k = bs.length := by omega
      rw [List.take_length] at hown
      have hqj := hid ((hbr.out.block w.heap.size hlW).trans hq0.out)
      obtain ⟨x0, x1, -, -⟩ := box4f hqj.out
      have hown2 : Hid (OS 9 1 cStr wr W0.heap.size _ (heldD bs ++ entsD (es.take 0))) := hid (by rw [List.take_zero]; unfold entsD; rw [List.flatMap_nil, List.append_nil]; exact hown.out)
      have hbr2 := hid hbr.out
      clear hbk hown hqj hbr hsB
      go_wp2_with fail
      clear x0 x1
      go_loopw [3, 7, 9, 29] (fun o _ _ i wx => ∃ j : Nat, j ≤ es.length ∧ i = .int .i64 (j : Int) ∧ Hid (OS 9 1 cStr wx W0.heap.size o (heldD bs ++ entsD (es.take j))) ∧ Hid (Below W0.heap.size W0 wx)) (fun _ _ _ i _ => es.length - (intOf i).toNat)
      case atStart => exact ⟨0, by omega, rfl, hown2, hbr2⟩
      case round =>
        obtain ⟨j, hj, rfl, hown, hbr⟩ := hrel
        have hbj := hid (b_call hb0.out hbr.out)
        have hsB := hbr.out.size
        by_cases hlt : j < es.length
        · have hn : es[j]? = some es[j] := List.getElem?_eq_getElem hlt
          have htk := hid (entsD_next (List.take_succ_eq_append_getElem hlt))
          have hpl := entsD_take es (j + 1)
          rw [htk.out, List.length_append] at hpl
          generalize es[j] = x at *
          obtain ⟨bb, off, rfl, hbb, pv, k0, k1, k2, k3, rp, -⟩ := hat2.out j _ hn
          have c0 := cell_stays hbj.out hbb k0
          have c1 := cell_stays hbj.out hbb k1
          have c2' := cell_stays hbj.out hbb k2
          have c3 := cell_stays hbj.out hbb k3
          have hbw : bb < wr.heap.size := Nat.lt_of_lt_of_le hbb hbj.out.size
          clear k0 k1 k2 k3 hn
          have hlen : (entD x).length = x.parts.length := by unfold entD; rw [List.length_map]
          have hRP := hid rp
          obtain ⟨pa, pc, rfl, -, hpm, hpr, -⟩ := rp
          have hown1 := OS.alloc hown.out (Obj.cells #[.string x.key, .slice pa x.parts.length pc, .int .i64 x.pins, .int .i64 x.stamp] 84)
          have hb1 := hid (hbr.out.alloc hsB (Obj.cells #[.string x.key, .slice pa x.parts.length pc, .int .i64 x.pins, .int .i64 x.stamp] 84))
          have hfin := hid (show heldD bs ++ entsD (es.take j) ++ (entD x).take x.parts.length = heldD bs ++ entsD (es.take (j + 1)) by
            rw [htk.out, List.append_assoc, ← hlen, List.take_length])
          have hDl : (heldD bs ++ entsD (es.take j)).length = (heldD bs).length + (entsD (es.take j)).length := List.length_append
          clear htk
          generalize heldD bs ++ entsD (es.take j) = D0 at *
          rw [show D0 = D0 ++ (entD x).take 0 by rw [List.take_zero, List.append_nil]] at hown1
          replace hown1 := hid hown1
          clear hbj hown hbr
          go_wp2_with fail
          have hsA : W0.heap.size ≤ (wr.alloc (Obj.cells #[.string x.key, .slice pa x.parts.length pc, .int .i64 x.pins, .int .i64 x.stamp] 84)).heap.size := by simp; omega
          generalize wr.alloc (Obj.cells #[.string x.key, .slice pa x.parts.length pc, .int .i64 x.pins, .int .i64 x.stamp] 84) = W1 at *
          clear c0 c1 c2' c3 hbw hsB
          go_loopw [3, 9, 36] (fun o _ i wy => ∃ k : Nat, k ≤ x.parts.length ∧ i = .int .i64 (k : Int) ∧ Hid (OS 9 1 cStr wy W0.heap.size o (D0 ++ (entD x).take k)) ∧ Hid (Below W0.heap.size W0 wy)) (fun _ _ i _ => x.parts.length - (intOf i).toNat)
          case atStart => exact ⟨0, by omega, rfl, hown1, hb1⟩
          case round =>
            obtain ⟨k, hk, rfl, hownk, hbr⟩ := hrel
            have hbk := hid (b_call hb0.out hbr.out)
            have hsB := hbr.out.size
            by_cases hlt2 : k < x.parts.length
            · have hn : x.parts[k]? = some x.parts[k] := List.getElem?_eq_getElem hlt2
              have htk := hid (show (entD x).take (k + 1) = (entD x).take k ++ [x.parts[k].digest] by
                unfold entD
                rw [← List.map_take, ← List.map_take, List.take_succ_eq_append_getElem hlt2, List.map_append]
                rfl)
              generalize x.parts[k] = y at *
              obtain ⟨bq, oq, rfl, hbq, p0, p1, p2, s0, s1, -⟩ := rs_at (hRP.out.mono EPart.stable hbk.out) hn
              have hown3 := hid (OS.alloc hownk.out (Obj.cells #[.string y.name, .string y.digest, .int .i64 y.size] 104))
              have hb3 := hid (hbr.out.alloc hsB (Obj.cells #[.string y.name, .string y.digest, .int .i64 y.size] 104))
              have hrow := row_one (s := 1) (bs := 16) (cells := cStr) (wr.alloc (Obj.cells #[.string y.name, .string y.digest, .int .i64 y.size] 104)) 9 y.digest #[.string y.digest] (wr.heap.size + 1) (by simp) rfl (by decide)
              have hnn : (D0 ++ (entD x).take k).length ≤ 8388608 := by rw [List.length_append, List.length_take]; omega
              clear hn hbk
              go_wp2_with (at_builtin; go_must (refine wpL_append flat_rstr rfl (.tmp 40) (.tmp 43) 26 rfl 9 i0 _ Tryz.underlying26 ii0 hz0 hz1 hz2 rfl W0.heap.size _ _ rfl (OS.alloc hown3.out _) _ [y.digest] rfl hrow ?c1 ?c2 ?c3 ?_))
              case c1 => simp only [List.length_cons, List.length_nil]; omega
              case c2 => simp only [List.length_cons, List.length_nil, maxLen]; omega
              case c3 => simp; omega
              intro v8 w8 ho8 hg8
              have hbr8 := hid ((hb3.out.alloc (by simp; omega) (Obj.cells #[.string y.digest] 9)).grown hg8 (by simp; omega) (OS.block hownk.out))
              rw [← htk.out] at ho8
              replace ho8 := hid ho8
              clear hg8 hrow hown3 hownk hbr htk hb3 p0 p1 p2
              go_wp2_with fail
              go_roundw
              case rel => exact ⟨k + 1, by omega, by go_num, ho8, hbr8⟩
              case measure => simp [intOf]; omega
            · obtain rfl : k = x.parts.length := by omega
              rw [hfin.out] at hownk
              clear hbk hfin
              go_wp2_with fail
              go_roundw
              case rel => exact ⟨j + 1, by omega, by go_num, hownk, hbr⟩
              case measure => simp [intOf]; omega
        · obtain rfl : j = es.length := by omega
          rw [List.take_length] at hown
          have hrT := hid (reads_str hown.out (by rw [List.length_append]; omega) hds.out)
          have hrs := hid (ref_rising _ _ _ hrT.out)
          rw [← hRL.out] at hrs
          clear hown hrT hbr
          go_wp2_with fail
          ((with_reducible refine hrs.out.mono ?_); rintro e w7 ⟨v7, rfl, o7, b7⟩)
          have hb7 := hid (b_call hbj.out b7)
          have r7 := hid (reads_str o7 (by omega) hsz.out)
          have o8 := hid (OS.mono o7 hbj.out.size)
          clear o7 b7 hrs
          go_wp2_with fail
          go_ret
          exact ⟨_, rfl, r7.out, o8.out, hb7.out⟩
end Go.Proofs.YtojebioolflbkaaGreat
