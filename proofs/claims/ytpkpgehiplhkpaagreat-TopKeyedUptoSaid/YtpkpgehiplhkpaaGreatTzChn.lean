import Derived.Test.YtpkpgehiplhkpaaGreatTzMkx
import Derived.Lib.AppendZerosOnto
namespace Go.Proofs.YtpkpgehiplhkpaaGreat
open Go.RowKit Go.Maps
theorem qzrtx_1 {P : Prop} (h : P := by
 go_wp2_with fail
 go_roundw
 case rel => exact ⟨k + 1, by omega, by go_num, hm2, hg3⟩
 case measure => simp [intOf]; omega) : P := h
def metOf (D : List ByteArray) : List ByteArray := D.foldl addS []
theorem foldl_addS : ∀ (D M : List ByteArray), M.Nodup → (D.foldl addS M).Nodup ∧ (∀ x, x ∈ D.foldl addS M ↔ x ∈ M ∨ x ∈ D) ∧ (D.foldl addS M).length ≤ M.length + D.length
 | [], M, h => ⟨h, fun x => by simp, by simp⟩
 | d :: D, M, h => by
   obtain ⟨h1, h2, h3⟩ := foldl_addS D (addS M d) (addS_nodup h)
   have h4 := addS_len M d
   refine ⟨h1, fun x => ?_, ?_⟩
   · show x ∈ D.foldl addS (addS M d) ↔ _
     rw [h2 x, addS_mem, List.mem_cons, or_assoc]
   show (D.foldl addS (addS M d)).length ≤ _
   simp only [List.length_cons]
   omega
theorem metOf_nodup (D : List ByteArray) : (metOf D).Nodup := (foldl_addS D [] List.nodup_nil).1
theorem metOf_mem (D : List ByteArray) (x : ByteArray) : x ∈ metOf D ↔ x ∈ D := by
 have h := (foldl_addS D [] List.nodup_nil).2.1 x
 unfold metOf
 rw [h]
 simp
theorem metOf_len (D : List ByteArray) : (metOf D).length ≤ D.length := by
 have h := (foldl_addS D [] List.nodup_nil).2.2
 simpa [metOf] using h
theorem metOf_add (D : List ByteArray) (d : ByteArray) : metOf (D ++ [d]) = addS (metOf D) d := by
 unfold metOf
 rw [List.foldl_append]
 rfl
def entD (x : Entry) : List ByteArray := x.parts.map (·.digest)
def entsD (es : List Entry) : List ByteArray := es.flatMap entD
def heldD (bs : List Blob) : List ByteArray := (bs.filter (fun x => decide (0 < x.pins))).map (·.digest)
theorem entsD_next {es : List Entry} {j : Nat} {x : Entry} (h : es.take (j + 1) = es.take j ++ [x]) : entsD (es.take (j + 1)) = entsD (es.take j) ++ entD x := by
 unfold entsD
 rw [h, List.flatMap_append]
 simp
theorem heldD_yes {bs : List Blob} {j : Nat} {x : Blob} (h : bs.take (j + 1) = bs.take j ++ [x]) (hp : 0 < x.pins) : heldD (bs.take (j + 1)) = heldD (bs.take j) ++ [x.digest] := by
 unfold heldD
 rw [h, List.filter_append]
 simp [hp]
theorem heldD_no {bs : List Blob} {j : Nat} {x : Blob} (h : bs.take (j + 1) = bs.take j ++ [x]) (hp : ¬ 0 < x.pins) : heldD (bs.take (j + 1)) = heldD (bs.take j) := by
 unfold heldD
 rw [h, List.filter_append]
 simp [hp]
theorem heldD_len (bs : List Blob) : (heldD bs).length ≤ bs.length := by
 unfold heldD
 rw [List.length_map]
 exact List.length_filter_le _ _
theorem entsD_len (es : List Entry) : (entsD es).length = (es.map (fun x => x.parts.length)).sum := by
 unfold entsD
 rw [List.length_flatMap]
 congr 1
 refine List.map_congr_left fun x _ => ?_
 unfold entD
 rw [List.length_map]
theorem entsD_take (es : List Entry) (j : Nat) : (entsD (es.take j)).length ≤ (entsD es).length := by
 have h : entsD es = entsD (es.take j) ++ entsD (es.drop j) := by
  unfold entsD
  rw [← List.flatMap_append, List.take_append_drop]
 rw [h, List.length_append]
 omega
def rootsL (bs : List Blob) (es : List Entry) : List ByteArray := risingL (heldD bs ++ entsD es)
theorem roots_sort (bs : List Blob) (es : List Entry) : sortS (metOf (entsD es ++ heldD bs)) = rootsL bs es :=
 risingL_eq (fun x => by rw [metOf_mem, List.mem_append, List.mem_append, or_comm]) (metOf_nodup _)
theorem rootsL_mem (bs : List Blob) (es : List Entry) (x : ByteArray) : x ∈ rootsL bs es ↔ x ∈ heldD bs ∨ x ∈ entsD es := by
 rw [← roots_sort, sortS_mem, metOf_mem, List.mem_append, or_comm]
def bulkN (bs : List Blob) (es : List Entry) : Nat := bs.length + (es.map (fun x => x.parts.length)).sum
theorem rootsL_len (bs : List Blob) (es : List Entry) : (rootsL bs es).length ≤ bulkN bs es := by
 rw [← roots_sort, sortS_len]
 have h1 := metOf_len (entsD es ++ heldD bs)
 have h2 := heldD_len bs
 have h3 := entsD_len es
 rw [List.length_append] at h1
 unfold bulkN
 omega
theorem digs_size {bs : List Blob} {es : List Entry} (hb : ∀ x ∈ bs, FitBlob x) (he : ∀ x ∈ es, FitEntry x) : ∀ x ∈ heldD bs ++ entsD es, x.size ≤ 140737488351232 := fun x hx => by
 rcases List.mem_append.1 hx with h | h
 · obtain ⟨y, hy, rfl⟩ := List.mem_map.1 h
   exact (hb y (List.mem_filter.1 hy).1).1.1
 obtain ⟨y, hy, h2⟩ := List.mem_flatMap.1 h
 obtain ⟨p, hp, rfl⟩ := List.mem_map.1 h2
 exact ((he y hy).2.2 p hp).2.1
theorem rootsL_size {bs : List Blob} {es : List Entry} (hb : ∀ x ∈ bs, FitBlob x) (he : ∀ x ∈ es, FitEntry x) : ∀ x ∈ rootsL bs es, x.size ≤ 140737488351232 := fun x hx =>
 digs_size hb he x (List.mem_append.2 ((rootsL_mem bs es x).1 hx))
def MetD (w : World) (b : Nat) (L : List ByteArray) : Prop := ∃ D : DataW Unit, w.ownsMap Tryz.prog 9 (plainElem Tryz.prog 4) b L.length D ∧ SeenS D (metOf L)
theorem MetD.after {w w' : World} {b : Nat} {L : List ByteArray} (h : MetD w b L) (hb : Below w.heap.size w w') : MetD w' b L := by
 obtain ⟨D, h1, h2⟩ := h
 exact ⟨D, h1.kept (row := none) (below_grown hb none) (by simp), h2⟩
theorem MetD.made (w : World) : MetD (w.alloc (.map #[] 0)) w.heap.size [] := ⟨.map [], World.ownsMap_made w _ _ _, SeenS.nil⟩
theorem MetD.put {w' : World} {b : Nat} {L : List ByteArray} {s : ByteArray} {D : DataW Unit} (hs : SeenS D (metOf L)) (h : w'.ownsMap Tryz.prog 9 (plainElem Tryz.prog 4) b (L.length + 1) (D.put (.string s.data.toList) (.lit (.bool true)))) : MetD w' b (L ++ [s]) :=
 ⟨_, by rw [List.length_append]; exact h, by rw [metOf_add]; exact hs.put (metOf_nodup _)⟩
theorem sorted_ofD (b : Nat) (L : List ByteArray) (w : World) (h : MetD w b L) (hl : L.length * 16 ≤ 140737488351232) :
 Calls Tryz.prog 191 #[.func (.func 246) #[] #[.pointer (some ⟨w.heap.size, 0, none⟩)]] (w.alloc (.cells #[.map (some b)] 246)) fun e w' =>
  ∃ v, e = .returned v ∧ OS 9 1 cStr w' (w.alloc (.cells #[.map (some b)] 246)).heap.size v (sortS (metOf L)) ∧ Below (w.alloc (.cells #[.map (some b)] 246)).heap.size (w.alloc (.cells #[.map (some b)] 246)) w' := by
 obtain ⟨D, h1, h2⟩ := h
 have hz := h2.size
 have hml := metOf_len L
 refine (callsIn_wide.1 (Tryz.slices_Sorted_keys_191_192 b L.length D _ w h1 (by rw [hz]; unfold maxLen; omega) (by rw [hz]; omega))).mono ?_
 rintro e w' ⟨v, ss, rfl, hp, hrow, -, hb⟩
 refine ⟨v, rfl, ?_, hb⟩
 have hs := h2.sorted hp
 have hlen : ss.length = (sortS (metOf L)).length := by
  have := congrArg List.length hs
  rw [List.length_mergeSort, List.length_map] at this
  exact this
 have e2 := congrArg (List.map Go.Proofs.encStr) hs
 rw [map_str] at e2
 unfold OS
 rw [← hlen, ← e2]
 exact hrow
def RootsPost (bs : List Blob) (es : List Entry) (w : World) (e : Ending) (w' : World) : Prop :=
 ∃ v, e = .returned v ∧ RT w' v (rootsL bs es) ∧ OS 9 1 cStr w' w.heap.size v (rootsL bs es) ∧ Below w.heap.size w w'
theorem rs_at {α : Type} {s bs : Nat} {E : World → Nat → Nat → α → Prop} {w : World} {a : Option Addr} {n c : Nat} {l : List α} (h : RS s bs E w (.slice a n c) l) {j : Nat} {x : α} (hj : l[j]? = some x) : ∃ b off, a = some ⟨b, off, none⟩ ∧ b < w.heap.size ∧ E w b (off + j * s) x := by
 obtain ⟨_, _, hv, _, _, _, _, hat⟩ := h
 simp only [Value.slice.injEq] at hv
 obtain ⟨rfl, -, -⟩ := hv
 exact hat j x hj
set_option maxRecDepth 100000 in
set_option maxHeartbeats 4000000 in
theorem reach_Roots (v u : Value) (bs : List Blob) (es : List Entry) (r t : Int) (w : World) (h : RBl w v bs) (g : RE w u es) (hN : bulkN bs es ≤ 8388608) :
 Calls Tryz.prog 125 #[.agg #[v, u, .int .i64 r, .int .i64 t]] w (RootsPost bs es w) := by
 have hsz := hid (rootsL_size (fit_B h) (fit_E g))
 have hrl := rootsL_len bs es
 have hsort := hid (roots_sort bs es)
 have hel := entsD_len es
 have hhl := heldD_len bs
 unfold bulkN at hN hrl
 unfold RootsPost
 generalize rootsL bs es = RL at *
 obtain ⟨a, c, rfl, hlc, hcm, hre, -, hat⟩ := h
 obtain ⟨a2, c2, rfl, hlc2, hcm2, hre2, -, hat2⟩ := g
 replace hat := hid hat
 replace hat2 := hid hat2
 have hmm := @run_makeMap Tryz.prog
 have hm0 := MetD.made (w.alloc (Obj.cells #[.slice a bs.length c, .slice a2 es.length c2, .int .i64 r, .int .i64 t] 29))
 rw [show (w.alloc (Obj.cells #[.slice a bs.length c, .slice a2 es.length c2, .int .i64 r, .int .i64 t] 29)).heap.size = w.heap.size + 1 by simp] at hm0
 have hq0 := (heap_alloc_old _ (Obj.map #[] 0) (heap_lt (heap_alloc_new w (Obj.cells #[.slice a bs.length c, .slice a2 es.length c2, .int .i64 r, .int .i64 t] 29)))).trans (heap_alloc_new w (Obj.cells #[.slice a bs.length c, .slice a2 es.length c2, .int .i64 r, .int .i64 t] 29))
 have hb0 := b_alloc (b_alloc (Below.refl _ w) (Obj.cells #[.slice a bs.length c, .slice a2 es.length c2, .int .i64 r, .int .i64 t] 29)) (Obj.map #[] 0)
 go_enter Tryz.func125, Tryz.ntmps125
 go_wp2_with fail
 generalize (w.alloc (Obj.cells #[.slice a bs.length c, .slice a2 es.length c2, .int .i64 r, .int .i64 t] 29)).alloc (Obj.map #[] 0) = W0 at *
 have hlW := heap_lt hq0
 replace hm0 := hid hm0
 replace hq0 := hid hq0
 replace hb0 := hid hb0
 clear hmm
 go_loopw [5, 7, 14] (fun _ _ i wr => ∃ j : Nat, j ≤ es.length ∧ i = .int .i64 (j : Int) ∧ Hid (MetD wr (w.heap.size + 1) (entsD (es.take j))) ∧ Hid (W0.grownBy wr (some (w.heap.size + 1)))) (fun _ _ i _ => es.length - (intOf i).toNat)
 case atStart => exact ⟨0, by omega, rfl, hm0, hid ⟨rfl, rfl, rfl, Nat.le_refl _, fun _ _ _ => rfl⟩⟩
 obtain ⟨j, hj, rfl, hmj, hgj⟩ := hrel
 have hbj := hid (hb0.out.grown hgj.out hb0.out.size (fun k hk => by simp at hk; omega))
 by_cases hlt : j < es.length
 · have hn : es[j]? = some es[j] := List.getElem?_eq_getElem hlt
   have htk := hid (entsD_next (List.take_succ_eq_append_getElem hlt))
   have hpl := entsD_take es (j + 1)
   rw [htk.out, List.length_append] at hpl
   generalize es[j] = x at *
   obtain ⟨bb, off, rfl, hbb, pv, k0, k1, k2, k3, rp, -⟩ := hat2.out j _ hn
   have c0 := cell_stays hbj.out hbb k0
   have c1 := cell_stays hbj.out hbb k1
   have c2' := cell_stays hbj.out hbb k2
   have c3 := cell_stays hbj.out hbb k3
   have hbw : bb < wr.heap.size := Nat.lt_of_lt_of_le hbb hbj.out.size
   clear k0 k1 k2 k3 hn
   have hlen : (entD x).length = x.parts.length := by unfold entD; rw [List.length_map]
   have hRP := hid rp
   obtain ⟨pa, pc, rfl, -, hpm, hpr, -⟩ := rp
   have hma := hmj.out.after (b_alloc (Below.refl _ wr) (Obj.cells #[.string x.key, .slice pa x.parts.length pc, .int .i64 x.pins, .int .i64 x.stamp] 62))
   have hga := hid (grown_trans hgj.out (below_grown (b_alloc (Below.refl _ wr) (Obj.cells #[.string x.key, .slice pa x.parts.length pc, .int .i64 x.pins, .int .i64 x.stamp] 62)) (some (w.heap.size + 1))))
   have hfin := hid (fun W (hm : MetD W (w.heap.size + 1) (entsD (es.take j) ++ (entD x).take x.parts.length)) => (show MetD W (w.heap.size + 1) (entsD (es.take (j + 1))) from by
    rw [htk.out]
    rwa [← hlen, List.take_length] at hm))
   clear htk
   generalize entsD (es.take j) = D0 at *
   have hm1 : Hid (MetD (wr.alloc (Obj.cells #[.string x.key, .slice pa x.parts.length pc, .int .i64 x.pins, .int .i64 x.stamp] 62)) (w.heap.size + 1) (D0 ++ (entD x).take 0)) := hid (by rw [List.take_zero, List.append_nil]; exact hma)
   clear hma hmj hbj hgj
   go_wp2_with fail
   generalize wr.alloc (Obj.cells #[.string x.key, .slice pa x.parts.length pc, .int .i64 x.pins, .int .i64 x.stamp] 62) = W1 at *
   clear c0 c1 c2' c3
   go_loopw [7, 21] (fun _ i wx => ∃ k : Nat, k ≤ x.parts.length ∧ i = .int .i64 (k : Int) ∧ Hid (MetD wx (w.heap.size + 1) (D0 ++ (entD x).take k)) ∧ Hid (W0.grownBy wx (some (w.heap.size + 1)))) (fun _ i _ => x.parts.length - (intOf i).toNat)
   case atStart => exact ⟨0, by omega, rfl, hm1, hga⟩
   obtain ⟨k, hk, rfl, hmk, hgk⟩ := hrel
   have hbk := hid (hb0.out.grown hgk.out hb0.out.size (fun k hk => by simp at hk; omega))
   by_cases hlt2 : k < x.parts.length
   · have hn : x.parts[k]? = some x.parts[k] := List.getElem?_eq_getElem hlt2
     have htk := hid (show (entD x).take (k + 1) = (entD x).take k ++ [x.parts[k].digest] by
      unfold entD
      rw [← List.map_take, ← List.map_take, List.take_succ_eq_append_getElem hlt2, List.map_append]
      rfl)
     generalize x.parts[k] = y at *
     obtain ⟨bq, oq, rfl, hbq, p0, p1, p2, s0, s1, -⟩ := rs_at (hRP.out.mono EPart.stable hbk.out) hn
     have hkey := keyed_str s1
     have hmb := hmk.out.after (b_alloc (Below.refl _ wr) (Obj.cells #[.string y.name, .string y.digest, .int .i64 y.size] 67))
     have hgb := hid (grown_trans hgk.out (below_grown (b_alloc (Below.refl _ wr) (Obj.cells #[.string y.name, .string y.digest, .int .i64 y.size] 67)) (some (w.heap.size + 1))))
     have hnn : (D0 ++ (entD x).take k).length < maxLen := by rw [List.length_append, List.length_take]; unfold maxLen; omega
     obtain ⟨D, hown, hseen⟩ := hmb
     have hput := hid (fun W h => MetD.put (w' := W) (b := w.heap.size + 1) (s := y.digest) hseen h)
     rw [List.append_assoc, ← htk.out] at hput
     generalize (D0 ++ (entD x).take k).length = nD at hown hput hnn
     replace hown := hid hown
     clear hn htk hseen hmk hgk hbk
     go_wp2_with (at_mapUpdate; refine wpList_mapUpdate_own _ rfl _ _ _ 246 rfl 9 4 map_keyS Tryz.underlying246 _ (w.heap.size + 1) _ D rfl hown.out hnn _ _ _ rfl rfl hkey _ [] (plainElem_bool Tryz.underlying4 true) ?_)
     intro w2 hown2 hg2
     have hm2 := hid (hput.out _ hown2)
     have hg3 := hid (grown_trans hgb.out hg2)
     clear hown2 hg2 hown hput hgb p0 p1 p2 hnn
     exact qzrtx_1
   obtain rfl : k = x.parts.length := by omega
   have hm9 := hid (hfin.out _ hmk.out)
   clear hmk hbk hfin
   go_wp2_with fail
   go_roundw
   case rel => exact ⟨j + 1, by omega, by go_num, hm9, hgk⟩
   case measure => simp [intOf]; omega
 obtain rfl : j = es.length := by omega
 rw [List.take_length] at hmj
 have hqj := hid ((hgj.out.block w.heap.size hlW (by simp)).trans hq0.out)
 obtain ⟨x0, x1, -, -⟩ := box4f hqj.out
 have hm1 : Hid (MetD wr (w.heap.size + 1) (entsD es ++ heldD (bs.take 0))) := hid (by rw [List.take_zero]; unfold heldD; simpa using hmj.out)
 have hgj2 := hid hgj.out
 clear hmj hqj hbj hgj
 go_wp2_with fail
 clear x0 x1
 go_loopw [9, 33] (fun _ i wx => ∃ k : Nat, k ≤ bs.length ∧ i = .int .i64 (k : Int) ∧ Hid (MetD wx (w.heap.size + 1) (entsD es ++ heldD (bs.take k))) ∧ Hid (W0.grownBy wx (some (w.heap.size + 1)))) (fun _ i _ => bs.length - (intOf i).toNat)
 case atStart => exact ⟨0, by omega, rfl, hm1, hgj2⟩
 obtain ⟨k, hk, rfl, hmk, hgk⟩ := hrel
 have hbk := hid (hb0.out.grown hgk.out hb0.out.size (fun k hk => by simp at hk; omega))
 by_cases hlt2 : k < bs.length
 · have hn : bs[k]? = some bs[k] := List.getElem?_eq_getElem hlt2
   have hyes := hid (heldD_yes (List.take_succ_eq_append_getElem hlt2))
   have hno := hid (heldD_no (List.take_succ_eq_append_getElem hlt2))
   generalize bs[k] = x at *
   obtain ⟨bb, off, rfl, hbb, pv, k0, k1, k2, k3, rp, s0, -⟩ := hat.out k _ hn
   have c0 := cell_stays hbk.out hbb k0
   have c1 := cell_stays hbk.out hbb k1
   have c2' := cell_stays hbk.out hbb k2
   have c3 := cell_stays hbk.out hbb k3
   have hbw : bb < wr.heap.size := Nat.lt_of_lt_of_le hbb hbk.out.size
   obtain ⟨pa, pc, rfl, -⟩ := rp
   have hkey := keyed_str s0
   have hmb := hmk.out.after (b_alloc (Below.refl _ wr) (Obj.cells #[.string x.digest, .slice pa x.data.length pc, .int .i64 x.pins, .bool x.mark] 50))
   have hgb := hid (grown_trans hgk.out (below_grown (b_alloc (Below.refl _ wr) (Obj.cells #[.string x.digest, .slice pa x.data.length pc, .int .i64 x.pins, .bool x.mark] 50)) (some (w.heap.size + 1))))
   have hhk := heldD_len (bs.take k)
   rw [List.length_take] at hhk
   have hnn : (entsD es ++ heldD (bs.take k)).length < maxLen := by rw [List.length_append]; unfold maxLen; omega
   clear k0 k1 k2 k3 hn hmk hgk hbk
   by_cases hp : 0 < x.pins
   · have hp1 : decide (x.pins > 0) = true := by simpa using hp
     replace hyes := hid (hyes.out hp)
     obtain ⟨D, hown, hseen⟩ := hmb
     have hput := hid (fun W h => MetD.put (w' := W) (b := w.heap.size + 1) (s := x.digest) hseen h)
     rw [List.append_assoc, ← hyes.out] at hput
     generalize (entsD es ++ heldD (bs.take k)).length = nD at hown hput hnn
     replace hown := hid hown
     clear hseen hno hyes
     go_wp2_with (at_mapUpdate; refine wpList_mapUpdate_own _ rfl _ _ _ 246 rfl 9 4 map_keyS Tryz.underlying246 _ (w.heap.size + 1) _ D rfl hown.out hnn _ _ _ rfl rfl hkey _ [] (plainElem_bool Tryz.underlying4 true) ?_)
     intro w2 hown2 hg2
     have hm2 := hid (hput.out _ hown2)
     have hg3 := hid (grown_trans hgb.out hg2)
     clear hown2 hg2 hown hput hgb c0 c1 c2' c3 hnn
     exact qzrtx_1
   have hp1 : decide (x.pins > 0) = false := by simpa using hp
   replace hno := hid (hno.out hp)
   rw [← hno.out] at hmb
   replace hmb := hid hmb
   clear hno hyes
   go_wp2_with fail
   go_roundw
   case rel => exact ⟨k + 1, by omega, by go_num, hmb, hgb⟩
   case measure => simp [intOf]; omega
 obtain rfl : k = bs.length := by omega
 rw [List.take_length] at hmk
 have hll : (entsD es ++ heldD bs).length * 16 ≤ 140737488351232 := by rw [List.length_append]; omega
 have hsrt := hid (sorted_ofD (w.heap.size + 1) _ _ hmk.out hll)
 rw [hsort.out] at hsrt
 clear hmk hgk hll
 go_wp2_with fail
 ((with_reducible refine (keys_of (w.heap.size + 1) _).mono ?_); rintro e w6 ⟨rfl, rfl⟩)
 go_wp2_with fail
 ((with_reducible refine hsrt.out.mono ?_); rintro e w7 ⟨v7, rfl, o7, b7⟩)
 have hb7 := hid (b_call (b_alloc hbk.out _) b7)
 have r7 := hid (reads_str o7 (by omega) hsz.out)
 have o8 := hid (OS.mono o7 (b_alloc hbk.out (.cells #[.map (some (w.heap.size + 1))] 246)).size)
 clear o7 b7 hsrt
 go_wp2_with fail
 go_ret
 exact ⟨_, rfl, r7.out, o8.out, hb7.out⟩
set_option maxRecDepth 100000 in
set_option maxHeartbeats 4000000 in
theorem reach_All (v u : Value) (bs : List Blob) (es : List Entry) (r t : Int) (w : World) (h : RBl w v bs) (g : RE w u es) (hN : bulkN bs es ≤ 8388608) :
 Calls Tryz.prog 132 #[.agg #[v, u, .int .i64 r, .int .i64 t]] w (FromPost bs (rootsL bs es) w) := by
 have f1 := hid (fun w (h : RBl w v bs) (g : RE w u es) => reach_Roots v u bs es r t w h g hN)
 have f2 := hid (fun x w (h : RBl w v bs) (g : RT w x (rootsL bs es)) => reach_From v x bs (rootsL bs es) w h g)
 have hR := hid h
 have hE := hid g
 unfold FromPost
 unfold RootsPost at f1
 unfold FromPost at f2
 generalize rootsL bs es = RL at *
 obtain ⟨a, c, rfl, -⟩ := h
 obtain ⟨a2, c2, rfl, -⟩ := g
 obtain ⟨w1, hw1⟩ : ∃ w1 : World, w1 = w.alloc (Obj.cells #[.slice a bs.length c, .slice a2 es.length c2, .int .i64 r, .int .i64 t] 29) := ⟨_, rfl⟩
 have hb1 := hid (show Below w.heap.size w w1 by rw [hw1]; exact b_alloc (Below.refl _ _) _)
 have hq1 := hid (show w1.heap[w.heap.size]? = some (.cells #[.slice a bs.length c, .slice a2 es.length c2, .int .i64 r, .int .i64 t] 29 (0, 0)) by rw [hw1]; exact heap_alloc_new w _)
 have hl1 := heap_lt hq1.out
 go_enter Tryz.func132, Tryz.ntmps132
 go_wp2_with fail
 rw [← hw1]
 clear hw1
 have hS := box4f hq1.out
 go_region_held3 (fun w' => w'.cell? ⟨w.heap.size, 0, none⟩ = some (.slice a bs.length c) ∧ w'.cell? ⟨w.heap.size, 1, none⟩ = some (.slice a2 es.length c2) ∧ w'.cell? ⟨w.heap.size, 2, none⟩ = some (.int .i64 r) ∧ w'.cell? ⟨w.heap.size, 3, none⟩ = some (.int .i64 t))
  (first | go_keep | exact hS3 | exact hS2 | exact hS | fail)
  ((first
    | ((with_reducible refine (f1.out w1.drew (hR.out.mono EBlob.stable (hb1.out.drew)) (hE.out.mono EEntry.stable (hb1.out.drew))).mono ?_)
       rintro e w2 ⟨v2, rfl, rT, -, b2⟩
       have hb2 : Below w.heap.size w w2 := b_call hb1.out.drew b2
       have hq2 := (b2.block w.heap.size hl1).trans hq1.out
       have hS2 := box4f hq2
       obtain ⟨a3, c3, rfl, -⟩ := id rT)
    | ((with_reducible refine (f2.out _ w2 (hR.out.mono EBlob.stable hb2) rT).mono ?_)
       rintro e w3 ⟨v3, L, rfl, hC, hl, hsz, r3, o3, b3⟩
       have hb3 : Below w.heap.size w w3 := b_call hb2 b3
       have hq3 := (b3.block w.heap.size (heap_lt hq2)).trans hq2
       have hS3 := box4f hq3)
    | fail))
 replace hb3 := hid hb3
 have o4 := hid (OS.mono o3 hb2.size)
 replace hC := hid hC
 replace hsz := hid hsz
 replace r3 := hid r3
 clear hS hS2 hS3 hb2 hq2 hq3 b2 b3 hb1 hq1 hl1 f1 f2 o3
 go_wp2_with fail
 go_ret
 exact ⟨v3, L, rfl, hC.out, hl, hsz.out, r3.out, o4.out, hb3.out⟩
theorem ents_small {es : List Entry} (h : ∀ x ∈ es, x.parts.length ≤ 8) : (es.map (fun x => x.parts.length)).sum ≤ es.length * 8 := by
 induction es with
 | nil => simp
 | cons x l ih =>
   have h1 := h x List.mem_cons_self
   have h2 := ih (fun y hy => h y (List.mem_cons_of_mem _ hy))
   simp only [List.map_cons, List.sum_cons, List.length_cons]
   omega
theorem store_zero {bs : List Blob} {es : List Entry} {r t : Int} (h : storeFault bs es r t = 0) : blobsFault bs = 0 ∧ entriesFault es = 0 := by
 by_cases h1 : blobsFault bs = 0
 · by_cases h2 : entriesFault es = 0
   · exact ⟨h1, h2⟩
   rw [st2 h1 h2] at h; exact absurd h h2
 rw [st1 h1] at h; exact absurd h h1
theorem store_small {bs : List Blob} {es : List Entry} {r t : Int} (h : storeFault bs es r t = 0) : bs.length ≤ 24 ∧ es.length ≤ 10 ∧ bulkN bs es ≤ 104 := by
 obtain ⟨h1, h2⟩ := store_zero h
 have hb : bs.length ≤ 24 := by
  by_cases h3 : 24 < bs.length
  · rw [blobsFault_long h3] at h1; cases h1
  omega
 have he : es.length ≤ 10 := by
  by_cases h3 : 10 < es.length
  · rw [entriesFault_long h3] at h2; cases h2
  omega
 have hp : ∀ x ∈ es, x.parts.length ≤ 8 := fun x hx => by
  rw [entriesFault_short (by omega)] at h2
  obtain ⟨q, hq⟩ := fault_all (show faultFrom entryFault none es = 0 from h2) x hx
  exact (partsFault_zero (entryFault_zero hq).2.2.1).1
 have := ents_small hp
 refine ⟨hb, he, ?_⟩
 unfold bulkN
 omega
structure CoOut where
 err : Int
 store : Store
 coll : Coll
def noColl : Coll := ⟨0, [], ⟨#[]⟩⟩
def CoRes (o : CoOut) (w : World) (e : Ending) (w' : World) : Prop :=
 ∃ v gv, e = .returned (.tuple #[v, .agg #[.int .i64 o.coll.phase, gv, .string o.coll.place], .int .i64 o.err]) ∧ VS w' v o.store ∧ RT w' gv o.coll.grey ∧ Below w.heap.size w w'
theorem ne_type {w : World} {p g : Nat} {cs cs' : Array Value} {T T' : TypeId} {fr fr' : Nat × Nat} (h : w.heap[g]? = some (.cells cs T fr)) (h' : w.heap[p]? = some (.cells cs' T' fr')) (hT : T ≠ T') : p ≠ g := by
 rintro rfl
 rw [h] at h'
 simp only [Option.some.injEq, Obj.cells.injEq] at h'
 exact hT h'.2.1
theorem EStr.write {w : World} {p q : Nat} {u : Value} (hp : SBox w p) {b o : Nat} {x : ByteArray} (h : EStr w b o x) : EStr (w.setCell ⟨p, q, none⟩ u) b o x := ⟨(cell_apart (hp.str h.1)).trans h.1, h.2⟩
theorem EStr.writes : ∀ (w : World) (p q : Nat) (u : Value), SBox w p → ∀ b o x, EStr w b o x → EStr (w.setCell ⟨p, q, none⟩ u) b o x := fun _ _ _ _ h _ _ _ => EStr.write h
theorem OS.boxS4 {w : World} {B q : Nat} {v a b c d u0 u1 u2 u3 : Value} {l : List ByteArray} {T : TypeId} (h : OS 9 1 cStr w B v l) (hq : w.heap[q]? = some (.cells #[a, b, c, d] T (0, 0))) (hT : T ≠ 9) : OS 9 1 cStr (World.box4 w q u0 u1 u2 u3) B v l :=
 OS.other (OS.other (OS.other (OS.other h hq hT) (box4_0 hq) hT) (box4_1 (box4_0 hq)) hT) (box4_2 (box4_1 (box4_0 hq))) hT
theorem OS.boxS3 {w : World} {B q : Nat} {v a b c u0 u1 u2 : Value} {l : List ByteArray} {T : TypeId} (h : OS 9 1 cStr w B v l) (hq : w.heap[q]? = some (.cells #[a, b, c] T (0, 0))) (hT : T ≠ 9) : OS 9 1 cStr (World.box3 w q u0 u1 u2) B v l :=
 OS.other (OS.other (OS.other h hq hT) (box3_0 hq) hT) (box3_1 (box3_0 hq)) hT
theorem rt_sizes {w : World} {v : Value} {l : List ByteArray} (h : RT w v l) : ∀ x ∈ l, x.size ≤ 140737488351232 := fun x hx => by
 obtain ⟨i, hi⟩ := List.getElem?_of_mem hx
 obtain ⟨_, _, _, _, _, _, _, hat⟩ := h
 obtain ⟨_, _, _, _, he⟩ := hat i x hi
 exact he.2
theorem rt_bound {w : World} {v : Value} {l : List ByteArray} (h : RT w v l) : l.length * 16 ≤ 140737488351232 := by
 obtain ⟨_, _, _, _, _, hre, _⟩ := h
 exact hre
open Classical in
noncomputable def comesOf (l : List Blob) (ds : List ByteArray) : List ByteArray := if h : ∃ L, Comes l ds L then Classical.choose h else []
theorem Comes.eq {l : List Blob} {ds L : List ByteArray} (h : Comes l ds L) : L = comesOf l ds := by
 have hx : ∃ L, Comes l ds L := ⟨L, h⟩
 unfold comesOf
 rw [dif_pos hx]
 exact h.only (Classical.choose_spec hx)
noncomputable def allOf (bs : List Blob) (es : List Entry) : List ByteArray := comesOf bs (rootsL bs es)
def AllPost (bs : List Blob) (L : List ByteArray) (w : World) (e : Ending) (w' : World) : Prop :=
 ∃ v, e = .returned v ∧ L.length ≤ bs.length ∧ RT w' v L ∧ OS 9 1 cStr w' w.heap.size v L ∧ Below w.heap.size w w'
theorem FromPost.all {l : List Blob} {ds : List ByteArray} {w w' : World} {e : Ending} (h : FromPost l ds w e w') : AllPost l (comesOf l ds) w e w' := by
 obtain ⟨v, L, h1, h2, h3, -, h5, h6, h7⟩ := h
 obtain rfl := h2.eq
 exact ⟨v, h1, h3, h5, h6, h7⟩
theorem FromPost.comes {l : List Blob} {ds : List ByteArray} {w w' : World} {e : Ending} (h : FromPost l ds w e w') : Comes l ds (comesOf l ds) := by
 obtain ⟨v, L, h1, h2, -⟩ := h
 obtain rfl := h2.eq
 exact h2
theorem getD_at {l : List ByteArray} {j : Nat} (h : j < l.length) : l.getD j ByteArray.empty = l[j] := by rw [List.getD_eq_getElem?_getD, List.getElem?_eq_getElem h]; rfl
theorem containsS_isIn (l : List ByteArray) (s : ByteArray) : Lib.containsS l s = isIn s l := by
 rw [Bool.eq_iff_iff, isIn_iff]
 exact Lib.containsS_iff l s
theorem slices_Contains_str (v : Value) (l : List ByteArray) (s : ByteArray) (w : World) (h : RT w v l) :
 Calls Tryz.prog 197 #[v, .string s] w fun e w' => e = .returned (.bool (isIn s l)) ∧ w' = w := by
 have hb := rt_bound h
 have hT := h
 obtain ⟨a, c, rfl, -, -, -, hno, hat⟩ := h
 cases hl : l with
 | nil =>
   refine (Tryz.slices_Contains_string_empty a c s w).mono ?_
   rintro e w' ⟨rfl, rfl⟩
   exact ⟨rfl, rfl⟩
 | cons x l' =>
   rw [← hl]
   have h0 : l[0]? = some x := by rw [hl]; rfl
   obtain ⟨b, off, rfl, -⟩ := hat 0 x h0
   have hc : ∀ j, j < l.length → w.cell? ⟨b, off + j, none⟩ = some (.string (l.getD j ByteArray.empty)) := fun j hj => by
    obtain ⟨b', off', hab, -, he⟩ := hat j l[j] (List.getElem?_eq_getElem hj)
    simp only [Option.some.injEq, Addr.mk.injEq, and_true] at hab
    obtain ⟨rfl, rfl⟩ := hab
    rw [getD_at hj]
    have := he.1
    rwa [Nat.mul_one] at this
   refine (Tryz.slices_Contains_string b off l.length c l s w (Nat.le_refl _) (by omega) hc).mono ?_
   rintro e w' ⟨rfl, rfl⟩
   rw [List.take_length, containsS_isIn]
   exact ⟨rfl, rfl⟩
end Go.Proofs.YtpkpgehiplhkpaaGreat

namespace Go.Proofs.YtpkpgehiplhkpaaGreat
open Go.RowKit Go.Maps Go.Lib
theorem qzcnx_1 {P : Prop} (h : P := by omega) : P := h
theorem rising_only {R R' : List ByteArray} (h : Rising id R) (h' : Rising id R') (hm : ∀ x, x ∈ R ↔ x ∈ R') : R = R' :=
 (rising_sortS h hm (rising_nodup h')).symm.trans (rising_sortS h' (fun _ => Iff.rfl) (rising_nodup h'))
theorem lt_of_le_ne {a b : List UInt8} (h : a ≤ b) (hn : a ≠ b) : a < b := by
 by_cases hl : a < b
 · exact hl
 exact absurd (List.le_antisymm h (List.not_lt.1 hl)) hn
theorem compactUpTo_sorted (d : Array (List UInt8)) (hs : ∀ i j, i < j → j < d.size → d[i]! ≤ d[j]!) : ∀ m, m ≤ d.size → (compactUpTo d m).Pairwise (· < ·) ∧ (∀ x, x ∈ compactUpTo d m ↔ ∃ j, j < m ∧ d[j]! = x)
 | 0, _ => ⟨by simp [compactUpTo], fun x => by simp [compactUpTo]⟩
 | m + 1, h => by
   obtain ⟨h1, h2⟩ := compactUpTo_sorted d hs m qzcnx_1
   rw [compactUpTo_succ]
   by_cases hk : keeps d m = true
   · rw [if_pos hk]
     refine ⟨List.pairwise_append.2 ⟨h1, List.pairwise_singleton _ _, fun x hx y hy => ?_⟩, fun x => ?_⟩
     · rw [List.mem_singleton] at hy
       subst hy
       obtain ⟨j, hj, rfl⟩ := (h2 x).1 hx
       have hne : d[m - 1]! ≠ d[m]! := by
        unfold keeps at hk
        rw [decide_eq_true_eq] at hk
        rcases hk with h0 | h0
        · omega
        exact fun e => h0 e.symm
       have h4 : d[m - 1]! < d[m]! := lt_of_le_ne (hs _ _ qzcnx_1 qzcnx_1) hne
       by_cases e : j = m - 1
       · rw [e]; exact h4
       exact List.lt_of_le_of_lt (hs _ _ qzcnx_1 qzcnx_1) h4
     rw [List.mem_append, h2 x, List.mem_singleton]
     constructor
     · rintro (⟨j, hj, e⟩ | e)
       · exact ⟨j, by omega, e⟩
       exact ⟨m, by omega, e.symm⟩
     rintro ⟨j, hj, e⟩
     by_cases hjm : j = m
     · subst hjm; exact .inr e.symm
     exact .inl ⟨j, by omega, e⟩
   rw [if_neg hk, List.append_nil]
   refine ⟨h1, fun x => (h2 x).trans ⟨fun ⟨j, hj, e⟩ => ⟨j, by omega, e⟩, fun ⟨j, hj, e⟩ => ?_⟩⟩
   unfold keeps at hk
   rw [decide_eq_true_eq] at hk
   by_cases hjm : j = m
   · subst hjm
     have h0 : j ≠ 0 := fun h0 => hk (.inl h0)
     have h3 : d[j]! = d[j - 1]! := Classical.not_not.1 fun h3 => hk (.inr h3)
     exact ⟨j - 1, by omega, by rw [← h3]; exact e⟩
   exact ⟨j, by omega, e⟩
theorem compact_rising (M : List ByteArray) : (compact ((M.map (fun s => s.data.toList)).mergeSort leB)).map bstr = risingL M := by
 have tr : ∀ a b c : List UInt8, leB a b = true → leB b c = true → leB a c = true := fun a b c h1 h2 => by simp only [leB, decide_eq_true_eq] at *; exact List.le_trans h1 h2
 have to : ∀ a b : List UInt8, (leB a b || leB b a) = true := fun a b => by simp only [leB, Bool.or_eq_true, decide_eq_true_eq]; exact List.le_total a b
 have hp := List.pairwise_mergeSort tr to (M.map (fun s => s.data.toList))
 have hm : ∀ x, x ∈ (M.map (fun s => s.data.toList)).mergeSort leB ↔ x ∈ M.map (fun s => s.data.toList) := fun x => List.mem_mergeSort
 generalize (M.map (fun s => s.data.toList)).mergeSort leB = S at *
 obtain ⟨h1, h2⟩ := compactUpTo_sorted S.toArray (fun i j hij hj => by
  have hj' : j < S.length := by simpa using hj
  have := List.pairwise_iff_getElem.1 hp i j qzcnx_1 hj' hij
  simp only [leB, decide_eq_true_eq] at this
  rw [getElem!_pos S.toArray i (by simp; omega), getElem!_pos S.toArray j hj]
  exact this) S.length (by simp)
 have g1 := foldl_ins M [] .nil
 refine rising_only (List.pairwise_map.2 (h1.imp fun {a b} hab => ?_)) g1.1 fun x => ?_
 · rw [id, id, slt_list, decide_eq_true_eq]
   exact hab
 show _ ↔ x ∈ M.foldl insS []
 rw [g1.2 x, List.mem_map]
 constructor
 · rintro ⟨y, hy, rfl⟩
   obtain ⟨j, hj, rfl⟩ := (h2 y).1 hy
   have hjs : S.toArray[j]! ∈ S := by
    rw [getElem!_pos S.toArray j (by simpa using hj)]
    simp
   obtain ⟨z, hz, he⟩ := List.mem_map.1 ((hm _).1 hjs)
   rw [← he]
   exact .inr hz
 rintro (h | h)
 · cases h
 have hx : x.data.toList ∈ S := (hm _).2 (List.mem_map.2 ⟨x, h, rfl⟩)
 obtain ⟨j, hj, he⟩ := List.mem_iff_getElem.1 hx
 exact ⟨x.data.toList, (h2 _).2 ⟨j, hj, by rw [getElem!_pos S.toArray j (by simpa using hj)]; simpa using he⟩, rfl⟩
set_option maxRecDepth 100000 in
set_option maxHeartbeats 1000000 in
theorem slices_Grow_str (n : Nat) (w : World) (hn : n * 16 ≤ 140737488355328) :
 Calls Tryz.prog 198 #[.slice none 0 0, .int .i64 (n : Int)] w fun e w' => ∃ v, e = .returned v ∧ OS 9 1 cStr w' w.heap.size v ([] : List ByteArray) ∧ Below w.heap.size w w' := by
 obtain ⟨i0, hi, hz0, hz1, hz2⟩ := info_parts info_str
 have h2 : wrap64 ((0 : Int) - (0 : Int)) = 0 := by unfold wrap64; omega
 by_cases h0 : n = 0
 · subst h0
   go_enter Tryz.func198, Tryz.ntmps198
   go_wp2
   go_ret
   exact ⟨_, rfl, OS.nil, Below.refl _ _⟩
 have h3 : wrap64 ((n : Int) - (0 : Int)) = (n : Int) := by unfold wrap64; omega
 have h4 : decide ((n : Int) > 0) = true := decide_eq_true qzcnx_1
 have h5 : decide ((n : Int) < 0) = false := decide_eq_false qzcnx_1
 obtain ⟨G, hG⟩ : ∃ G, G = grownCap w n 0 9 := ⟨_, rfl⟩
 obtain ⟨cur, hcur⟩ : ∃ cur : Array Value, cur = (#[] : Array Value) ++ Builtin.zeroCells (Value.string ⟨#[]⟩).cells n ++ Builtin.zeroCells (Value.string ⟨#[]⟩).cells (G - n) := ⟨_, rfl⟩
 have hGn : n ≤ G := by rw [hG]; exact grownCap_ge w _ _ _
 have hGm : G ≤ maxLen := by rw [hG]; exact grownCap_le_maxLen w n 0 9 (by unfold maxLen; omega)
 have hcs : cur.size = G * 1 := by
  rw [hcur]
  simp [Builtin.zeroCells, Value.cells]
  omega
 have hrz : ∀ ty, (Builtin.append_ #[30, 3] ty #[.slice none 0 0, .int .i64 (n : Int)]).run Tryz.prog w = .ok (.slice (some ⟨w.heap.size, 0, none⟩) n G) (w.drew.alloc (.cells cur 9)) := fun ty => by
  have h := Lib.run_append_grow_zeros w 30 3 ty 9 i0 _ .i64 .i64 Tryz.underlying30 Tryz.underlying3 hi hz0 none 0 0 [] (run_firstCells_none w.drew i0.size 0 0 0) n qzcnx_1 qzcnx_1 qzcnx_1 qzcnx_1 (by rw [hz2]; omega) (growslice_fits qzcnx_1 (by rw [hz2]; omega))
  rw [Nat.zero_add] at h
  rw [hcur, hG]
  exact h
 have hown : OS 9 1 cStr (w.drew.alloc (.cells cur 9)) w.heap.size (.slice (some ⟨w.heap.size, 0, none⟩) 0 G) ([] : List ByteArray) := World.ownsRow_made w.drew cur G (Nat.le_refl _) hGm hcs
 replace hown := hid hown
 have hb := hid (b_alloc (Below.refl _ w).drew (.cells cur 9))
 clear hcur hG hcs
 go_enter Tryz.func198, Tryz.ntmps198
 go_wp2_with (at_builtin; refine Lib.wpList_append_run _ rfl _ _ _ _ rfl _ _ rfl rfl _ _ (hrz _) ?_)
 go_ret
 exact ⟨_, rfl, hown.out, hb.out⟩
set_option maxRecDepth 100000 in
set_option maxHeartbeats 2000000 in
theorem slices_Concat_str (x y : Value) (g m : List ByteArray) (q : Nat) (w : World) (hq : w.heap[q]? = some (.cells #[x, y] 30 (0, 0))) (hx : RT w x g) (hy : RT w y m) (hl : (g.length + m.length) * 16 ≤ 140737488355328) :
 Calls Tryz.prog 131 #[.slice (some ⟨q, 0, none⟩) 2 2] w fun e w' => ∃ v, e = .returned v ∧ OS 9 1 cStr w' w.heap.size v (g ++ m) ∧ Below w.heap.size w w' := by
 obtain ⟨i0, ii0, hz0, hz1, hz2⟩ := info_parts info_str
 have hX := hid hx
 have hY := hid hy
 have hQ := hid hq
 obtain ⟨a, c, rfl, -⟩ := hx
 obtain ⟨a2, c2, rfl, -⟩ := hy
 have hG := hid (slices_Grow_str (g.length + m.length) w hl)
 rw [Int.natCast_add] at hG
 obtain ⟨x0, x1⟩ := box2g hq
 have h1 : wrap64 ((0 : Int) + (g.length : Int)) = (g.length : Int) := by unfold wrap64; omega
 have h2 : wrap64 ((g.length : Int) + (m.length : Int)) = (g.length : Int) + (m.length : Int) := by unfold wrap64; omega
 have h3 : decide ((g.length : Int) < 0) = false := decide_eq_false qzcnx_1
 have h4 : decide ((g.length : Int) + (m.length : Int) < 0) = false := decide_eq_false qzcnx_1
 go_enter Tryz.func131, Tryz.ntmps131
 go_wp2_with fail
 refine wp_loop_rounds 3 ?_
 rw [rounds_succ]
 go_wp2_with fail
 rw [rounds_succ]
 go_wp2_with fail
 rw [rounds_succ]
 go_wp2_with fail
 ((with_reducible refine hG.out.mono ?_); rintro e w1 ⟨v1, rfl, o1, b1⟩)
 have hq1 := stays b1 hQ.out
 have hs1 := b1.size
 have rx1 := hid (hX.out.mono EStr.stable b1)
 have ry1 := hid (hY.out.mono EStr.stable b1)
 have hb1 := hid b1
 replace o1 := hid o1
 clear x0 x1 hG b1
 obtain ⟨x0, x1⟩ := box2g hq1
 have hq1' := hid hq1
 clear hq1
 go_wp2_with fail
 refine wp_loop_rounds 3 ?_
 rw [rounds_succ]
 go_wp2_with (at_builtin; go_must (refine wpL_append flat_str rfl (.tmp 31) (.tmp 32) 30 rfl 9 i0 _ Tryz.underlying30 ii0 hz0 hz1 hz2 rfl w.heap.size _ _ rfl o1.out _ g rfl rx1.out ?c1 ?c2 ?c3 ?_))
 case c1 => simp; omega
 case c2 => simp [maxLen]; omega
 case c3 => omega
 intro v2 w2 o2 g2
 have hb2 := hid (hb1.out.grown g2 hs1 (OS.block o1.out))
 have hs2 := hb2.out.size
 have ry2 := hid (hY.out.mono EStr.stable hb2.out)
 have hq2 := hid (stays hb2.out hQ.out)
 replace o2 := hid o2
 clear x0 x1 g2 o1 rx1 ry1 hb1 hq1'
 obtain ⟨x0, x1⟩ := box2g hq2.out
 go_wp2_with fail
 rw [rounds_succ]
 go_wp2_with (at_builtin; go_must (refine wpL_append flat_str rfl (.tmp 31) (.tmp 32) 30 rfl 9 i0 _ Tryz.underlying30 ii0 hz0 hz1 hz2 rfl w.heap.size _ _ rfl o2.out _ m rfl ry2.out ?c1 ?c2 ?c3 ?_))
 case c1 => omega
 case c2 => simp [maxLen]; omega
 case c3 => omega
 intro v3 w3 o3 g3
 have hb3 := hid (hb2.out.grown g3 hs2 (OS.block o2.out))
 replace o3 := hid o3
 clear x0 x1 g3 o2 ry2 hb2 hq2
 go_wp2_with fail
 rw [rounds_succ]
 go_wp2_with fail
 go_ret
 exact ⟨_, rfl, o3.out, hb3.out⟩
theorem flat_enc (R : List ByteArray) : R.flatMap cStr = (R.map (fun s => s.data.toList)).map Go.Proofs.encStr := (map_str R).symm
theorem flat_enc' (R : List (List UInt8)) : (R.map bstr).flatMap cStr = R.map Go.Proofs.encStr := by
 rw [flat_enc]
 refine congrArg (List.map Go.Proofs.encStr) ?_
 rw [List.map_map]
 exact List.map_id'' (f := (fun s : ByteArray => s.data.toList) ∘ bstr) (fun s => rfl) R
theorem slices_Sort_own (v : Value) (M : List ByteArray) (B : Nat) (w : World) (h : OS 9 1 cStr w B v M) (hl : M.length ≤ 140737488351232) :
 Calls Tryz.prog 245 #[v] w fun e w' => e = .returned (.tuple #[]) ∧ OS 9 1 cStr w' B v (sortS M) ∧ w.grownBy w' v.ownBlock := by
 have hf : OS 9 1 cStr w B v M := h
 unfold OS at hf
 rw [flat_enc] at hf
 rcases hf.2 with ⟨rfl, hn⟩ | ⟨g, cap, cur, rfl, hB, hb, h1, h2, h3, h4⟩
 · obtain rfl : M = [] := List.eq_nil_of_length_eq_zero hn
   refine (Tryz.slices_Sort_string_none none 0 w).mono ?_
   rintro e w' ⟨rfl, rfl⟩
   exact ⟨rfl, by rw [show sortS [] = [] by simp [sortS]]; exact OS.nil, ⟨rfl, rfl, rfl, Nat.le_refl _, fun _ _ _ => rfl⟩⟩
 have hlen : M.length = (M.map (fun s => s.data.toList)).length := by rw [List.length_map]
 have hH := holds_of_block hb (ss := M.map (fun s => s.data.toList)) (by rw [← hlen, ← Nat.mul_one M.length]; exact h4)
 refine (by
  have hc := Tryz.slices_Sort_string g 0 cap (M.map (fun s => s.data.toList)) w hH (Array.getElem?_eq_some_iff.1 hb).1 (by rw [← hlen]; omega)
  rw [← hlen] at hc
  exact hc : Calls Tryz.prog 245 #[.slice (some ⟨g, 0, none⟩) M.length cap] w _).mono ?_
 rintro e w' ⟨rfl, n, os, rfl⟩
 refine ⟨rfl, ?_, grownBy_sorted _⟩
 have hs := ownsRow_sorted (n := n) (os := os) (ss := M.map (fun s => s.data.toList)) (ts := (M.map (fun s => s.data.toList)).mergeSort fun x y => decide (x ≤ y)) (by simp) hB hb (by rw [← hlen]; exact h1) h2 h3
 unfold OS
 rw [sortS_len, show (sortS M).flatMap cStr = ((M.map (fun s => s.data.toList)).mergeSort fun x y => decide (x ≤ y)).map Go.Proofs.encStr from flat_enc' _]
 rw [← hlen] at hs
 exact hs
theorem slices_Compact_own (v : Value) (M : List (List UInt8)) (B : Nat) (w : World) (h : OS 9 1 cStr w B v (M.map bstr)) (hl : M.length ≤ 140737488351232) :
 Calls Tryz.prog 276 #[v] w fun e w' => ∃ v', e = .returned v' ∧ OS 9 1 cStr w' B v' ((Lib.compact M).map bstr) ∧ w.grownBy w' v.ownBlock := by
 have hf : OS 9 1 cStr w B v (M.map bstr) := h
 unfold OS at hf
 rw [flat_enc', List.length_map] at hf
 rcases hf.2 with ⟨rfl, hn⟩ | ⟨g, cap, cur, rfl, hB, hb, h1, h2, h3, h4⟩
 · obtain rfl : M = [] := List.eq_nil_of_length_eq_zero hn
   refine (Tryz.slices_Compact_string_empty none 0 w).mono ?_
   rintro e w' ⟨rfl, rfl⟩
   exact ⟨_, rfl, OS.nil, ⟨rfl, rfl, rfl, Nat.le_refl _, fun _ _ _ => rfl⟩⟩
 have hH := holds_of_block hb (ss := M) (by rw [← Nat.mul_one M.length]; exact h4)
 refine (Tryz.slices_Compact_string g 0 cap M w hH qzcnx_1 h1).mono ?_
 rintro e w' ⟨rfl, q, hw⟩
 have hle := Lib.compact_length_le M
 have hgr := grownBy_sorted (n := q) (os := #[]) (w := w) (g := g) (Lib.compact M ++ List.replicate (M.length - (Lib.compact M).length) []).toArray
 have hs := ownsRow_sorted (n := q) (os := #[]) (ss := M) (ts := Lib.compact M ++ List.replicate (M.length - (Lib.compact M).length) []) (by simp; omega) hB hb h1 h2 h3
 rw [Go.Sort.grow_empty] at hs hgr
 rw [← hw] at hs hgr
 refine ⟨_, rfl, ?_, hgr⟩
 have hs2 : OS 9 1 cStr w' B (.slice (some ⟨g, 0, none⟩) M.length cap) ((Lib.compact M ++ List.replicate (M.length - (Lib.compact M).length) []).map bstr) := by
  have e9 : (Lib.compact M ++ List.replicate (M.length - (Lib.compact M).length) []).length = M.length := by simp; omega
  unfold OS
  rw [flat_enc', List.length_map, e9]
  exact hs
 have hs3 := OS.upto (s := 1) (cells := cStr) (fun _ => rfl) hs2 (Lib.compact M).length hle
 rw [← List.map_take, List.take_left] at hs3
 exact hs3
set_option maxRecDepth 100000 in
set_option maxHeartbeats 400000 in
theorem slices_Clone_str (v : Value) (l : List ByteArray) (w : World) (h : RT w v l) :
 Calls Tryz.prog 124 #[v] w fun e w' => ∃ v', e = .returned v' ∧ OS 9 1 cStr w' w.heap.size v' l ∧ Below w.heap.size w w' := by
 obtain ⟨i0, hi, hz0, hz1, hz2⟩ := info_parts info_str
 have hh := h
 obtain ⟨a, c, rfl, hlc, hcm, hre, hno, hat⟩ := hh
 cases a with
 | none =>
   have hc0 := hno rfl
   subst hc0
   have hl0 : l = [] := List.eq_nil_of_length_eq_zero qzcnx_1
   subst hl0
   have he := fun w => Lib.run_eql_slice_nil (P := Tryz.prog) w 30 9 none 0 0 0 0 Tryz.underlying30
   go_enter Tryz.func124, Tryz.ntmps124
   go_wp2
   go_ret
   exact ⟨_, rfl, OS.nil, Below.refl _ _⟩
 | some ad =>
   have he := fun w => Lib.run_eql_slice_nil (P := Tryz.prog) w 30 9 (some ad) l.length c 0 0 Tryz.underlying30
   clear hat
   go_enter Tryz.func124, Tryz.ntmps124
   go_wp2_with (at_builtin; go_must (refine wpL_append flat_str rfl (.tmp 5) (.tmp 6) 30 rfl 9 i0 _ Tryz.underlying30 hi hz0 hz1 hz2 rfl w.heap.size _ [] rfl (os_empty' _ _ _ _ (by simp) (by simp)) _ l rfl (h.mono EStr.stable (b_alloc (Below.refl _ _) _)) ?c1 ?c2 ?c3 ?_))
   case c1 => simp; omega
   case c2 => simp [maxLen]; omega
   case c3 => simp
   intro v' w1 hown hg
   have hb := b_grown (b_alloc (Below.refl _ w) (.cells #[] 9)) hg (fun k hk => by simp [Value.ownBlock] at hk; omega)
   clear hg
   go_wp2
   go_ret
   exact ⟨_, rfl, hown, hb⟩
def addedL (g m : List ByteArray) : List ByteArray := risingL (g ++ m)
theorem addedL_mem (g m : List ByteArray) (x : ByteArray) : x ∈ addedL g m ↔ x ∈ g ∨ x ∈ m := by
 unfold addedL risingL
 rw [(foldl_ins (g ++ m) [] .nil).2 x]
 simp
theorem compact_len_map (M : List ByteArray) : (risingL M).length ≤ M.length := by
 rw [← compact_rising, List.length_map]
 exact Nat.le_trans (Lib.compact_length_le _) (by simp)
def AddPost (g m : List ByteArray) (w : World) (e : Ending) (w' : World) : Prop := ∃ v, e = .returned v ∧ RT w' v (addedL g m) ∧ OS 9 1 cStr w' w.heap.size v (addedL g m) ∧ Below w.heap.size w w'
set_option maxRecDepth 100000 in
set_option maxHeartbeats 1000000 in
theorem mark_Add (x y : Value) (g m : List ByteArray) (w : World) (hx : RT w x g) (hy : RT w y m) (hl : (g.length + m.length) * 16 ≤ 140737488351232) (hs : ∀ s ∈ g ++ m, s.size ≤ 140737488351232) :
 Calls Tryz.prog 250 #[x, y] w (AddPost g m w) := by
 have hX := hid hx
 have hY := hid hy
 obtain ⟨a, c, rfl, -⟩ := hx
 obtain ⟨a2, c2, rfl, -⟩ := hy
 have hq0 := heap_alloc_new w (Obj.cells #[.slice a g.length c, .slice a2 m.length c2] 30)
 have hb0 := b_alloc (Below.refl _ w) (Obj.cells #[.slice a g.length c, .slice a2 m.length c2] 30)
 have hC := hid (slices_Concat_str _ _ g m w.heap.size _ hq0 (hX.out.mono EStr.stable hb0) (hY.out.mono EStr.stable hb0) qzcnx_1)
 replace hb0 := hid hb0
 replace hs := hid hs
 clear hq0
 go_enter Tryz.func250, Tryz.ntmps250
 go_wp2_with fail
 ((with_reducible refine hC.out.mono ?_); rintro e w1 ⟨v1, rfl, o1, b1⟩)
 have hb1 := hid (b_call hb0.out b1)
 replace o1 := hid (OS.mono o1 hb0.out.size)
 clear hC b1
 go_wp2_with fail
 ((with_reducible refine (slices_Sort_own v1 (g ++ m) w.heap.size _ o1.out (by rw [List.length_append]; omega)).mono ?_); rintro e w2 ⟨rfl, o2, g2⟩)
 have hb2 := hid (hb1.out.grown g2 hb1.out.size (OS.block o1.out))
 replace o2 := hid o2
 clear g2 o1 hb1
 go_wp2_with fail
 ((with_reducible refine (slices_Compact_own v1 _ w.heap.size _ o2.out (by simp; omega)).mono ?_); rintro e w3 ⟨v3, rfl, o3, g3⟩)
 have hb3 := hid (hb2.out.grown g3 hb2.out.size (OS.block o2.out))
 rw [compact_rising] at o3
 have hrl := compact_len_map (g ++ m)
 rw [List.length_append] at hrl
 have hsz := hid (show ∀ s ∈ risingL (g ++ m), s.size ≤ 140737488351232 from fun s h => hs.out s (List.mem_append.2 ((addedL_mem g m s).1 h)))
 have r3 := hid (reads_str o3 qzcnx_1 hsz.out)
 clear g3 o2 hb2 o3
 go_wp2_with fail
 ((with_reducible refine (slices_Clone_str v3 _ _ r3.out).mono ?_); rintro e w4 ⟨v4, rfl, o4, b4⟩)
 have r4 := hid (reads_str o4 qzcnx_1 hsz.out)
 have hb4 := hid (b_call hb3.out b4)
 replace o4 := hid (OS.mono o4 hb3.out.size)
 clear b4 r3 hb3
 go_wp2_with fail
 go_ret
 exact ⟨_, rfl, r4.out, o4.out, hb4.out⟩
end Go.Proofs.YtpkpgehiplhkpaaGreat

namespace Go.Proofs.YtpkpgehiplhkpaaGreat
open Go.RowKit
def digsOf (x : Blob) : List ByteArray := (decParts x.data).1.map (·.digest)
theorem digs_small (x : Blob) : (digsOf x).length ≤ 8 ∧ ∀ y ∈ digsOf x, y.size ≤ 140737488351232 := by
 obtain ⟨h1, h2⟩ := decParts_len x.data
 unfold digsOf
 refine ⟨by rw [List.length_map]; exact h1, fun y hy => ?_⟩
 obtain ⟨p, hp, rfl⟩ := List.mem_map.1 hy
 exact h2 p hp
def KT (w w' : World) : Prop := ∀ (p : Nat) (cs : Array Value) (T : TypeId) (fr : Nat × Nat), w.heap[p]? = some (.cells cs T fr) → T ≠ 50 → w'.heap[p]? = some (.cells cs T fr)
theorem KT.of {w w' : World} (h : Below w.heap.size w w') : KT w w' := fun _ _ _ _ hp _ => (h.block _ (heap_lt hp)).trans hp
theorem KT.call {w w1 w' : World} (h : KT w w1) (hb : Below w1.heap.size w1 w') : KT w w' := fun p cs T fr hp hT => KT.of hb p cs T fr (h p cs T fr hp hT) hT
theorem KT.set {w w1 : World} {g o : Nat} {cs : Array Value} {fr : Nat × Nat} {u : Value} (h : KT w w1) (hg : w1.heap[g]? = some (.cells cs 50 fr)) : KT w (w1.setCell ⟨g, o, none⟩ u) := fun _ _ _ _ hp hT =>
 box_other (h _ _ _ _ hp hT) (ne_type hg (h _ _ _ _ hp hT) (fun e => hT e.symm))
theorem KT.new {w w1 : World} {q o : Nat} {u : Value} (h : KT w w1) (hq : w.heap.size ≤ q) : KT w (w1.setCell ⟨q, o, none⟩ u) := fun _ _ _ _ hp hT =>
 box_other (h _ _ _ _ hp hT) (by have := heap_lt hp; omega)
theorem KT.box4 {w w1 : World} {q : Nat} (h : KT w w1) (hq : w.heap.size ≤ q) (u0 u1 u2 u3 : Value) : KT w (World.box4 w1 q u0 u1 u2 u3) := (((h.new hq).new hq).new hq).new hq
theorem KT.box3 {w w1 : World} {q : Nat} (h : KT w w1) (hq : w.heap.size ≤ q) (u0 u1 u2 : Value) : KT w (World.box3 w1 q u0 u1 u2) := ((h.new hq).new hq).new hq
theorem bB_box4 {B : Nat} {w W : World} (h : Below B w W) {q : Nat} (hq : B ≤ q) (u0 u1 u2 u3 : Value) : Below B w (World.box4 W q u0 u1 u2 u3) :=
 (((h.setCell (p := ⟨q, 0, none⟩) hq u0).setCell (p := ⟨q, 1, none⟩) hq u1).setCell (p := ⟨q, 2, none⟩) hq u2).setCell (p := ⟨q, 3, none⟩) hq u3
theorem bB_box3 {B : Nat} {w W : World} (h : Below B w W) {q : Nat} (hq : B ≤ q) (u0 u1 u2 : Value) : Below B w (World.box3 W q u0 u1 u2) :=
 ((h.setCell (p := ⟨q, 0, none⟩) hq u0).setCell (p := ⟨q, 1, none⟩) hq u1).setCell (p := ⟨q, 2, none⟩) hq u2
theorem reach_PartsD (x : Blob) (dv : Value) (w : World) (h : RB w dv x.data) :
 Calls Tryz.prog 126 #[.agg #[.string x.digest, dv, .int .i64 x.pins, .bool x.mark]] w fun e w' => ∃ v', e = .returned v' ∧ OS 9 1 cStr w' w.heap.size v' (digsOf x) ∧ Below w.heap.size w w' :=
 reach_Parts' x dv w h (decParts x.data).1 (decParts x.data).2 (fun w g => manifest_Decode dv x.data w g)
end Go.Proofs.YtpkpgehiplhkpaaGreat

namespace Go.Proofs.YtpkpgehiplhkpaaGreat
open Go.RowKit
theorem by_fact {P Q : Prop} (h : P) (k : P → Q) : Q := k h
theorem alloc_keep {w : World} {k : Nat} {x o : Obj} (h : w.heap[k]? = some x) : (w.alloc o).heap[k]? = some x := (heap_alloc_old w o (heap_lt h)).trans h
theorem SBox.of {w : World} {p : Nat} {a : Option Addr} {n c : Nat} {a' : Option Addr} {n' c' : Nat} {r t : Int} {T : TypeId} (h : w.heap[p]? = some (.cells #[.slice a n c, .slice a' n' c', .int .i64 r, .int .i64 t] T (0, 0))) : SBox w p := ⟨_, _, _, _, _, _, _, _, _, h⟩
theorem CBox.of {w : World} {p : Nat} {k : Int} {a : Option Addr} {n c : Nat} {s : ByteArray} {T : TypeId} (h : w.heap[p]? = some (.cells #[.int .i64 k, .slice a n c, .string s] T (0, 0))) : CBox w p := ⟨_, _, _, _, _, _, h⟩
theorem SBox.wr0 {w : World} {p : Nat} {a : Option Addr} {n c : Nat} (h : SBox w p) : SBox (w.setCell ⟨p, 0, none⟩ (.slice a n c)) p := by
 obtain ⟨_, _, _, _, _, _, _, _, _, h⟩ := h
 exact .of (box4_0 h)
theorem SBox.wr1 {w : World} {p : Nat} {a : Option Addr} {n c : Nat} (h : SBox w p) : SBox (w.setCell ⟨p, 1, none⟩ (.slice a n c)) p := by
 obtain ⟨_, _, _, _, _, _, _, _, _, h⟩ := h
 exact .of (box4_1 h)
theorem SBox.wr2 {w : World} {p : Nat} {k : Int} (h : SBox w p) : SBox (w.setCell ⟨p, 2, none⟩ (.int .i64 k)) p := by
 obtain ⟨_, _, _, _, _, _, _, _, _, h⟩ := h
 exact .of (box4_2 h)
theorem CBox.wr0 {w : World} {p : Nat} {k : Int} (h : CBox w p) : CBox (w.setCell ⟨p, 0, none⟩ (.int .i64 k)) p := by
 obtain ⟨_, _, _, _, _, _, h⟩ := h
 exact .of (box3_0 h)
theorem CBox.wr1 {w : World} {p : Nat} {a : Option Addr} {n c : Nat} (h : CBox w p) : CBox (w.setCell ⟨p, 1, none⟩ (.slice a n c)) p := by
 obtain ⟨_, _, _, _, _, _, h⟩ := h
 exact .of (box3_1 h)
theorem CBox.wr2 {w : World} {p : Nat} {s : ByteArray} (h : CBox w p) : CBox (w.setCell ⟨p, 2, none⟩ (.string s)) p := by
 obtain ⟨_, _, _, _, _, _, h⟩ := h
 exact .of (box3_2 h)
theorem SBox.far {w : World} {p q o : Nat} {u : Value} (h : SBox w p) (hn : p ≠ q) : SBox (w.setCell ⟨q, o, none⟩ u) p := by
 obtain ⟨_, _, _, _, _, _, _, _, _, h⟩ := h
 exact .of (box_other h hn)
theorem CBox.far {w : World} {p q o : Nat} {u : Value} (h : CBox w p) (hn : p ≠ q) : CBox (w.setCell ⟨q, o, none⟩ u) p := by
 obtain ⟨_, _, _, _, _, _, h⟩ := h
 exact .of (box_other h hn)
theorem RS.al {α : Type} {s bs : Nat} {E : World → Nat → Nat → α → Prop} {w : World} {v : Value} {l : List α} (hE : Stable E) (h : RS s bs E w v l) (o : Obj) : RS s bs E (w.alloc o) v l := h.mono hE (b_alloc (Below.refl _ _) o)
theorem OS.atS {w : World} {B q o : Nat} {v u a b c d : Value} {l : List ByteArray} (h : OS 9 1 cStr w B v l) (hq : w.heap[q]? = some (.cells #[a, b, c, d] 29 (0, 0))) : OS 9 1 cStr (w.setCell ⟨q, o, none⟩ u) B v l := OS.other h hq (by decide)
theorem OS.atC {w : World} {B q o : Nat} {v u a b c : Value} {l : List ByteArray} (h : OS 9 1 cStr w B v l) (hq : w.heap[q]? = some (.cells #[a, b, c] 32 (0, 0))) : OS 9 1 cStr (w.setCell ⟨q, o, none⟩ u) B v l := OS.other h hq (by decide)
theorem KT.at {w w' : World} (h : KT w w') {p : Nat} {cs : Array Value} {T : TypeId} {fr : Nat × Nat} (hT : T ≠ 50) (hp : w.heap[p]? = some (.cells cs T fr)) : w'.heap[p]? = some (.cells cs T fr) := h p cs T fr hp hT
theorem w4_same {w : World} {q : Nat} {a b c d u0 u1 u2 u3 : Value} {T : TypeId} (h : w.heap[q]? = some (.cells #[a, b, c, d] T (0, 0))) : ((((w.setCell ⟨q, 0, none⟩ u0).setCell ⟨q, 1, none⟩ u1).setCell ⟨q, 2, none⟩ u2).setCell ⟨q, 3, none⟩ u3).heap[q]? = some (.cells #[u0, u1, u2, u3] T (0, 0)) := box4_set h
theorem w4_far {w : World} {q p : Nat} {u0 u1 u2 u3 : Value} {x : Obj} (h : w.heap[p]? = some x) (hn : p ≠ q) : ((((w.setCell ⟨q, 0, none⟩ u0).setCell ⟨q, 1, none⟩ u1).setCell ⟨q, 2, none⟩ u2).setCell ⟨q, 3, none⟩ u3).heap[p]? = some x := box4_other h hn
theorem w3_same {w : World} {q : Nat} {a b c u0 u1 u2 : Value} {T : TypeId} (h : w.heap[q]? = some (.cells #[a, b, c] T (0, 0))) : (((w.setCell ⟨q, 0, none⟩ u0).setCell ⟨q, 1, none⟩ u1).setCell ⟨q, 2, none⟩ u2).heap[q]? = some (.cells #[u0, u1, u2] T (0, 0)) := box3_2 (box3_1 (box3_0 h))
theorem w3_far {w : World} {q p : Nat} {u0 u1 u2 : Value} {x : Obj} (h : w.heap[p]? = some x) (hn : p ≠ q) : (((w.setCell ⟨q, 0, none⟩ u0).setCell ⟨q, 1, none⟩ u1).setCell ⟨q, 2, none⟩ u2).heap[p]? = some x := box_other (box_other (box_other h hn) hn) hn
theorem rs_w4 {α : Type} {s bs q : Nat} {E : World → Nat → Nat → α → Prop} {w : World} {v : Value} {l : List α} {a a' : Option Addr} {n c n' c' : Nat} {r t : Int} (hE : ∀ (w : World) (p q : Nat) (u : Value), SBox w p → ∀ b o x, E w b o x → E (w.setCell ⟨p, q, none⟩ u) b o x)
 (h : RS s bs E w v l) (hq : SBox w q) : RS s bs E ((((w.setCell ⟨q, 0, none⟩ (.slice a n c)).setCell ⟨q, 1, none⟩ (.slice a' n' c')).setCell ⟨q, 2, none⟩ (.int .i64 r)).setCell ⟨q, 3, none⟩ (.int .i64 t)) v l :=
 RS.write (RS.write (RS.write (RS.write h (hE _ _ _ _ hq)) (hE _ _ _ _ hq.wr0)) (hE _ _ _ _ hq.wr0.wr1)) (hE _ _ _ _ hq.wr0.wr1.wr2)
theorem rs_w3 {α : Type} {s bs q : Nat} {E : World → Nat → Nat → α → Prop} {w : World} {v : Value} {l : List α} {a : Option Addr} {n c : Nat} {k : Int} {s' : ByteArray} (hE : ∀ (w : World) (p q : Nat) (u : Value), CBox w p → ∀ b o x, E w b o x → E (w.setCell ⟨p, q, none⟩ u) b o x)
 (h : RS s bs E w v l) (hq : CBox w q) : RS s bs E (((w.setCell ⟨q, 0, none⟩ (.int .i64 k)).setCell ⟨q, 1, none⟩ (.slice a n c)).setCell ⟨q, 2, none⟩ (.string s')) v l :=
 RS.write (RS.write (RS.write h (hE _ _ _ _ hq)) (hE _ _ _ _ hq.wr0)) (hE _ _ _ _ hq.wr0.wr1)
theorem os_w4 {w : World} {B q : Nat} {v a b c d u0 u1 u2 u3 : Value} {l : List ByteArray} (h : OS 9 1 cStr w B v l) (hq : w.heap[q]? = some (.cells #[a, b, c, d] 29 (0, 0))) : OS 9 1 cStr ((((w.setCell ⟨q, 0, none⟩ u0).setCell ⟨q, 1, none⟩ u1).setCell ⟨q, 2, none⟩ u2).setCell ⟨q, 3, none⟩ u3) B v l := OS.boxS4 h hq (by decide)
theorem os_w3 {w : World} {B q : Nat} {v a b c u0 u1 u2 : Value} {l : List ByteArray} (h : OS 9 1 cStr w B v l) (hq : w.heap[q]? = some (.cells #[a, b, c] 32 (0, 0))) : OS 9 1 cStr (((w.setCell ⟨q, 0, none⟩ u0).setCell ⟨q, 1, none⟩ u1).setCell ⟨q, 2, none⟩ u2) B v l := OS.boxS3 h hq (by decide)
theorem b_w4 {w W : World} {B q : Nat} {u0 u1 u2 u3 : Value} (h : Below B W w) (hq : B ≤ q) : Below B W ((((w.setCell ⟨q, 0, none⟩ u0).setCell ⟨q, 1, none⟩ u1).setCell ⟨q, 2, none⟩ u2).setCell ⟨q, 3, none⟩ u3) := bB_box4 h hq u0 u1 u2 u3
theorem b_w3 {w W : World} {B q : Nat} {u0 u1 u2 : Value} (h : Below B W w) (hq : B ≤ q) : Below B W (((w.setCell ⟨q, 0, none⟩ u0).setCell ⟨q, 1, none⟩ u1).setCell ⟨q, 2, none⟩ u2) := bB_box3 h hq u0 u1 u2
end Go.Proofs.YtpkpgehiplhkpaaGreat
