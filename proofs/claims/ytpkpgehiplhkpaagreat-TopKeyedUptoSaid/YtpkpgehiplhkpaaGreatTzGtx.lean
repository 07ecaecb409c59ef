import Derived.Test.YtpkpgehiplhkpaaGreatTzSpx
namespace Go.Proofs.YtpkpgehiplhkpaaGreat
open Go.RowKit
theorem qzgtx_2 {P : Prop} (h : P := by simp [results, Tryz.results21, go_sem, m0, m1, m2, m3]; try rfl) : P := h
theorem qzgtx_1 {P : Prop} (h : P := by
 obtain ⟨m0, m1, m2, m3⟩ := box4f hp9
 unfold World.box4 at m0 m1 m2 m3 hb9
 (try simp only [Exit.inBlock, Exit.then])
 refine bodyPost_ret qzgtx_2 rfl ?_
 exact gt_no hd.out (by decide) hb9) : P := h
def gtE (z : Int) (s : ByteArray) (t : Int) (l : List Entry) : Int := if z ≠ 0 then z else match l[atKey (fun x : Entry => x.key) s l]? with | none => 5 | some _ => if (t == 1099511627776) = true then 4 else 0
def gtL (s : ByteArray) (t : Int) (l : List Entry) : List Entry := match l[atKey (fun x : Entry => x.key) s l]? with | none => l | some x => l.set (atKey (fun x : Entry => x.key) s l) { x with stamp := t + 1 }
def gtP (s : ByteArray) (l : List Entry) : List Part := match l[atKey (fun x : Entry => x.key) s l]? with | none => [] | some x => x.parts
section
variable {z t : Int} {s : ByteArray} {l : List Entry} {x : Entry}
theorem gtE_bad (h : z ≠ 0) : gtE z s t l = z := if_pos h
theorem gtE_none (h : atKey (fun x : Entry => x.key) s l = l.length) : gtE 0 s t l = 5 := by
 unfold gtE
 rw [if_neg (by simp), List.getElem?_eq_none (by omega)]
theorem gtE_some (h : l[atKey (fun x : Entry => x.key) s l]? = some x) : gtE 0 s t l = if (t == 1099511627776) = true then 4 else 0 := by
 unfold gtE
 rw [if_neg (by simp), h]
theorem gtL_some (h : l[atKey (fun x : Entry => x.key) s l]? = some x) : gtL s t l = l.set (atKey (fun x : Entry => x.key) s l) { x with stamp := t + 1 } := by unfold gtL; rw [h]
theorem gtP_some (h : l[atKey (fun x : Entry => x.key) s l]? = some x) : gtP s l = x.parts := by unfold gtP; rw [h]
end
def GtRes (err : Int) (S : Store) (P : List Part) (w : World) (e : Ending) (w' : World) : Prop :=
 ∃ v pv, e = .returned (.tuple #[v, pv, .int .i64 err]) ∧ VS w' v (if err = 0 then S else noStore) ∧ RP w' pv (if err = 0 then P else []) ∧ Below w.heap.size w w'
theorem gt_no {err n : Int} {S : Store} {P : List Part} {w w' : World} (h : err = n) (hn : n ≠ 0) (hb : Below w.heap.size w w') :
 GtRes err S P w (.returned (.tuple #[.agg #[.slice none 0 0, .slice none 0 0, .int .i64 0, .int .i64 0], .slice none 0 0, .int .i64 n])) w' := by
 subst h
 exact ⟨_, _, rfl, ⟨_, _, by rw [if_neg hn]; rfl, by rw [if_neg hn]; exact RS.nil, by rw [if_neg hn]; exact RS.nil⟩, by rw [if_neg hn]; exact RS.nil, hb⟩
theorem gt_ok {err : Int} {P : List Part} {w w' : World} {v1 v2 pv : Value} {bs : List Blob} {es : List Entry} {r t : Int} (h : err = 0) (h1 : RBl w' v1 bs) (h2 : RE w' v2 es) (h3 : RP w' pv P) (hb : Below w.heap.size w w') :
 GtRes err ⟨bs, es, r, t⟩ P w (.returned (.tuple #[.agg #[v1, v2, .int .i64 r, .int .i64 t], pv, .int .i64 0])) w' := by
 subst h
 exact ⟨_, _, rfl, ⟨v1, v2, rfl, h1, h2⟩, h3, hb⟩
set_option maxRecDepth 100000 in
set_option maxHeartbeats 2000000 in
theorem store_Get' (v u : Value) (bs : List Blob) (es : List Entry) (r t : Int) (s : ByteArray) (w : World) (h : RBl w v bs) (g : RE w u es) (z : Int)
 (hch : ∀ w, RBl w v bs → RE w u es → Calls Tryz.prog 50 #[.agg #[v, u, .int .i64 r, .int .i64 t]] w fun e w' => e = .returned (.int .i64 z) ∧ Below w.heap.size w w')
 (hc : z = 0 → 0 ≤ t ∧ t ≤ 1099511627776) :
 Calls Tryz.prog 21 #[.agg #[v, u, .int .i64 r, .int .i64 t], .string s] w (GtRes (gtE z s t es) ⟨bs, gtL s t es, r, t + 1⟩ (gtP s es) w) := by
 replace hch := hid hch
 have hR := hid h
 have hE := hid g
 have hf1 := hid (fit_B h)
 have hf2 := hid (fit_E g)
 obtain ⟨a, c, rfl, -, -, hre, -⟩ := h
 obtain ⟨a2, c2, rfl, hlc2, hcm2, hre2, -, hat2⟩ := g
 unfold maxLen at hcm2
 by_cases hz : z = 0
 · subst hz
   obtain ⟨hc0, hc1⟩ := hc rfl
   clear hc
   have hle := atKey_le (fun x : Entry => x.key) s es
   have hl1 := hid (fun x (hx : es[atKey (fun x : Entry => x.key) s es]? = some x) => gtL_some (t := t) hx)
   have hl2 := hid (fun x (hx : es[atKey (fun x : Entry => x.key) s es]? = some x) => gtP_some hx)
   have hd1 := hid (fun x (hx : es[atKey (fun x : Entry => x.key) s es]? = some x) => gtE_some (t := t) hx)
   have hd2 := hid (fun (hx : atKey (fun x : Entry => x.key) s es = es.length) => gtE_none (t := t) hx)
   have hfi : findI (fun x : Entry => x.key) s es = if atKey (fun x : Entry => x.key) s es = es.length then 0 else (atKey (fun x : Entry => x.key) s es : Int) := rfl
   have hfe : findE (fun x : Entry => x.key) s es = if atKey (fun x : Entry => x.key) s es = es.length then 5 else 0 := rfl
   generalize atKey (fun x : Entry => x.key) s es = i at *
   generalize gtE 0 s t es = err at *
   generalize gtL s t es = lh at *
   generalize gtP s es = ph at *
   by_cases hi : i = es.length
   · have hd := hid (hd2.out hi)
     rw [if_pos hi] at hfi hfe
     replace hfi := hid hfi
     replace hfe := hid hfe
     replace hi := hid hi
     clear hat2
     go_enter Tryz.func21, Tryz.ntmps21
     go_wp2_with fail
     ((with_reducible refine (hch.out _ (hR.out.mono EBlob.stable (b_alloc (b_alloc (Below.refl _ _) _) _)) (hE.out.mono EEntry.stable (b_alloc (b_alloc (Below.refl _ _) _) _))).mono ?_); rintro e w1 ⟨rfl, b1⟩)
     have hq1 := hid (stays b1 (heap_alloc2_old w (Obj.cells #[.slice a bs.length c, .slice a2 es.length c2, .int .i64 r, .int .i64 t] 29) (Obj.cells #[.slice none 0 0, .slice none 0 0, .int .i64 0, .int .i64 0] 29)))
     have hp1 := hid (stays b1 (heap_alloc2_new w (Obj.cells #[.slice a bs.length c, .slice a2 es.length c2, .int .i64 r, .int .i64 t] 29) (Obj.cells #[.slice none 0 0, .slice none 0 0, .int .i64 0, .int .i64 0] 29)))
     have hb1 := hid (b_call (b_alloc (b_alloc (Below.refl _ w) _) _) b1)
     clear b1
     obtain ⟨x0, x1, x2, x3⟩ := box4f hq1.out
     obtain ⟨y0, y1, y2, y3⟩ := box4f hp1.out
     have g0 := frozen_heap hp1.out 0
     have g1 := frozen_heap hp1.out 1
     have g2 := frozen_heap hp1.out 2
     have g3 := frozen_heap hp1.out 3
     go_wp2_with fail
     have hF := index_Find _ es s w1 (hE.out.mono EEntry.stable hb1.out)
     rw [hfi.out, hfe.out] at hF
     ((with_reducible refine hF.mono ?_); rintro e w2 ⟨rfl, b2⟩)
     have hq2 := hid (stays b2 hq1.out)
     have hp2 := hid (stays b2 hp1.out)
     have hb2 := hid (b_call hb1.out b2)
     clear b2 hF x0 x1 x2 x3 y0 y1 y2 y3 g0 g1 g2 g3 hq1 hp1 hb1
     obtain ⟨x0, x1, x2, x3⟩ := box4f hq2.out
     obtain ⟨y0, y1, y2, y3⟩ := box4f hp2.out
     have g0 := frozen_heap hp2.out 0
     have g1 := frozen_heap hp2.out 1
     have g2 := frozen_heap hp2.out 2
     have g3 := frozen_heap hp2.out 3
     go_wp2_with fail
     have hp9 := box4_same (u0 := .slice none 0 0) (u1 := .slice none 0 0) (u2 := .int .i64 0) (u3 := .int .i64 0) hp2.out
     have hb9 := b_box4 hb2.out (q := w.heap.size + 1) (Nat.le_succ _) (.slice none 0 0) (.slice none 0 0) (.int .i64 0) (.int .i64 0)
     exact qzgtx_1
   have hx : es[i]? = some es[i] := List.getElem?_eq_getElem (by omega)
   generalize es[i] = x at hx
   obtain ⟨bb, off, rfl, hbb, he⟩ := hat2 _ _ hx
   have hd3 := hid (hd1.out x hx)
   have hl3 := hid (hl1.out x hx)
   have hl4 := hid (hl2.out x hx)
   have hxf := hid ((hf2.out) x (List.mem_of_getElem? hx))
   have hmw := hid (wf_small (n := t + 1) (by omega) (by omega))
   rw [if_neg hi] at hfi hfe
   replace hfi := hid hfi
   replace hfe := hid hfe
   have hilt : i < es.length := by omega
   have hi0 : (0 : Int) ≤ (i : Int) := by omega
   have hi1 : (i : Int) < (es.length : Int) := by omega
   replace hx := hid hx
   replace he := hid he
   clear hat2 hd1 hd2 hl1 hl2
   have g5 : IntKind.i64.wrap (t + 1) = t + 1 := IntWalk.i64_in _ (by omega)
   cases ht : (t == 1099511627776) with
   | true =>
     have hd := hid (hd3.out.trans (if_pos ht))
     go_enter Tryz.func21, Tryz.ntmps21
     go_wp2_with fail
     ((with_reducible refine (hch.out _ (hR.out.mono EBlob.stable (b_alloc (b_alloc (Below.refl _ _) _) _)) (hE.out.mono EEntry.stable (b_alloc (b_alloc (Below.refl _ _) _) _))).mono ?_); rintro e w1 ⟨rfl, b1⟩)
     have hq1 := hid (stays b1 (heap_alloc2_old w (Obj.cells #[.slice a bs.length c, .slice (some ⟨bb, off, none⟩) es.length c2, .int .i64 r, .int .i64 t] 29) (Obj.cells #[.slice none 0 0, .slice none 0 0, .int .i64 0, .int .i64 0] 29)))
     have hp1 := hid (stays b1 (heap_alloc2_new w (Obj.cells #[.slice a bs.length c, .slice (some ⟨bb, off, none⟩) es.length c2, .int .i64 r, .int .i64 t] 29) (Obj.cells #[.slice none 0 0, .slice none 0 0, .int .i64 0, .int .i64 0] 29)))
     have hb1 := hid (b_call (b_alloc (b_alloc (Below.refl _ w) _) _) b1)
     clear b1
     obtain ⟨x0, x1, x2, x3⟩ := box4f hq1.out
     obtain ⟨y0, y1, y2, y3⟩ := box4f hp1.out
     have g0 := frozen_heap hp1.out 0
     have g1 := frozen_heap hp1.out 1
     have g2 := frozen_heap hp1.out 2
     have g3 := frozen_heap hp1.out 3
     go_wp2_with fail
     have hF := index_Find _ es s w1 (hE.out.mono EEntry.stable hb1.out)
     rw [hfi.out, hfe.out] at hF
     ((with_reducible refine hF.mono ?_); rintro e w2 ⟨rfl, b2⟩)
     have hq2 := hid (stays b2 hq1.out)
     have hp2 := hid (stays b2 hp1.out)
     have hb2 := hid (b_call hb1.out b2)
     clear b2 hF x0 x1 x2 x3 y0 y1 y2 y3 g0 g1 g2 g3 hq1 hp1 hb1
     obtain ⟨x0, x1, x2, x3⟩ := box4f hq2.out
     obtain ⟨y0, y1, y2, y3⟩ := box4f hp2.out
     have g0 := frozen_heap hp2.out 0
     have g1 := frozen_heap hp2.out 1
     have g2 := frozen_heap hp2.out 2
     have g3 := frozen_heap hp2.out 3
     go_wp2_with fail
     ((with_reducible refine (store_CopyO _ _ bs es r t w2 (hR.out.mono EBlob.stable hb2.out) (hE.out.mono EEntry.stable hb2.out)).mono ?_); rintro e w3 ⟨v1, v2, rfl, o1, o2, b3⟩)
     have hs1 := hb2.out.size
     have hs3 := b3.size
     have hp3 := hid (stays b3 hp2.out)
     have hq3 := hid (stays b3 hq2.out)
     have hb3 := hid (b_call hb2.out b3)
     have hpl := heap_lt hp2.out
     have hp4 := heap_lt hp3.out
     have hq4 := heap_lt hq3.out
     obtain ⟨gg, cap, rfl, hgB, hgl, ⟨uu, hcu⟩, hfr⟩ := OX.spot o2 (i := i) (o := 3) hilt (by decide)
     obtain ⟨a3, c3, rfl⟩ := OX.lenOf o1
     replace o1 := hid o1
     replace o2 := hid o2
     clear x0 x1 x2 x3 y0 y1 y2 y3 g0 g1 g2 g3 b3
     obtain ⟨x0, x1, x2, x3⟩ := box4f hq3.out
     obtain ⟨y0, y1, y2, y3⟩ := box4f hp3.out
     have g0 := frozen_heap hp3.out 0
     have g1 := frozen_heap hp3.out 1
     have g2 := frozen_heap hp3.out 2
     have g3 := frozen_heap hp3.out 3
     have hgne : gg ≠ w.heap.size + 1 := by omega
     have hgnq : gg ≠ w.heap.size := by omega
     go_wp2_with fail
     ((with_reducible refine (store_tick_full (w3.alloc (Obj.cells #[.slice a3 bs.length c3, .slice (some ⟨gg, 0, none⟩) es.length cap, .int .i64 r, .int .i64 t] 29)) w3.heap.size _ _ r t ht (heap_alloc_new w3 _)).mono ?_); rintro e w7 ⟨rfl, rfl⟩)
     go_wp2_with fail
     have hpB := box4_same (u0 := .slice none 0 0) (u1 := .slice none 0 0) (u2 := .int .i64 0) (u3 := .int .i64 0) hp3.out
     have hp9 := (heap_alloc_old _ (Obj.cells #[.slice a3 bs.length c3, .slice (some ⟨gg, 0, none⟩) es.length cap, .int .i64 r, .int .i64 t] 29) (heap_lt hpB)).trans hpB
     have hb9 := b_alloc (b_box4 hb3.out (q := w.heap.size + 1) (Nat.le_succ _) (.slice none 0 0) (.slice none 0 0) (.int .i64 0) (.int .i64 0)) (Obj.cells #[.slice a3 bs.length c3, .slice (some ⟨gg, 0, none⟩) es.length cap, .int .i64 r, .int .i64 t] 29)
     exact qzgtx_1
   | false =>
     have hd := hid (hd3.out.trans (if_neg (by rw [ht]; decide)))
     go_enter Tryz.func21, Tryz.ntmps21
     go_wp2_with fail
     ((with_reducible refine (hch.out _ (hR.out.mono EBlob.stable (b_alloc (b_alloc (Below.refl _ _) _) _)) (hE.out.mono EEntry.stable (b_alloc (b_alloc (Below.refl _ _) _) _))).mono ?_); rintro e w1 ⟨rfl, b1⟩)
     have hq1 := hid (stays b1 (heap_alloc2_old w (Obj.cells #[.slice a bs.length c, .slice (some ⟨bb, off, none⟩) es.length c2, .int .i64 r, .int .i64 t] 29) (Obj.cells #[.slice none 0 0, .slice none 0 0, .int .i64 0, .int .i64 0] 29)))
     have hp1 := hid (stays b1 (heap_alloc2_new w (Obj.cells #[.slice a bs.length c, .slice (some ⟨bb, off, none⟩) es.length c2, .int .i64 r, .int .i64 t] 29) (Obj.cells #[.slice none 0 0, .slice none 0 0, .int .i64 0, .int .i64 0] 29)))
     have hb1 := hid (b_call (b_alloc (b_alloc (Below.refl _ w) _) _) b1)
     clear b1
     obtain ⟨x0, x1, x2, x3⟩ := box4f hq1.out
     obtain ⟨y0, y1, y2, y3⟩ := box4f hp1.out
     have g0 := frozen_heap hp1.out 0
     have g1 := frozen_heap hp1.out 1
     have g2 := frozen_heap hp1.out 2
     have g3 := frozen_heap hp1.out 3
     go_wp2_with fail
     have hF := index_Find _ es s w1 (hE.out.mono EEntry.stable hb1.out)
     rw [hfi.out, hfe.out] at hF
     ((with_reducible refine hF.mono ?_); rintro e w2 ⟨rfl, b2⟩)
     have hq2 := hid (stays b2 hq1.out)
     have hp2 := hid (stays b2 hp1.out)
     have hb2 := hid (b_call hb1.out b2)
     clear b2 hF x0 x1 x2 x3 y0 y1 y2 y3 g0 g1 g2 g3 hq1 hp1 hb1
     obtain ⟨x0, x1, x2, x3⟩ := box4f hq2.out
     obtain ⟨y0, y1, y2, y3⟩ := box4f hp2.out
     have g0 := frozen_heap hp2.out 0
     have g1 := frozen_heap hp2.out 1
     have g2 := frozen_heap hp2.out 2
     have g3 := frozen_heap hp2.out 3
     go_wp2_with fail
     ((with_reducible refine (store_CopyO _ _ bs es r t w2 (hR.out.mono EBlob.stable hb2.out) (hE.out.mono EEntry.stable hb2.out)).mono ?_); rintro e w3 ⟨v1, v2, rfl, o1, o2, b3⟩)
     have hs1 := hb2.out.size
     have hs3 := b3.size
     have hp3 := hid (stays b3 hp2.out)
     have hq3 := hid (stays b3 hq2.out)
     have hb3 := hid (b_call hb2.out b3)
     have hpl := heap_lt hp2.out
     have hp4 := heap_lt hp3.out
     have hq4 := heap_lt hq3.out
     obtain ⟨gg, cap, rfl, hgB, hgl, ⟨uu, hcu⟩, hfr⟩ := OX.spot o2 (i := i) (o := 3) hilt (by decide)
     obtain ⟨a3, c3, rfl⟩ := OX.lenOf o1
     replace o1 := hid o1
     replace o2 := hid o2
     clear x0 x1 x2 x3 y0 y1 y2 y3 g0 g1 g2 g3 b3
     obtain ⟨x0, x1, x2, x3⟩ := box4f hq3.out
     obtain ⟨y0, y1, y2, y3⟩ := box4f hp3.out
     have g0 := frozen_heap hp3.out 0
     have g1 := frozen_heap hp3.out 1
     have g2 := frozen_heap hp3.out 2
     have g3 := frozen_heap hp3.out 3
     have hgne : gg ≠ w.heap.size + 1 := by omega
     have hgnq : gg ≠ w.heap.size := by omega
     go_wp2_with fail
     ((with_reducible refine (store_tick_ok w3 _ _ r t hc0 hc1 ht).mono ?_); rintro e w7 ⟨rfl, rfl⟩)
     go_wp2_with fail
     have o1b := hid (OBlob.alloc (o1.out.beside o2.out (o := i * 4 + 3) (u := .int .i64 (t + 1))) (Obj.cells #[.slice a3 bs.length c3, .slice (some ⟨gg, 0, none⟩) es.length cap, .int .i64 r, .int .i64 (t + 1)] 29))
     have o2b := hid (OEntry.alloc (OEntry.stamp (t + 1) o2.out hx.out) (Obj.cells #[.slice a3 bs.length c3, .slice (some ⟨gg, 0, none⟩) es.length cap, .int .i64 r, .int .i64 (t + 1)] 29))
     have hpA := box_other (q := gg) (o := i * 4 + 3) (u := .int .i64 (t + 1)) hp3.out (Ne.symm hgne)
     have hqA := box_other (q := gg) (o := i * 4 + 3) (u := .int .i64 (t + 1)) hq3.out (Ne.symm hgnq)
     have hpb := hid ((heap_alloc_old _ (Obj.cells #[.slice a3 bs.length c3, .slice (some ⟨gg, 0, none⟩) es.length cap, .int .i64 r, .int .i64 (t + 1)] 29) (heap_lt hpA)).trans hpA)
     have hqb := hid ((heap_alloc_old _ (Obj.cells #[.slice a3 bs.length c3, .slice (some ⟨gg, 0, none⟩) es.length cap, .int .i64 r, .int .i64 (t + 1)] 29) (heap_lt hqA)).trans hqA)
     have hnb := hid (heap_put (w3.setCell ⟨gg, i * 4 + 3, none⟩ (.int .i64 (t + 1))) (Obj.cells #[.slice a3 bs.length c3, .slice (some ⟨gg, 0, none⟩) es.length cap, .int .i64 r, .int .i64 (t + 1)] 29) w3.heap.size (by simp [World.setCell]))
     have hbb3 := hid (b_alloc (b_set hb3.out (p := ⟨gg, i * 4 + 3, none⟩) (show w.heap.size ≤ gg by omega) (.int .i64 (t + 1))) (Obj.cells #[.slice a3 bs.length c3, .slice (some ⟨gg, 0, none⟩) es.length cap, .int .i64 r, .int .i64 (t + 1)] 29))
     generalize (w3.setCell ⟨gg, i * 4 + 3, none⟩ (.int .i64 (t + 1))).alloc (Obj.cells #[.slice a3 bs.length c3, .slice (some ⟨gg, 0, none⟩) es.length cap, .int .i64 r, .int .i64 (t + 1)] 29) = wb at *
     obtain ⟨rs, hrs, hO2, hC2⟩ := id o2b.out
     obtain ⟨⟨xk, xa, xc⟩, hxr, hxe⟩ : ∃ xr, rs[i]? = some xr ∧ xr.x = { x with stamp := t + 1 } := by
      have h0 : (rs.map (·.x))[i]? = some { x with stamp := t + 1 } := by rw [hrs, List.getElem?_set_self hilt]
      rw [List.getElem?_map] at h0
      exact Option.map_eq_some_iff.1 h0
     simp only at hxe
     subst hxe
     have hpart : wb.cell? ⟨gg, i * 4 + 1, none⟩ = some (.slice xa x.parts.length xc) :=
      OS.cellsAt hO2 (i * 4 + 1) (.slice xa x.parts.length xc) (by rw [flat_get xcEntry_len (by decide), show (i * 4 + 1) / 4 = i by omega, show (i * 4 + 1) % 4 = 1 by omega, hxr]; rfl)
     have hCx : OS 67 3 cPart wb w2.heap.size (.slice xa x.parts.length xc) x.parts := hC2 _ (List.mem_of_getElem? hxr)
     have rpx := hid (reads_part hCx hxf.out.2.1 hxf.out.2.2)
     have hgb : gg < wb.heap.size := (World.ownsRow.lt hO2 gg (by simp [Value.ownBlock])).2
     have hnl := heap_lt hnb.out
     have hpl2 := heap_lt hpb.out
     have hnp : w3.heap.size ≠ w.heap.size + 1 := by omega
     clear hrs hO2 hC2 hxr hCx x0 x1 x2 x3 y0 y1 y2 y3 g0 g1 g2 g3 hcu hfr hgl hqb hq3 hp3 hb3 o1 o2
     have hS := box4f hnb.out
     go_region_held3 (fun w' => w'.cell? ⟨w3.heap.size, 0, none⟩ = some (.slice a3 bs.length c3) ∧ w'.cell? ⟨w3.heap.size, 1, none⟩ = some (.slice (some ⟨gg, 0, none⟩) es.length cap) ∧ w'.cell? ⟨w3.heap.size, 2, none⟩ = some (.int .i64 r) ∧ w'.cell? ⟨w3.heap.size, 3, none⟩ = some (.int .i64 (t + 1)) ∧ w'.cell? ⟨gg, i * 4 + 1, none⟩ = some (.slice xa x.parts.length xc))
      (first
        | go_keep
        | exact ⟨hS4.1, hS4.2.1, hS4.2.2.1, hS4.2.2.2, hpt4⟩
        | exact ⟨hS.1, hS.2.1, hS.2.2.1, hS.2.2.2, hpart⟩
        | (have hss := box4f (box4_other (q := w.heap.size + 1) (u0 := (.slice a3 bs.length c3)) (u1 := (.slice (some ⟨gg, 0, none⟩) es.length cap)) (u2 := .int .i64 r) (u3 := .int .i64 (t + 1)) hn4 hnp)
           exact ⟨hss.1, hss.2.1, hss.2.2.1, hss.2.2.2, by simp only [cell_apart hgne]; exact hpt4⟩)
        | fail)
      ((first
        | ((with_reducible refine (slices_Clone_part _ x.parts _ (rpx.out.mono EPart.stable (Below.refl _ wb).drew)).mono ?_)
           rintro e w4 ⟨pv, rfl, o4, b4⟩
           have hb4 : Below wb.heap.size wb w4 := b_call (Below.refl _ wb).drew b4
           have hn4 := stays hb4 hnb.out
           have hp44 := stays hb4 hpb.out
           have hpt4 := cell_stays hb4 hgb hpart
           have hS4 := box4f hn4
           have g0 := frozen_heap hp44 0
           have g1 := frozen_heap hp44 1
           have g2 := frozen_heap hp44 2
           have g3 := frozen_heap hp44 3
           obtain ⟨y0, y1, y2, y3⟩ := box4f hp44
           obtain ⟨pa, pc, rfl, -⟩ := id (OS.len_le o4))
        | fail))
     have hb9' := b_call hbb3.out hb4
     have rl4 := (o1b.out.toR hre hf1.out).mono EBlob.stable hb4
     have re4 := (o2b.out.toR (by rw [List.length_set]; exact hre2) (set_all hf2.out (FitEntry.stamp hxf.out hmw.out))).mono EEntry.stable hb4
     have rp4 := reads_part o4 hxf.out.2.1 hxf.out.2.2
     have hbox := (⟨_, _, _, _, _, _, _, _, hp44⟩ : ∃ a n c a' n' c' r t, w4.heap[w.heap.size + 1]? = some (.cells #[.slice a n c, .slice a' n' c', .int .i64 r, .int .i64 t] 29 (0, 0)))
     have rl9 := rl4.box4 EBlob.writes hbox a3 bs.length c3 (some ⟨gg, 0, none⟩) es.length cap r (t + 1)
     have re9 := re4.box4 EEntry.writes hbox a3 bs.length c3 (some ⟨gg, 0, none⟩) es.length cap r (t + 1)
     have rp9 := rp4.box4 EPart.writes hbox a3 bs.length c3 (some ⟨gg, 0, none⟩) es.length cap r (t + 1)
     unfold World.box4 at rl9 re9 rp9
     replace rl9 := hid rl9
     replace re9 := hid re9
     replace rp9 := hid rp9
     replace hb9' := hid hb9'
     replace hp44 := hid hp44
     clear rl4 re4 rp4 o4 hbox hS hS4 hn4 hpt4
     go_wp2_with fail
     have hp9 := box4_same (u0 := .slice a3 bs.length c3) (u1 := .slice (some ⟨gg, 0, none⟩) es.length cap) (u2 := .int .i64 r) (u3 := .int .i64 (t + 1)) hp44.out
     have hb9 := b_box4 hb9'.out (q := w.heap.size + 1) (Nat.le_succ _) (.slice a3 bs.length c3) (.slice (some ⟨gg, 0, none⟩) es.length cap) (.int .i64 r) (.int .i64 (t + 1))
     obtain ⟨m0, m1, m2, m3⟩ := box4f hp9
     unfold World.box4 at m0 m1 m2 m3 hb9
     (try simp only [Exit.inBlock, Exit.then])
     refine bodyPost_ret qzgtx_2 rfl ?_
     exact gt_ok (bs := bs) (es := lh) (P := ph) hd.out rl9.out (by rw [hl3.out]; exact re9.out) (by rw [hl4.out]; exact rp9.out) hb9
 have ht : (z != 0) = true := by simp [hz]
 have hd := hid (gtE_bad (s := s) (t := t) (l := es) hz)
 replace hz := hid hz
 clear hat2 hc
 go_enter Tryz.func21, Tryz.ntmps21
 go_wp2_with fail
 ((with_reducible refine (hch.out _ (hR.out.mono EBlob.stable (b_alloc (b_alloc (Below.refl _ _) _) _)) (hE.out.mono EEntry.stable (b_alloc (b_alloc (Below.refl _ _) _) _))).mono ?_); rintro e w1 ⟨rfl, b1⟩)
 have hq1 := hid (stays b1 (heap_alloc2_old w (Obj.cells #[.slice a bs.length c, .slice a2 es.length c2, .int .i64 r, .int .i64 t] 29) (Obj.cells #[.slice none 0 0, .slice none 0 0, .int .i64 0, .int .i64 0] 29)))
 have hp1 := hid (stays b1 (heap_alloc2_new w (Obj.cells #[.slice a bs.length c, .slice a2 es.length c2, .int .i64 r, .int .i64 t] 29) (Obj.cells #[.slice none 0 0, .slice none 0 0, .int .i64 0, .int .i64 0] 29)))
 have hb1 := hid (b_call (b_alloc (b_alloc (Below.refl _ w) _) _) b1)
 clear b1
 obtain ⟨x0, x1, x2, x3⟩ := box4f hq1.out
 obtain ⟨y0, y1, y2, y3⟩ := box4f hp1.out
 have g0 := frozen_heap hp1.out 0
 have g1 := frozen_heap hp1.out 1
 have g2 := frozen_heap hp1.out 2
 have g3 := frozen_heap hp1.out 3
 go_wp2_with fail
 have hp9 := box4_same (u0 := .slice none 0 0) (u1 := .slice none 0 0) (u2 := .int .i64 0) (u3 := .int .i64 0) hp1.out
 have hb9 := b_box4 hb1.out (q := w.heap.size + 1) (Nat.le_succ _) (.slice none 0 0) (.slice none 0 0) (.int .i64 0) (.int .i64 0)
 obtain ⟨m0, m1, m2, m3⟩ := box4f hp9
 unfold World.box4 at m0 m1 m2 m3 hb9
 (try simp only [Exit.inBlock, Exit.then])
 refine bodyPost_ret qzgtx_2 rfl ?_
 exact gt_no hd.out hz.out hb9
theorem store_Get (v u : Value) (bs : List Blob) (es : List Entry) (r t : Int) (s : ByteArray) (w : World) (h : RBl w v bs) (g : RE w u es) :
 Calls Tryz.prog 21 #[.agg #[v, u, .int .i64 r, .int .i64 t], .string s] w (GtRes (gtE (storeFault bs es r t) s t es) ⟨bs, gtL s t es, r, t + 1⟩ (gtP s es) w) :=
 store_Get' v u bs es r t s w h g _ (fun w h g => store_Check v u bs es r t w h g) clock_of
end Go.Proofs.YtpkpgehiplhkpaaGreat
