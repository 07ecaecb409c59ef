/-
  store.HoldBlob, store.Hold and the reference's StoreHoldBlob, StoreHold: what each answers. Printed by gen_hld.py. Holding of stores: what each call answers. Printed by gen_hld.py.
-/
import Derived.Test.YtkbijjglodnfbaaGreatQdStC
import Derived.Test.YtkbijjglodnfbaaGreatQdPin
namespace Go.Proofs.YtkbijjglodnfbaaGreat
open Go.RowKit

/-- What is wrong with holding what a key has, z being what is wrong with the store. -/
def holdE {α : Type} (key : α → ByteArray) (pins : α → Int) (z : Int) (s : ByteArray) (up : Bool) (l : List α) : Int := if z ≠ 0 then z else match l[atKey key s l]? with | none => 5 | some x => (pinMove (pins x) up).2
def heldB (s : ByteArray) (up : Bool) (l : List Blob) : List Blob := match l[atKey (·.digest) s l]? with | none => l | some x => l.set (atKey (·.digest) s l) { x with pins := (pinMove x.pins up).1 }
theorem holdE_bad {α : Type} {key : α → ByteArray} {pins : α → Int} {z : Int} {s : ByteArray} {up : Bool} {l : List α} (h : z ≠ 0) : holdE key pins z s up l = z := if_pos h
theorem holdE_none {α : Type} {key : α → ByteArray} {pins : α → Int} {s : ByteArray} {up : Bool} {l : List α} (h : atKey key s l = l.length) : holdE key pins 0 s up l = 5 := by
  unfold holdE
  rw [if_neg (by simp), List.getElem?_eq_none (by omega)]
theorem holdE_some {α : Type} {key : α → ByteArray} {pins : α → Int} {s : ByteArray} {up : Bool} {l : List α} {x : α} (h : l[atKey key s l]? = some x) : holdE key pins 0 s up l = (pinMove (pins x) up).2 := by
  unfold holdE
  rw [if_neg (by simp), h]
theorem heldB_some {s : ByteArray} {up : Bool} {l : List Blob} {x : Blob} (h : l[atKey (·.digest) s l]? = some x) : heldB s up l = l.set (atKey (·.digest) s l) { x with pins := (pinMove x.pins up).1 } := by unfold heldB; rw [h]
end Go.Proofs.YtkbijjglodnfbaaGreat

namespace Go.Proofs.YtkbijjglodnfbaaGreat
open Go.RowKit

set_option maxRecDepth 100000 in
set_option maxHeartbeats 1000000 in
theorem store_HoldBlob (v u : Value) (bs : List Blob) (es : List Entry) (r t : Int) (s : ByteArray) (up : Bool) (w : World) (h : RBl w v bs) (g : RE w u es) (z : Int)
    (hch : ∀ w, RBl w v bs → RE w u es → Calls Tryz.prog 47 #[.agg #[v, u, .int .i64 r, .int .i64 t]] w fun e w' => e = .returned (.int .i64 z) ∧ Below w.heap.size w w') :
    Calls Tryz.prog 85 #[.agg #[v, u, .int .i64 r, .int .i64 t], .string s, .bool up] w (StRes (holdE (fun x : Blob => x.digest) (fun x => x.pins) z s up bs) ⟨heldB s up bs, es, r, t⟩ w) := by
  replace hch := hid hch
  have hR := hid h
  have hE := hid g
  have hf1 := hid (fit_B h)
  have hf2 := hid (fit_E g)
  obtain ⟨a, c, rfl, hlc, hcm, hre, hno, hat⟩ := h
  obtain ⟨a2, c2, rfl, hlc2, hcm2, hre2, hno2, hat2⟩ := g
  unfold maxLen at hcm hcm2
  clear hno hno2
  by_cases hz : z = 0
  · subst hz
    have hle := atKey_le (fun x : Blob => x.digest) s bs
    have hl1 := hid (fun x (hx : bs[atKey (fun x : Blob => x.digest) s bs]? = some x) => heldB_some (up := up) hx)
    have hd1 := hid (fun x (hx : bs[atKey (fun x : Blob => x.digest) s bs]? = some x) => holdE_some (pins := fun x : Blob => x.pins) (up := up) hx)
    have hd2 := hid (fun (hx : atKey (fun x : Blob => x.digest) s bs = bs.length) => holdE_none (pins := fun x : Blob => x.pins) (up := up) hx)
    have hfi : findI (fun x : Blob => x.digest) s bs = if atKey (fun x : Blob => x.digest) s bs = bs.length then 0 else (atKey (fun x : Blob => x.digest) s bs : Int) := rfl
    have hfe : findE (fun x : Blob => x.digest) s bs = if atKey (fun x : Blob => x.digest) s bs = bs.length then 5 else 0 := rfl
    generalize atKey (fun x : Blob => x.digest) s bs = i at *
    generalize holdE (fun x : Blob => x.digest) (fun x => x.pins) 0 s up bs = err at *
    generalize heldB s up bs = lh at *
    by_cases hi : i = bs.length
    · have hd := hid (hd2.out hi)
      rw [if_pos hi] at hfi hfe
      replace hfi := hid hfi
      replace hfe := hid hfe
      replace hi := hid hi
      go_enter Tryz.func85, Tryz.ntmps85
      go_wp2_with fail
      ((with_reducible refine (hch.out _ (hR.out.mono EBlob.stable (b_alloc (b_alloc (Below.refl _ _) _) _)) (hE.out.mono EEntry.stable (b_alloc (b_alloc (Below.refl _ _) _) _))).mono ?_); rintro e w1 ⟨rfl, b1⟩)
      have hq1 := hid (stays b1 (heap_alloc2_old w (Obj.cells #[.slice a bs.length c, .slice a2 es.length c2, .int .i64 r, .int .i64 t] 25) (Obj.cells #[.slice none 0 0, .slice none 0 0, .int .i64 0, .int .i64 0] 25)))
      have hp1 := hid (stays b1 (heap_alloc2_new w (Obj.cells #[.slice a bs.length c, .slice a2 es.length c2, .int .i64 r, .int .i64 t] 25) (Obj.cells #[.slice none 0 0, .slice none 0 0, .int .i64 0, .int .i64 0] 25)))
      have hb1 := hid (b_call (b_alloc (b_alloc (Below.refl w.heap.size w) _) _) b1)
      clear b1
      obtain ⟨x0, x1, x2, x3⟩ := box4f hq1.out
      obtain ⟨y0, y1, y2, y3⟩ := box4f hp1.out
      have g0 := frozen_heap hp1.out 0
      have g1 := frozen_heap hp1.out 1
      have g2 := frozen_heap hp1.out 2
      have g3 := frozen_heap hp1.out 3
      go_wp2_with fail
      have hF := blob_Find _ bs s w1 (hR.out.mono EBlob.stable hb1.out)
      rw [hfi.out, hfe.out] at hF
      ((with_reducible refine hF.mono ?_); rintro e w2 ⟨rfl, b2⟩)
      have hq2 := hid (stays b2 hq1.out)
      have hp2 := hid (stays b2 hp1.out)
      have hb2 := hid (b_call hb1.out b2)
      clear b2 hF x0 x1 x2 x3 y0 y1 y2 y3 g0 g1 g2 g3
      obtain ⟨x0, x1, x2, x3⟩ := box4f hq2.out
      obtain ⟨y0, y1, y2, y3⟩ := box4f hp2.out
      have g0 := frozen_heap hp2.out 0
      have g1 := frozen_heap hp2.out 1
      have g2 := frozen_heap hp2.out 2
      have g3 := frozen_heap hp2.out 3
      go_wp2_with fail
      have hp9 := box4_same (u0 := .slice none 0 0) (u1 := .slice none 0 0) (u2 := .int .i64 0) (u3 := .int .i64 0) hp2.out
      have hb9 := b_box4 hb2.out (q := w.heap.size + 1) (Nat.le_succ _) (.slice none 0 0) (.slice none 0 0) (.int .i64 0) (.int .i64 0)
      obtain ⟨m0, m1, m2, m3⟩ := box4f hp9
      unfold World.box4 at m0 m1 m2 m3 hb9
      refine bodyPost_ret (by simp [results, Tryz.results85, go_sem, m0, m1, m2, m3]; try rfl) rfl ?_
      exact st_no hd.out (by decide) hb9
    · have hx : bs[i]? = some bs[i] := List.getElem?_eq_getElem (by omega)
      generalize bs[i] = x at hx
      obtain ⟨bb, off, rfl, hbb, he⟩ := hat _ _ hx
      have hd3 := hid (hd1.out x hx)
      have hl3 := hid (hl1.out x hx)
      have hxf := hid ((hf1.out) x (List.mem_of_getElem? hx))
      have hpm := hid (fun w => pin_Move x.pins up w)
      have hmw := hid (pinMove_wf (n := x.pins) (up := up))
      generalize pinMove x.pins up = pm at *
      obtain ⟨m, e⟩ := pm
      simp only at hd3 hl3 hmw hpm
      rw [if_neg hi] at hfi hfe
      replace hfi := hid hfi
      replace hfe := hid hfe
      have hilt : i < bs.length := by omega
      have hi0 : (0 : Int) ≤ (i : Int) := by omega
      have hi1 : (i : Int) < (bs.length : Int) := by omega
      replace hx := hid hx
      clear hat hat2 hd1 hd2 hl1
      go_enter Tryz.func85, Tryz.ntmps85
      go_wp2_with fail
      ((with_reducible refine (hch.out _ (hR.out.mono EBlob.stable (b_alloc (b_alloc (Below.refl _ _) _) _)) (hE.out.mono EEntry.stable (b_alloc (b_alloc (Below.refl _ _) _) _))).mono ?_); rintro e w1 ⟨rfl, b1⟩)
      have hq1 := hid (stays b1 (heap_alloc2_old w (Obj.cells #[.slice (some ⟨bb, off, none⟩) bs.length c, .slice a2 es.length c2, .int .i64 r, .int .i64 t] 25) (Obj.cells #[.slice none 0 0, .slice none 0 0, .int .i64 0, .int .i64 0] 25)))
      have hp1 := hid (stays b1 (heap_alloc2_new w (Obj.cells #[.slice (some ⟨bb, off, none⟩) bs.length c, .slice a2 es.length c2, .int .i64 r, .int .i64 t] 25) (Obj.cells #[.slice none 0 0, .slice none 0 0, .int .i64 0, .int .i64 0] 25)))
      have hb1 := hid (b_call (b_alloc (b_alloc (Below.refl w.heap.size w) _) _) b1)
      clear b1
      obtain ⟨x0, x1, x2, x3⟩ := box4f hq1.out
      obtain ⟨y0, y1, y2, y3⟩ := box4f hp1.out
      have g0 := frozen_heap hp1.out 0
      have g1 := frozen_heap hp1.out 1
      have g2 := frozen_heap hp1.out 2
      have g3 := frozen_heap hp1.out 3
      go_wp2_with fail
      have hF := blob_Find _ bs s w1 (hR.out.mono EBlob.stable hb1.out)
      rw [hfi.out, hfe.out] at hF
      ((with_reducible refine hF.mono ?_); rintro e w2 ⟨rfl, b2⟩)
      have hq2 := hid (stays b2 hq1.out)
      have hp2 := hid (stays b2 hp1.out)
      have hb2 := hid (b_call hb1.out b2)
      clear b2 hF x0 x1 x2 x3 y0 y1 y2 y3 g0 g1 g2 g3
      obtain ⟨x0, x1, x2, x3⟩ := box4f hq2.out
      obtain ⟨y0, y1, y2, y3⟩ := box4f hp2.out
      have g0 := frozen_heap hp2.out 0
      have g1 := frozen_heap hp2.out 1
      have g2 := frozen_heap hp2.out 2
      have g3 := frozen_heap hp2.out 3
      obtain ⟨dv, d0, d1, d2, d3, rdv, -⟩ := EBlob.stable _ _ _ _ _ hb2.out hbb he
      clear he rdv
      by_cases he : e = 0
      · subst he
        have hd := hid hd3.out
        have qe : ((0 : Int) != 0) = false := by decide
        go_wp2_with fail
        ((with_reducible refine (hpm.out w2).mono ?_); rintro e' w' ⟨rfl, rfl⟩)
        go_wp2_with fail
        ((with_reducible refine (store_CopyO _ _ bs es r t w2 (hR.out.mono EBlob.stable hb2.out) (hE.out.mono EEntry.stable hb2.out)).mono ?_); rintro e' w3 ⟨v1, v2, rfl, o1, o2, b3⟩)
        have hs1 := hb2.out.size
        have hs3 := b3.size
        have hp3 := hid (stays b3 hp2.out)
        have hb3 := hid (b_call hb2.out b3)
        have hpl := heap_lt hp2.out
        obtain ⟨gg, cap, rfl, hgB, hgl, ⟨uu, hcu⟩, hfr⟩ := OX.spot o1 (i := i) (o := 2) hilt (by decide)
        obtain ⟨a3, c3, rfl⟩ := OX.lenOf o2
        have hp4 := heap_lt hp3.out
        clear hq1 hq2 x0 x1 x2 x3 y0 y1 y2 y3 g0 g1 g2 g3 hp1 hp2 d0 d1 d2 d3 hb1
        obtain ⟨y0, y1, y2, y3⟩ := box4f hp3.out
        have g0 := frozen_heap hp3.out 0
        have g1 := frozen_heap hp3.out 1
        have g2 := frozen_heap hp3.out 2
        have g3 := frozen_heap hp3.out 3
        have hgne : gg ≠ w.heap.size + 1 := by omega
        replace o1 := hid o1
        replace o2 := hid o2
        clear b3
        go_wp2_with fail
        have hpA := box_other (q := gg) (o := i * 4 + 2) (u := .int .i64 m) hp3.out (Ne.symm hgne)
        have hpB := box4_same (u0 := (.slice (some ⟨gg, 0, none⟩) bs.length cap)) (u1 := (.slice a3 es.length c3)) (u2 := .int .i64 r) (u3 := .int .i64 t) hpA
        have hp9 := (heap_alloc_old _ (Obj.cells #[(.slice (some ⟨gg, 0, none⟩) bs.length cap), (.slice a3 es.length c3), .int .i64 r, .int .i64 t] 25) (heap_lt hpB)).trans hpB
        have hb9 := b_alloc (b_box4 (b_set hb3.out (p := ⟨gg, i * 4 + 2, none⟩) (show w.heap.size ≤ gg by omega) (.int .i64 m)) (q := w.heap.size + 1) (Nat.le_succ _) (.slice (some ⟨gg, 0, none⟩) bs.length cap) (.slice a3 es.length c3) (.int .i64 r) (.int .i64 t)) (Obj.cells #[(.slice (some ⟨gg, 0, none⟩) bs.length cap), (.slice a3 es.length c3), .int .i64 r, .int .i64 t] 25)
        have oo1 := OBlob.alloc (OBlob.box (u0 := (.slice (some ⟨gg, 0, none⟩) bs.length cap)) (u1 := (.slice a3 es.length c3)) (u2 := .int .i64 r) (u3 := .int .i64 t) (OBlob.pins m o1.out hx.out) hpA (by decide) (by decide)) (Obj.cells #[(.slice (some ⟨gg, 0, none⟩) bs.length cap), (.slice a3 es.length c3), .int .i64 r, .int .i64 t] 25)
        have oo2 := OEntry.alloc (OEntry.box (u0 := (.slice (some ⟨gg, 0, none⟩) bs.length cap)) (u1 := (.slice a3 es.length c3)) (u2 := .int .i64 r) (u3 := .int .i64 t) (o2.out.beside o1.out) hpA (by decide) (by decide)) (Obj.cells #[(.slice (some ⟨gg, 0, none⟩) bs.length cap), (.slice a3 es.length c3), .int .i64 r, .int .i64 t] 25)
        obtain ⟨m0, m1, m2, m3⟩ := box4f hp9
        unfold World.box4 at m0 m1 m2 m3 hb9 oo1 oo2
        refine bodyPost_ret (by simp [results, Tryz.results85, go_sem, m0, m1, m2, m3]; try rfl) rfl ?_
        exact st_ok hd.out (by rw [hl3.out]) (oo1.toR (by rw [List.length_set]; exact hre) (set_all hf1.out (FitBlob.pins hxf.out hmw.out))) (oo2.toR hre2 hf2.out) hb9
      · have ht : (e != 0) = true := by simp [he]
        have hd := hid hd3.out
        replace he := hid he
        go_wp2_with fail
        ((with_reducible refine (hpm.out w2).mono ?_); rintro e' w' ⟨rfl, rfl⟩)
        go_wp2_with fail
        have hp9 := box4_same (u0 := .slice none 0 0) (u1 := .slice none 0 0) (u2 := .int .i64 0) (u3 := .int .i64 0) hp2.out
        have hb9 := b_box4 hb2.out (q := w.heap.size + 1) (Nat.le_succ _) (.slice none 0 0) (.slice none 0 0) (.int .i64 0) (.int .i64 0)
        obtain ⟨m0, m1, m2, m3⟩ := box4f hp9
        unfold World.box4 at m0 m1 m2 m3 hb9
        refine bodyPost_ret (by simp [results, Tryz.results85, go_sem, m0, m1, m2, m3]; try rfl) rfl ?_
        exact st_no hd.out he.out hb9
  · have ht : (z != 0) = true := by simp [hz]
    have hd := hid (holdE_bad (key := fun x : Blob => x.digest) (pins := fun x => x.pins) (s := s) (up := up) (l := bs) hz)
    replace hz := hid hz
    clear hat hat2
    go_enter Tryz.func85, Tryz.ntmps85
    go_wp2_with fail
    ((with_reducible refine (hch.out _ (hR.out.mono EBlob.stable (b_alloc (b_alloc (Below.refl _ _) _) _)) (hE.out.mono EEntry.stable (b_alloc (b_alloc (Below.refl _ _) _) _))).mono ?_); rintro e w1 ⟨rfl, b1⟩)
    have hq1 := hid (stays b1 (heap_alloc2_old w (Obj.cells #[.slice a bs.length c, .slice a2 es.length c2, .int .i64 r, .int .i64 t] 25) (Obj.cells #[.slice none 0 0, .slice none 0 0, .int .i64 0, .int .i64 0] 25)))
    have hp1 := hid (stays b1 (heap_alloc2_new w (Obj.cells #[.slice a bs.length c, .slice a2 es.length c2, .int .i64 r, .int .i64 t] 25) (Obj.cells #[.slice none 0 0, .slice none 0 0, .int .i64 0, .int .i64 0] 25)))
    have hb1 := hid (b_call (b_alloc (b_alloc (Below.refl w.heap.size w) _) _) b1)
    clear b1
    obtain ⟨x0, x1, x2, x3⟩ := box4f hq1.out
    obtain ⟨y0, y1, y2, y3⟩ := box4f hp1.out
    have g0 := frozen_heap hp1.out 0
    have g1 := frozen_heap hp1.out 1
    have g2 := frozen_heap hp1.out 2
    have g3 := frozen_heap hp1.out 3
    go_wp2_with fail
    have hp9 := box4_same (u0 := .slice none 0 0) (u1 := .slice none 0 0) (u2 := .int .i64 0) (u3 := .int .i64 0) hp1.out
    have hb9 := b_box4 hb1.out (q := w.heap.size + 1) (Nat.le_succ _) (.slice none 0 0) (.slice none 0 0) (.int .i64 0) (.int .i64 0)
    obtain ⟨m0, m1, m2, m3⟩ := box4f hp9
    unfold World.box4 at m0 m1 m2 m3 hb9
    refine bodyPost_ret (by simp [results, Tryz.results85, go_sem, m0, m1, m2, m3]; try rfl) rfl ?_
    exact st_no hd.out hz.out hb9

set_option maxRecDepth 100000 in
set_option maxHeartbeats 1000000 in
theorem ref_StoreHoldBlob (v u : Value) (bs : List Blob) (es : List Entry) (r t : Int) (s : ByteArray) (up : Bool) (w : World) (h : RBl w v bs) (g : RE w u es) (z : Int)
    (hch : ∀ w, RBl w v bs → RE w u es → Calls Tryz.prog 50 #[.agg #[v, u, .int .i64 r, .int .i64 t]] w fun e w' => e = .returned (.int .i64 z) ∧ Below w.heap.size w w') :
    Calls Tryz.prog 87 #[.agg #[v, u, .int .i64 r, .int .i64 t], .string s, .bool up] w (StRes (holdE (fun x : Blob => x.digest) (fun x => x.pins) z s up bs) ⟨heldB s up bs, es, r, t⟩ w) := by
  replace hch := hid hch
  have hR := hid h
  have hE := hid g
  have hf1 := hid (fit_B h)
  have hf2 := hid (fit_E g)
  obtain ⟨a, c, rfl, hlc, hcm, hre, hno, hat⟩ := h
  obtain ⟨a2, c2, rfl, hlc2, hcm2, hre2, hno2, hat2⟩ := g
  unfold maxLen at hcm hcm2
  clear hno hno2
  by_cases hz : z = 0
  · subst hz
    have hle := atKey_le (fun x : Blob => x.digest) s bs
    have hl1 := hid (fun x (hx : bs[atKey (fun x : Blob => x.digest) s bs]? = some x) => heldB_some (up := up) hx)
    have hd1 := hid (fun x (hx : bs[atKey (fun x : Blob => x.digest) s bs]? = some x) => holdE_some (pins := fun x : Blob => x.pins) (up := up) hx)
    have hd2 := hid (fun (hx : atKey (fun x : Blob => x.digest) s bs = bs.length) => holdE_none (pins := fun x : Blob => x.pins) (up := up) hx)
    have hAt := hid (fun w g => ref_BlobAt (.slice a bs.length c) bs s w g)
    generalize atKey (fun x : Blob => x.digest) s bs = i at *
    generalize holdE (fun x : Blob => x.digest) (fun x => x.pins) 0 s up bs = err at *
    generalize heldB s up bs = lh at *
    by_cases hi : i = bs.length
    · have hd := hid (hd2.out hi)
      have q1 : ((i : Int) == (bs.length : Int)) = true := by simp [hi]
      go_enter Tryz.func87, Tryz.ntmps87
      go_wp2_with fail
      ((with_reducible refine (hch.out _ (hR.out.mono EBlob.stable (b_alloc (b_alloc (Below.refl _ _) _) _)) (hE.out.mono EEntry.stable (b_alloc (b_alloc (Below.refl _ _) _) _))).mono ?_); rintro e w1 ⟨rfl, b1⟩)
      have hq1 := hid (stays b1 (heap_alloc2_old w (Obj.cells #[.slice a bs.length c, .slice a2 es.length c2, .int .i64 r, .int .i64 t] 25) (Obj.cells #[.slice none 0 0, .slice none 0 0, .int .i64 0, .int .i64 0] 25)))
      have hp1 := hid (stays b1 (heap_alloc2_new w (Obj.cells #[.slice a bs.length c, .slice a2 es.length c2, .int .i64 r, .int .i64 t] 25) (Obj.cells #[.slice none 0 0, .slice none 0 0, .int .i64 0, .int .i64 0] 25)))
      have hb1 := hid (b_call (b_alloc (b_alloc (Below.refl w.heap.size w) _) _) b1)
      clear b1
      obtain ⟨x0, x1, x2, x3⟩ := box4f hq1.out
      obtain ⟨y0, y1, y2, y3⟩ := box4f hp1.out
      have g0 := frozen_heap hp1.out 0
      have g1 := frozen_heap hp1.out 1
      have g2 := frozen_heap hp1.out 2
      have g3 := frozen_heap hp1.out 3
      go_wp2_with fail
      ((with_reducible refine (hAt.out w1 (hR.out.mono EBlob.stable hb1.out)).mono ?_); rintro e w2 ⟨rfl, rfl⟩)
      have hq2 := hid hq1.out
      have hp2 := hid hp1.out
      have hb2 := hid hb1.out
      go_wp2_with fail
      have hp9 := box4_same (u0 := .slice none 0 0) (u1 := .slice none 0 0) (u2 := .int .i64 0) (u3 := .int .i64 0) hp2.out
      have hb9 := b_box4 hb2.out (q := w.heap.size + 1) (Nat.le_succ _) (.slice none 0 0) (.slice none 0 0) (.int .i64 0) (.int .i64 0)
      obtain ⟨m0, m1, m2, m3⟩ := box4f hp9
      unfold World.box4 at m0 m1 m2 m3 hb9
      refine bodyPost_ret (by simp [results, Tryz.results87, go_sem, m0, m1, m2, m3]; try rfl) rfl ?_
      exact st_no hd.out (by decide) hb9
    · have hx : bs[i]? = some bs[i] := List.getElem?_eq_getElem (by omega)
      generalize bs[i] = x at hx
      obtain ⟨bb, off, rfl, hbb, he⟩ := hat _ _ hx
      have hd3 := hid (hd1.out x hx)
      have hl3 := hid (hl1.out x hx)
      have hxf := hid ((hf1.out) x (List.mem_of_getElem? hx))
      have hpm := hid (fun w => ref_PinMoved x.pins up w)
      have hmw := hid (pinMove_wf (n := x.pins) (up := up))
      generalize pinMove x.pins up = pm at *
      obtain ⟨m, e⟩ := pm
      simp only at hd3 hl3 hmw hpm
      have q1 : ((i : Int) == (bs.length : Int)) = false := by simp; omega
      have hilt : i < bs.length := by omega
      have hi0 : (0 : Int) ≤ (i : Int) := by omega
      have hi1 : (i : Int) < (bs.length : Int) := by omega
      replace hx := hid hx
      clear hat hat2 hd1 hd2 hl1
      go_enter Tryz.func87, Tryz.ntmps87
      go_wp2_with fail
      ((with_reducible refine (hch.out _ (hR.out.mono EBlob.stable (b_alloc (b_alloc (Below.refl _ _) _) _)) (hE.out.mono EEntry.stable (b_alloc (b_alloc (Below.refl _ _) _) _))).mono ?_); rintro e w1 ⟨rfl, b1⟩)
      have hq1 := hid (stays b1 (heap_alloc2_old w (Obj.cells #[.slice (some ⟨bb, off, none⟩) bs.length c, .slice a2 es.length c2, .int .i64 r, .int .i64 t] 25) (Obj.cells #[.slice none 0 0, .slice none 0 0, .int .i64 0, .int .i64 0] 25)))
      have hp1 := hid (stays b1 (heap_alloc2_new w (Obj.cells #[.slice (some ⟨bb, off, none⟩) bs.length c, .slice a2 es.length c2, .int .i64 r, .int .i64 t] 25) (Obj.cells #[.slice none 0 0, .slice none 0 0, .int .i64 0, .int .i64 0] 25)))
      have hb1 := hid (b_call (b_alloc (b_alloc (Below.refl w.heap.size w) _) _) b1)
      clear b1
      obtain ⟨x0, x1, x2, x3⟩ := box4f hq1.out
      obtain ⟨y0, y1, y2, y3⟩ := box4f hp1.out
      have g0 := frozen_heap hp1.out 0
      have g1 := frozen_heap hp1.out 1
      have g2 := frozen_heap hp1.out 2
      have g3 := frozen_heap hp1.out 3
      go_wp2_with fail
      ((with_reducible refine (hAt.out w1 (hR.out.mono EBlob.stable hb1.out)).mono ?_); rintro e w2 ⟨rfl, rfl⟩)
      have hq2 := hid hq1.out
      have hp2 := hid hp1.out
      have hb2 := hid hb1.out
      obtain ⟨dv, d0, d1, d2, d3, rdv, -⟩ := EBlob.stable _ _ _ _ _ hb2.out hbb he
      clear he rdv
      by_cases he : e = 0
      · subst he
        have hd := hid hd3.out
        have qe : ((0 : Int) != 0) = false := by decide
        go_wp2_with fail
        ((with_reducible refine (hpm.out w1).mono ?_); rintro e' w' ⟨rfl, rfl⟩)
        go_wp2_with fail
        ((with_reducible refine (ref_StoreCopyO _ _ bs es r t w1 (hR.out.mono EBlob.stable hb2.out) (hE.out.mono EEntry.stable hb2.out)).mono ?_); rintro e' w3 ⟨v1, v2, rfl, o1, o2, b3⟩)
        have hs1 := hb2.out.size
        have hs3 := b3.size
        have hp3 := hid (stays b3 hp2.out)
        have hb3 := hid (b_call hb2.out b3)
        have hpl := heap_lt hp2.out
        obtain ⟨gg, cap, rfl, hgB, hgl, ⟨uu, hcu⟩, hfr⟩ := OX.spot o1 (i := i) (o := 2) hilt (by decide)
        obtain ⟨a3, c3, rfl⟩ := OX.lenOf o2
        have hp4 := heap_lt hp3.out
        clear hq1 hq2 x0 x1 x2 x3 y0 y1 y2 y3 g0 g1 g2 g3 hp1 hp2 d0 d1 d2 d3 hb1
        obtain ⟨y0, y1, y2, y3⟩ := box4f hp3.out
        have g0 := frozen_heap hp3.out 0
        have g1 := frozen_heap hp3.out 1
        have g2 := frozen_heap hp3.out 2
        have g3 := frozen_heap hp3.out 3
        have hgne : gg ≠ w.heap.size + 1 := by omega
        replace o1 := hid o1
        replace o2 := hid o2
        clear b3
        go_wp2_with fail
        have hpA := box_other (q := gg) (o := i * 4 + 2) (u := .int .i64 m) hp3.out (Ne.symm hgne)
        have hpB := box4_same (u0 := (.slice (some ⟨gg, 0, none⟩) bs.length cap)) (u1 := (.slice a3 es.length c3)) (u2 := .int .i64 r) (u3 := .int .i64 t) hpA
        have hp9 := (heap_alloc_old _ (Obj.cells #[(.slice (some ⟨gg, 0, none⟩) bs.length cap), (.slice a3 es.length c3), .int .i64 r, .int .i64 t] 25) (heap_lt hpB)).trans hpB
        have hb9 := b_alloc (b_box4 (b_set hb3.out (p := ⟨gg, i * 4 + 2, none⟩) (show w.heap.size ≤ gg by omega) (.int .i64 m)) (q := w.heap.size + 1) (Nat.le_succ _) (.slice (some ⟨gg, 0, none⟩) bs.length cap) (.slice a3 es.length c3) (.int .i64 r) (.int .i64 t)) (Obj.cells #[(.slice (some ⟨gg, 0, none⟩) bs.length cap), (.slice a3 es.length c3), .int .i64 r, .int .i64 t] 25)
        have oo1 := OBlob.alloc (OBlob.box (u0 := (.slice (some ⟨gg, 0, none⟩) bs.length cap)) (u1 := (.slice a3 es.length c3)) (u2 := .int .i64 r) (u3 := .int .i64 t) (OBlob.pins m o1.out hx.out) hpA (by decide) (by decide)) (Obj.cells #[(.slice (some ⟨gg, 0, none⟩) bs.length cap), (.slice a3 es.length c3), .int .i64 r, .int .i64 t] 25)
        have oo2 := OEntry.alloc (OEntry.box (u0 := (.slice (some ⟨gg, 0, none⟩) bs.length cap)) (u1 := (.slice a3 es.length c3)) (u2 := .int .i64 r) (u3 := .int .i64 t) (o2.out.beside o1.out) hpA (by decide) (by decide)) (Obj.cells #[(.slice (some ⟨gg, 0, none⟩) bs.length cap), (.slice a3 es.length c3), .int .i64 r, .int .i64 t] 25)
        obtain ⟨m0, m1, m2, m3⟩ := box4f hp9
        unfold World.box4 at m0 m1 m2 m3 hb9 oo1 oo2
        refine bodyPost_ret (by simp [results, Tryz.results87, go_sem, m0, m1, m2, m3]; try rfl) rfl ?_
        exact st_ok hd.out (by rw [hl3.out]) (oo1.toR (by rw [List.length_set]; exact hre) (set_all hf1.out (FitBlob.pins hxf.out hmw.out))) (oo2.toR hre2 hf2.out) hb9
      · have ht : (e != 0) = true := by simp [he]
        have hd := hid hd3.out
        replace he := hid he
        go_wp2_with fail
        ((with_reducible refine (hpm.out w1).mono ?_); rintro e' w' ⟨rfl, rfl⟩)
        go_wp2_with fail
        have hp9 := box4_same (u0 := .slice none 0 0) (u1 := .slice none 0 0) (u2 := .int .i64 0) (u3 := .int .i64 0) hp2.out
        have hb9 := b_box4 hb2.out (q := w.heap.size + 1) (Nat.le_succ _) (.slice none 0 0) (.slice none 0 0) (.int .i64 0) (.int .i64 0)
        obtain ⟨m0, m1, m2, m3⟩ := box4f hp9
        unfold World.box4 at m0 m1 m2 m3 hb9
        refine bodyPost_ret (by simp [results, Tryz.results87, go_sem, m0, m1, m2, m3]; try rfl) rfl ?_
        exact st_no hd.out he.out hb9
  · have ht : (z != 0) = true := by simp [hz]
    have hd := hid (holdE_bad (key := fun x : Blob => x.digest) (pins := fun x => x.pins) (s := s) (up := up) (l := bs) hz)
    replace hz := hid hz
    clear hat hat2
    go_enter Tryz.func87, Tryz.ntmps87
    go_wp2_with fail
    ((with_reducible refine (hch.out _ (hR.out.mono EBlob.stable (b_alloc (b_alloc (Below.refl _ _) _) _)) (hE.out.mono EEntry.stable (b_alloc (b_alloc (Below.refl _ _) _) _))).mono ?_); rintro e w1 ⟨rfl, b1⟩)
    have hq1 := hid (stays b1 (heap_alloc2_old w (Obj.cells #[.slice a bs.length c, .slice a2 es.length c2, .int .i64 r, .int .i64 t] 25) (Obj.cells #[.slice none 0 0, .slice none 0 0, .int .i64 0, .int .i64 0] 25)))
    have hp1 := hid (stays b1 (heap_alloc2_new w (Obj.cells #[.slice a bs.length c, .slice a2 es.length c2, .int .i64 r, .int .i64 t] 25) (Obj.cells #[.slice none 0 0, .slice none 0 0, .int .i64 0, .int .i64 0] 25)))
    have hb1 := hid (b_call (b_alloc (b_alloc (Below.refl w.heap.size w) _) _) b1)
    clear b1
    obtain ⟨x0, x1, x2, x3⟩ := box4f hq1.out
    obtain ⟨y0, y1, y2, y3⟩ := box4f hp1.out
    have g0 := frozen_heap hp1.out 0
    have g1 := frozen_heap hp1.out 1
    have g2 := frozen_heap hp1.out 2
    have g3 := frozen_heap hp1.out 3
    go_wp2_with fail
    have hp9 := box4_same (u0 := .slice none 0 0) (u1 := .slice none 0 0) (u2 := .int .i64 0) (u3 := .int .i64 0) hp1.out
    have hb9 := b_box4 hb1.out (q := w.heap.size + 1) (Nat.le_succ _) (.slice none 0 0) (.slice none 0 0) (.int .i64 0) (.int .i64 0)
    obtain ⟨m0, m1, m2, m3⟩ := box4f hp9
    unfold World.box4 at m0 m1 m2 m3 hb9
    refine bodyPost_ret (by simp [results, Tryz.results87, go_sem, m0, m1, m2, m3]; try rfl) rfl ?_
    exact st_no hd.out hz.out hb9
end Go.Proofs.YtkbijjglodnfbaaGreat
