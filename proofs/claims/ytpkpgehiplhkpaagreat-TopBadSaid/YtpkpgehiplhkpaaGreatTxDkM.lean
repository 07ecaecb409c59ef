import Derived.Test.YtpkpgehiplhkpaaGreatTxDkK
import Derived.Test.YtpkpgehiplhkpaaGreatTxDkW
import Derived.Deep.RegionHeld3
import Derived.Deep.DeepCutAuto
import Derived.Test.YtpkpgehiplhkpaaGreatTxBrL
namespace Go.Proofs.YtpkpgehiplhkpaaGreat
open Go.RowKit
theorem qxdkg_3 {P : Prop} (h : P := by first | omega | (simp; omega) | (simp <;> fail) | fail) : P := h
theorem qxdkg_2 {P : Prop} (h : P := by first | omega | (show _ ≤ _; omega) | (simp; omega) | (simp <;> fail) | fail) : P := h
theorem qxdkg_1 {P : Prop} (h : P := by ((repeat (first | with_reducible exact Below.refl _ _ | with_reducible exact Below.refl _ _ | (with_reducible refine Below.alloc ?_ (by first | omega | (simp; omega) | (simp <;> fail) | fail) _) | (with_reducible refine Below.setCell ?_ (by first | omega | (show _ ≤ _; omega) | (simp; omega) | (simp <;> fail) | fail) _) | (with_reducible refine Below.drew ?_) | fail)) <;> fail)) : P := h
theorem rep_3 {w : World} {q : Nat} {a b c d e f u : Value} {T : TypeId} (h : w.heap[q]? = some (.cells #[a, b, c, d, e, f] T (0, 0))) : (w.setCell ⟨q, 3, none⟩ u).heap[q]? = some (.cells #[a, b, c, u, e, f] T (0, 0)) := by
 simp [World.setCell, Array.getElem?_modify, h]
set_option maxRecDepth 100000 in
set_option maxHeartbeats 8000000 in
theorem desk_entry_get (p : Nat) (L : Loft) (o : Order) (dv pv : Value) (w : World) (hL : DeskAt w p L) (hd : RB w dv o.data) (hps : RP w pv o.parts) (er : Int) (S1 : Store) (P1 : List Part) (hk : o.kind = 6)
 (hop : ∀ v u w, RBl w v L.store.blobs → RE w u L.store.entries → Calls Tryz.prog 21 #[.agg #[v, u, .int .i64 L.store.room, .int .i64 L.store.clock], .string o.digest] w fun e w' => ∃ v pv, e = .returned (.tuple #[v, pv, .int .i64 er]) ∧ VS w' v S1 ∧ RP w' pv P1 ∧ Below w.heap.size w w') :
 Calls Tryz.prog 78 #[.pointer (some ⟨p, 0, none⟩), .agg #[.int .i64 o.kind, .int .i64 o.n, .string o.digest, dv, pv]] w (DeskPost p (if er = 0 then ⟨S1, L.coll, L.flights⟩ else L) ⟨er, ⟨#[]⟩, [], P1, 0, []⟩ w) := by
 obtain ⟨a1, c1, a2, c2, a3, c3, a4, c4, hp, hL⟩ := hL
 have hlt := heap_lt hp
 have hD := hid hd
 have hS := hid hps
 obtain ⟨da, dc, rfl, -⟩ := hd
 obtain ⟨pa, pc, rfl, -⟩ := hps
 have hR := hid hL.rb
 have hE := hid hL.re
 have hG := hid hL.rt
 have hF := hid hL.rf
 replace hL := hid hL
 rw [hk]
 replace hk := hid hk
 unfold VS at hop
 replace hop := hid hop
 obtain ⟨B1, E1, r1, t1⟩ := S1
 simp only at hop
 generalize hNL : (if er = 0 then (⟨⟨B1, E1, r1, t1⟩, L.coll, L.flights⟩ : Loft) else L) = NL
 replace hNL := hid hNL
 go_enter Tryz.func78, Tryz.ntmps78
 go_upto_region 5 with fail
 have hO := hid (alloc_keep (o := Obj.cells #[.int .i64 0, .string ⟨#[]⟩, .slice none 0 0, .slice none 0 0, .int .i64 0, .slice none 0 0] 45) (heap_alloc_new w (Obj.cells #[.int .i64 6, .int .i64 o.n, .string o.digest, .slice da o.data.length dc, .slice pa o.parts.length pc] 47)))
 have hQ := hid (heap_put (w.alloc (Obj.cells #[.int .i64 6, .int .i64 o.n, .string o.digest, .slice da o.data.length dc, .slice pa o.parts.length pc] 47)) (Obj.cells #[.int .i64 0, .string ⟨#[]⟩, .slice none 0 0, .slice none 0 0, .int .i64 0, .slice none 0 0] 45) (w.heap.size + 1) (by simp))
 have hP := hid (alloc_keep (o := Obj.cells #[.int .i64 0, .string ⟨#[]⟩, .slice none 0 0, .slice none 0 0, .int .i64 0, .slice none 0 0] 45) (alloc_keep (o := Obj.cells #[.int .i64 6, .int .i64 o.n, .string o.digest, .slice da o.data.length dc, .slice pa o.parts.length pc] 47) hp))
 have hb := hid (b_alloc (b_alloc (Below.refl _ w) (Obj.cells #[.int .i64 6, .int .i64 o.n, .string o.digest, .slice da o.data.length dc, .slice pa o.parts.length pc] 47)) (Obj.cells #[.int .i64 0, .string ⟨#[]⟩, .slice none 0 0, .slice none 0 0, .int .i64 0, .slice none 0 0] 45))
 generalize (w.alloc (Obj.cells #[.int .i64 6, .int .i64 o.n, .string o.digest, .slice da o.data.length dc, .slice pa o.parts.length pc] 47)).alloc (Obj.cells #[.int .i64 0, .string ⟨#[]⟩, .slice none 0 0, .slice none 0 0, .int .i64 0, .slice none 0 0] 45) = w2 at *
 replace hp := hid hp
 obtain ⟨y0, y1, y2, y3, y4, y5, y6, y7⟩ := box8f hP.out
 obtain ⟨z0, z1, z2, z3, z4⟩ := ord5f hO.out
 have hpl : p < w2.heap.size := heap_lt hP.out
 have hol : w.heap.size < w2.heap.size := heap_lt hO.out
 have hql : w.heap.size + 1 < w2.heap.size := heap_lt hQ.out
 have hST : Hid (∀ w', Below w2.heap.size w2 w' → w'.cell? ⟨p, 0, none⟩ = some (.slice a1 L.store.blobs.length c1) ∧ w'.cell? ⟨p, 1, none⟩ = some (.slice a2 L.store.entries.length c2) ∧ w'.cell? ⟨p, 2, none⟩ = some (.int .i64 L.store.room) ∧ w'.cell? ⟨p, 3, none⟩ = some (.int .i64 L.store.clock) ∧ w'.cell? ⟨w.heap.size, 2, none⟩ = some (.string o.digest)) := hid (fun w' hB => ⟨cell_stays hB (show p < _ by omega) y0, cell_stays hB (show p < _ by omega) y1, cell_stays hB (show p < _ by omega) y2, cell_stays hB (show p < _ by omega) y3, cell_stays hB (show w.heap.size < _ by omega) z2⟩)
 have hop2 := hid (fun (W : World) (hB : Below w2.heap.size w2 W) => hop.out _ _ W (hR.out.mono EBlob.stable (hb.out.trans (hB.mono hb.out.size))) (hE.out.mono EEntry.stable (hb.out.trans (hB.mono hb.out.size))))
 go_cut [5, 6, 7] (fun s5 s6 s7 wx => GtMid B1 E1 r1 t1 P1 er w2 s5 s6 s7 wx)
 case first =>
  go_region_held3 (fun w' => w'.cell? ⟨p, 0, none⟩ = some (.slice a1 L.store.blobs.length c1) ∧ w'.cell? ⟨p, 1, none⟩ = some (.slice a2 L.store.entries.length c2) ∧ w'.cell? ⟨p, 2, none⟩ = some (.int .i64 L.store.room) ∧ w'.cell? ⟨p, 3, none⟩ = some (.int .i64 L.store.clock) ∧ w'.cell? ⟨w.heap.size, 2, none⟩ = some (.string o.digest))
   (first | (refine hST.out _ ?_; ((repeat (first | with_reducible exact hb3.out | with_reducible exact Below.refl _ _ | (with_reducible refine Below.alloc ?_ qxdkg_3 _) | (with_reducible refine Below.setCell ?_ qxdkg_2 _) | (with_reducible refine Below.drew ?_) | fail)) <;> fail)) | (refine hST.out _ ?_; ((repeat (first | with_reducible exact Below.refl _ _ | with_reducible exact Below.refl _ _ | (with_reducible refine Below.alloc ?_ qxdkg_3 _) | (with_reducible refine Below.setCell ?_ qxdkg_2 _) | (with_reducible refine Below.drew ?_) | fail)) <;> fail)) | fail)
   ((first
     | ((with_reducible refine (hop2.out _ qxdkg_1).mono ?_)
        rintro e w3 ⟨_, pv3, rfl, ⟨v3, u3, rfl, rb3, re3⟩, rp3, b3⟩
        have hb3 : Below w2.heap.size w2 w3 := b_call qxdkg_1 b3
        have hs3 := hb3.size
        obtain ⟨b1, d1, rfl, -⟩ := id rb3
        obtain ⟨b2, d2, rfl, -⟩ := id re3
        obtain ⟨b5, d5, rfl, -⟩ := id rp3
        replace rb3 := hid rb3
        replace re3 := hid re3
        replace rp3 := hid rp3
        (first | (refine by_fact (P := w3.heap[w2.heap.size]? = some (.cells #[.slice none 0 0, .slice none 0 0, .int .i64 0, .int .i64 0] 29 (0, 0))) ?_ ?_; (focus (((repeat (first | (with_reducible apply box4_0) | (with_reducible apply box4_1) | (with_reducible apply box4_2) | (with_reducible apply box4_3) | (with_reducible apply box3_0) | (with_reducible apply box3_1) | (with_reducible apply box3_2) | (with_reducible refine heap_put _ _ _ (by first | rfl | (simp <;> fail) | fail)) | (with_reducible refine alloc_keep ?_) | (with_reducible refine box_other ?_ qxdkg_3) | (with_reducible refine stays b3 ?_) | (with_reducible refine heap_drewn ?_) | fail)) <;> fail))); intro xs; obtain ⟨xs0, xs1, xs2, xs3⟩ := box4f xs; have xsf0 := frozen_heap xs 0; have xsf1 := frozen_heap xs 1; have xsf2 := frozen_heap xs 2; have xsf3 := frozen_heap xs 3; have xslt := heap_lt xs; replace xs := hid xs) | skip)
        replace b3 := hid b3
        replace hb3 := hid hb3)
     | fail))
  all_goals
   (try go_wp2_with fail)
   go_meet
   first
    | exact ⟨_, b1, d1, b2, d2, b5, d5, rfl, rfl, rfl, hs3, heap_alloc_new _ _, rb3.out.mono EBlob.stable (b_alloc (Below.refl _ _) _), re3.out.mono EEntry.stable (b_alloc (Below.refl _ _) _), rp3.out.mono EPart.stable (b_alloc (Below.refl _ _) _), b_alloc hb3.out _⟩
    | exact ⟨_, b1, d1, b2, d2, b5, d5, rfl, rfl, rfl, Nat.le_refl _, box4_same xs.out, rb3.out.odd (box4_setE xs.out) (fun g e => by cases e; exact store_odd xs.out), re3.out.odd (box4_setE xs.out) (fun g e => by cases e; exact store_odd xs.out), rp3.out.odd (box4_setE xs.out) (fun g e => by cases e; exact store_odd xs.out), by ((repeat (first | with_reducible exact hb3.out | with_reducible exact Below.refl _ _ | (with_reducible refine Below.alloc ?_ qxdkg_3 _) | (with_reducible refine Below.setCell ?_ qxdkg_2 _) | (with_reducible refine Below.drew ?_) | fail)) <;> fail)⟩
 case rest =>
  obtain ⟨x, b1, d1, b2, d2, b5, d5, rfl, rfl, rfl, hxl, hx, rb, re, rp, hbc⟩ := hcut
  have hpc := hid (stays hbc hP.out)
  have hqc := hid (stays hbc hQ.out)
  have hLc := hid (hL.out.below (b_call hb.out hbc))
  have hNc := hid (⟨rb, re, hLc.out.og, hLc.out.of, hLc.out.gk, hLc.out.fk⟩ : LoftIs wc (p + 1) ⟨⟨B1, E1, r1, t1⟩, L.coll, L.flights⟩ b1 d1 b2 d2 a3 c3 a4 c4)
  have hrp := hid rp
  have hE0 := hid ((Ex.of (p := p) hb.out).trans (Ex.of hbc))
  have hsc := hbc.size
  obtain ⟨x0, x1, x2, x3⟩ := box4f hx
  have hxl2 := heap_lt hx
  obtain ⟨y0, y1, y2, y3, y4, y5, y6, y7⟩ := box8f hpc.out
  have hSB : Hid (∀ w', Below wc.heap.size wc w' → w'.cell? ⟨x, 0, none⟩ = some (.slice b1 B1.length d1) ∧ w'.cell? ⟨x, 1, none⟩ = some (.slice b2 E1.length d2) ∧ w'.cell? ⟨x, 2, none⟩ = some (.int .i64 r1) ∧ w'.cell? ⟨x, 3, none⟩ = some (.int .i64 t1) ∧ w'.cell? ⟨p, 4, none⟩ = some (.int .i64 L.coll.phase) ∧ w'.cell? ⟨p, 5, none⟩ = some (.slice a3 L.coll.grey.length c3) ∧ w'.cell? ⟨p, 6, none⟩ = some (.string L.coll.place)) := hid (fun w' hB => ⟨cell_stays hB hxl2 x0, cell_stays hB hxl2 x1, cell_stays hB hxl2 x2, cell_stays hB hxl2 x3, cell_stays hB (heap_lt hpc.out) y4, cell_stays hB (heap_lt hpc.out) y5, cell_stays hB (heap_lt hpc.out) y6⟩)
  have hSX : Hid (∀ w', Ex p wc w' → w'.heap[p]? = some (.cells (if er = 0 then dcells ⟨⟨B1, E1, r1, t1⟩, L.coll, L.flights⟩ b1 d1 b2 d2 a3 c3 a4 c4 else dcells L a1 c1 a2 c2 a3 c3 a4 c4) 94 (0, 0)) → w'.cell? ⟨x, 0, none⟩ = some (.slice b1 B1.length d1) ∧ w'.cell? ⟨x, 1, none⟩ = some (.slice b2 E1.length d2) ∧ w'.cell? ⟨x, 2, none⟩ = some (.int .i64 r1) ∧ w'.cell? ⟨x, 3, none⟩ = some (.int .i64 t1) ∧ w'.cell? ⟨p, 4, none⟩ = some (.int .i64 L.coll.phase) ∧ w'.cell? ⟨p, 5, none⟩ = some (.slice a3 L.coll.grey.length c3) ∧ w'.cell? ⟨p, 6, none⟩ = some (.string L.coll.place)) := hid (fun w' hx hh => by
   have q : w'.cell? ⟨p, 4, none⟩ = some (.int .i64 L.coll.phase) ∧ w'.cell? ⟨p, 5, none⟩ = some (.slice a3 L.coll.grey.length c3) ∧ w'.cell? ⟨p, 6, none⟩ = some (.string L.coll.place) := by
    by_cases he : er = 0
    · rw [if_pos he] at hh
      obtain ⟨_, _, _, _, q4, q5, q6, _⟩ := box8f hh
      exact ⟨q4, q5, q6⟩
    · rw [if_neg he] at hh
      obtain ⟨_, _, _, _, q4, q5, q6, _⟩ := box8f hh
      exact ⟨q4, q5, q6⟩
   exact ⟨hx.cell x0 (by simp; omega), hx.cell x1 (by simp; omega), hx.cell x2 (by simp; omega), hx.cell x3 (by simp; omega), q⟩)
  have hkp := hid (fun (W : World) (hB : Below wc.heap.size wc W) => desk_keep p _ _ _ _ _ _ _ _ b1 b2 a3 B1.length d1 E1.length d2 L.coll.grey.length c3 r1 t1 L.coll.phase L.coll.place er W (stays hB hpc.out))
  clear hx rb re rp z0 z1 z2 z3 z4 hop2 hST
  replace hbc := hid hbc
  go_upto_region 6 with fail
  go_cut [8] (fun s8 wx => GkMid p er (dcells ⟨⟨B1, E1, r1, t1⟩, L.coll, L.flights⟩ b1 d1 b2 d2 a3 c3 a4 c4) (dcells L a1 c1 a2 c2 a3 c3 a4 c4) wc s8 wx)
  case first =>
   go_region_held3 (fun w' => w'.cell? ⟨x, 0, none⟩ = some (.slice b1 B1.length d1) ∧ w'.cell? ⟨x, 1, none⟩ = some (.slice b2 E1.length d2) ∧ w'.cell? ⟨x, 2, none⟩ = some (.int .i64 r1) ∧ w'.cell? ⟨x, 3, none⟩ = some (.int .i64 t1) ∧ w'.cell? ⟨p, 4, none⟩ = some (.int .i64 L.coll.phase) ∧ w'.cell? ⟨p, 5, none⟩ = some (.slice a3 L.coll.grey.length c3) ∧ w'.cell? ⟨p, 6, none⟩ = some (.string L.coll.place))
    (first | (refine hSB.out _ ?_; ((repeat (first | with_reducible exact Below.refl _ _ | with_reducible exact Below.refl _ _ | (with_reducible refine Below.alloc ?_ qxdkg_3 _) | (with_reducible refine Below.setCell ?_ qxdkg_2 _) | (with_reducible refine Below.drew ?_) | fail)) <;> fail)) | (refine hSX.out _ ?_ ?_; (focus (((repeat (first | with_reducible exact hE5.out | with_reducible exact hE5 | (with_reducible refine Ex.alloc ?_ _) | (with_reducible refine Ex.new ?_ qxdkg_2) | (with_reducible refine Ex.drew ?_) | fail)) <;> fail))); ((repeat (first | with_reducible exact hp5 | with_reducible exact hp5.out | (with_reducible refine alloc_keep ?_) | (with_reducible refine box_other ?_ (by first | omega | (simp; omega) | fail)) | (with_reducible refine heap_drewn ?_) | fail)) <;> fail)) | fail)
    ((first
      | ((with_reducible refine (hkp.out _ qxdkg_1).mono ?_)
         rintro e w5 ⟨rfl, hp5, hx5⟩
         have hE5 : Ex p wc w5 := (Ex.of qxdkg_1).trans hx5
         have hs5 := hE5.size
         (first | (refine by_fact (P := w5.heap[wc.heap.size]? = some (.cells #[.int .i64 0, .string ⟨#[]⟩, .slice none 0 0, .slice none 0 0, .int .i64 0, .slice none 0 0] 45 (0, 0))) ?_ ?_; (focus (refine Ex.keep hx5 ?_ (by omega); ((repeat (first | (with_reducible apply box4_0) | (with_reducible apply box4_1) | (with_reducible apply box4_2) | (with_reducible apply box4_3) | (with_reducible apply box3_0) | (with_reducible apply box3_1) | (with_reducible apply box3_2) | (with_reducible refine heap_put _ _ _ (by first | rfl | (simp <;> fail) | fail)) | (with_reducible refine alloc_keep ?_) | (with_reducible refine box_other ?_ qxdkg_3) | (with_reducible refine heap_drewn ?_) | fail)) <;> fail))); intro xs; obtain ⟨xs0, xs1, xs2, xs3, xs4, xs5⟩ := rep6f xs; have xf0 := frozen_heap xs 0; have xf1 := frozen_heap xs 1; have xf2 := frozen_heap xs 2; have xf3 := frozen_heap xs 3; have xf4 := frozen_heap xs 4; have xf5 := frozen_heap xs 5; have xslt := heap_lt xs; replace xs := hid xs) | skip)
         replace hp5 := hid hp5
         replace hE5 := hid hE5
         replace hx5 := hid hx5)
      | fail))
   all_goals
    (try go_wp2_with fail)
    go_meet
    first
     | exact ⟨_, rfl, hs5, heap_alloc_new _ _, alloc_keep hp5.out, hE5.out.alloc _⟩
     | exact ⟨_, rfl, Nat.le_refl _, rep_set xs.out, rep_far hp5.out (by omega), by ((repeat (first | with_reducible exact hE5.out | with_reducible exact hE5 | (with_reducible refine Ex.alloc ?_ _) | (with_reducible refine Ex.new ?_ qxdkg_2) | (with_reducible refine Ex.drew ?_) | fail)) <;> fail)⟩
  case rest =>
   obtain ⟨z, rfl, hzl, hz, hpz, hEz⟩ := hcut
   have hd5 := desk_kept hpc.out hLc.out hNc.out hEz hpz
   rw [hNL.out] at hd5
   replace hd5 := hid hd5
   have hE5 := hid (hE0.out.trans hEz)
   have hq5 := hid (hEz.keep hqc.out (by omega))
   have rp5 := hid (hrp.out.odd hEz (fun g e => by cases e; exact desk_odd hpc.out))
   have hz5 := hid hz
   have hzq : z ≠ w.heap.size + 1 := by omega
   have hqz := heap_lt hq5.out
   have hzz := heap_lt hz
   have hzw : w.heap.size ≤ z := by omega
   obtain ⟨i0, i1, i2, i3, i4, i5⟩ := rep6f hz
   have if3 := frozen_heap hz 3
   clear hz hpz hkp hSX hSB hpc hqc hLc hNc hrp hE0 x0 x1 x2 x3 y0 y1 y2 y3 y4 y5 y6 y7 hop
   replace hEz := hid hEz
   go_upto_region 8 with fail
   have hz7 := hid (rep_3 (u := .slice b5 P1.length d5) hz5.out)
   have hq7 := hid (box_other (q := z) (o := 3) (u := .slice b5 P1.length d5) hq5.out (by omega))
   have hx7 := (Ex.of (p := z) (Below.refl wc.heap.size wc)).set (o := 3) (u := .slice b5 P1.length d5)
   have hd7 := hid (hd5.out.exT hx7 hz5.out (by omega))
   have rp7 := hid (rp5.out.odd hx7 (fun g e => by cases e; exact rep_odd hz5.out))
   have hE7 := hid (hE5.out.later hx7 hzw)
   clear hx7 hd5 hE5 hq5 rp5 hz5 i0 i1 i2 i3 i4 i5 if3
   generalize wc.setCell ⟨z, 3, none⟩ (.slice b5 P1.length d5) = w7 at *
   obtain ⟨k0, k1, k2, k3, k4, k5⟩ := rep6f hq7.out
   obtain ⟨j0, j1, j2, j3, j4, j5⟩ := rep6f hz7.out
   have f0 := frozen_heap hq7.out 0
   have f1 := frozen_heap hq7.out 1
   have f2 := frozen_heap hq7.out 2
   have f3 := frozen_heap hq7.out 3
   have f4 := frozen_heap hq7.out 4
   have f5 := frozen_heap hq7.out 5
   go_wp2_with fail
   have hr9 := rep_set (u0 := .int .i64 er) (u1 := .string ⟨#[]⟩) (u2 := .slice none 0 0) (u3 := .slice b5 P1.length d5) (u4 := .int .i64 0) (u5 := .slice none 0 0) hq7.out
   obtain ⟨v0, v1, v2, v3, v4, v5⟩ := rep6f hr9
   refine bodyPost_ret (by simp [results, Tryz.results78, go_sem, v0, v1, v2, v3, v4, v5]; try rfl) rfl ?_
   exact post_ok (y := ⟨er, ⟨#[]⟩, [], P1, 0, []⟩) hd7.out hE7.out hq7.out (by omega) (by omega) RS.nil rp7.out OS.nil whoOk_nil (Ex.of (Below.refl _ _)).set.set.set.set.set.set
end Go.Proofs.YtpkpgehiplhkpaaGreat

namespace Go.Proofs.YtpkpgehiplhkpaaGreat
open Go.RowKit
theorem qxdkm_5 {P : Prop} (h : P := by first | omega | (show _ ≤ _; omega) | (simp; omega) | (simp <;> fail) | fail) : P := h
theorem qxdkm_4 {P : Prop} (h : P := by first | rfl | (simp <;> fail) | fail) : P := h
theorem qxdkm_3 {P : Prop} (h : P := by first | omega | (simp; omega) | (simp <;> fail) | fail) : P := h
theorem qxdkm_2 {P : Prop} (h : P := by ((repeat (first | with_reducible exact Below.refl _ _ | with_reducible exact Below.refl _ _ | (with_reducible refine Below.alloc ?_ (by first | omega | (simp; omega) | (simp <;> fail) | fail) _) | (with_reducible refine Below.setCell ?_ (by first | omega | (show _ ≤ _; omega) | (simp; omega) | (simp <;> fail) | fail) _) | (with_reducible refine Below.drew ?_) | fail)) <;> fail)) : P := h
theorem qxdkm_1 {P : Prop} (h : P := by ((repeat (first | with_reducible exact xs.out | with_reducible exact xc.out | with_reducible exact ys.out | with_reducible exact yc.out | (with_reducible apply box4_0) | (with_reducible apply box4_1) | (with_reducible apply box4_2) | (with_reducible apply box4_3) | (with_reducible apply box3_0) | (with_reducible apply box3_1) | (with_reducible apply box3_2) | (with_reducible refine heap_put _ _ _ (by first | rfl | (simp <;> fail) | fail)) | (with_reducible refine alloc_keep ?_) | (with_reducible refine box_other ?_ (by first | omega | (simp; omega) | (simp <;> fail) | fail)) | (with_reducible refine heap_drewn ?_) | fail)) <;> fail)) : P := h
set_option maxRecDepth 100000 in
set_option maxHeartbeats 8000000 in
theorem desk_blob_put (p : Nat) (L : Loft) (o : Order) (dv pv : Value) (w : World) (hL : DeskAt w p L) (hd : RB w dv o.data) (hps : RP w pv o.parts) (O : CoOut) (D : ByteArray) (hk : o.kind = 1)
 (hop : ∀ v u gv dv w, RBl w v L.store.blobs → RE w u L.store.entries → RT w gv L.coll.grey → RB w dv o.data → Calls Tryz.prog 144 #[.agg #[v, u, .int .i64 L.store.room, .int .i64 L.store.clock], .agg #[.int .i64 L.coll.phase, gv, .string L.coll.place], dv] w (CoResD O D w)) :
 Calls Tryz.prog 77 #[.pointer (some ⟨p, 0, none⟩), .agg #[.int .i64 o.kind, .int .i64 o.n, .string o.digest, dv, pv]] w (DeskPost p (if O.err = 0 then ⟨O.store, O.coll, L.flights⟩ else L) ⟨O.err, D, [], [], 0, []⟩ w) := by
 obtain ⟨a1, c1, a2, c2, a3, c3, a4, c4, hp, hL⟩ := hL
 have hlt := heap_lt hp
 have hD := hid hd
 have hS := hid hps
 obtain ⟨da, dc, rfl, -⟩ := hd
 obtain ⟨pa, pc, rfl, -⟩ := hps
 have hR := hid hL.rb
 have hE := hid hL.re
 have hG := hid hL.rt
 have hF := hid hL.rf
 replace hL := hid hL
 rw [hk]
 replace hk := hid hk
 unfold CoResD VS at hop
 replace hop := hid hop
 obtain ⟨er, ⟨B1, E1, r1, t1⟩, ⟨p1, G1, s1⟩⟩ := O
 simp only at hop
 show Calls _ _ _ _ (DeskPost p (if er = 0 then ⟨⟨B1, E1, r1, t1⟩, ⟨p1, G1, s1⟩, L.flights⟩ else L) ⟨er, D, [], [], 0, []⟩ w)
 generalize hNL : (if er = 0 then (⟨⟨B1, E1, r1, t1⟩, ⟨p1, G1, s1⟩, L.flights⟩ : Loft) else L) = NL
 replace hNL := hid hNL
 go_enter Tryz.func77, Tryz.ntmps77
 go_upto_region 3 with fail
 have hO := hid (alloc_keep (o := Obj.cells #[.int .i64 0, .string ⟨#[]⟩, .slice none 0 0, .slice none 0 0, .int .i64 0, .slice none 0 0] 45) (heap_alloc_new w (Obj.cells #[.int .i64 1, .int .i64 o.n, .string o.digest, .slice da o.data.length dc, .slice pa o.parts.length pc] 47)))
 have hQ := hid (heap_put (w.alloc (Obj.cells #[.int .i64 1, .int .i64 o.n, .string o.digest, .slice da o.data.length dc, .slice pa o.parts.length pc] 47)) (Obj.cells #[.int .i64 0, .string ⟨#[]⟩, .slice none 0 0, .slice none 0 0, .int .i64 0, .slice none 0 0] 45) (w.heap.size + 1) (by simp))
 have hP := hid (alloc_keep (o := Obj.cells #[.int .i64 0, .string ⟨#[]⟩, .slice none 0 0, .slice none 0 0, .int .i64 0, .slice none 0 0] 45) (alloc_keep (o := Obj.cells #[.int .i64 1, .int .i64 o.n, .string o.digest, .slice da o.data.length dc, .slice pa o.parts.length pc] 47) hp))
 have hb := hid (b_alloc (b_alloc (Below.refl _ w) (Obj.cells #[.int .i64 1, .int .i64 o.n, .string o.digest, .slice da o.data.length dc, .slice pa o.parts.length pc] 47)) (Obj.cells #[.int .i64 0, .string ⟨#[]⟩, .slice none 0 0, .slice none 0 0, .int .i64 0, .slice none 0 0] 45))
 generalize (w.alloc (Obj.cells #[.int .i64 1, .int .i64 o.n, .string o.digest, .slice da o.data.length dc, .slice pa o.parts.length pc] 47)).alloc (Obj.cells #[.int .i64 0, .string ⟨#[]⟩, .slice none 0 0, .slice none 0 0, .int .i64 0, .slice none 0 0] 45) = w2 at *
 replace hp := hid hp
 obtain ⟨y0, y1, y2, y3, y4, y5, y6, y7⟩ := box8f hP.out
 obtain ⟨z0, z1, z2, z3, z4⟩ := ord5f hO.out
 have hpl : p < w2.heap.size := heap_lt hP.out
 have hol : w.heap.size < w2.heap.size := heap_lt hO.out
 have hql : w.heap.size + 1 < w2.heap.size := heap_lt hQ.out
 have hST : Hid (∀ w', Below w2.heap.size w2 w' → w'.cell? ⟨p, 0, none⟩ = some (.slice a1 L.store.blobs.length c1) ∧ w'.cell? ⟨p, 1, none⟩ = some (.slice a2 L.store.entries.length c2) ∧ w'.cell? ⟨p, 2, none⟩ = some (.int .i64 L.store.room) ∧ w'.cell? ⟨p, 3, none⟩ = some (.int .i64 L.store.clock) ∧ w'.cell? ⟨p, 4, none⟩ = some (.int .i64 L.coll.phase) ∧ w'.cell? ⟨p, 5, none⟩ = some (.slice a3 L.coll.grey.length c3) ∧ w'.cell? ⟨p, 6, none⟩ = some (.string L.coll.place) ∧ w'.cell? ⟨w.heap.size, 3, none⟩ = some (.slice da o.data.length dc)) := hid (fun w' hB => ⟨cell_stays hB (show p < _ by omega) y0, cell_stays hB (show p < _ by omega) y1, cell_stays hB (show p < _ by omega) y2, cell_stays hB (show p < _ by omega) y3, cell_stays hB (show p < _ by omega) y4, cell_stays hB (show p < _ by omega) y5, cell_stays hB (show p < _ by omega) y6, cell_stays hB (show w.heap.size < _ by omega) z3⟩)
 have hop2 := hid (fun (W : World) (hB : Below w2.heap.size w2 W) => hop.out _ _ _ _ W (hR.out.mono EBlob.stable (hb.out.trans (hB.mono hb.out.size))) (hE.out.mono EEntry.stable (hb.out.trans (hB.mono hb.out.size))) (hG.out.mono EStr.stable (hb.out.trans (hB.mono hb.out.size))) (hD.out.mono EU8.stable (hb.out.trans (hB.mono hb.out.size))))
 go_cut [5, 6, 7, 8] (fun s5 s6 s7 s8 wx => PbMid p B1 E1 r1 t1 p1 G1 s1 D er w2 s5 s6 s7 s8 wx)
 case first =>
  go_region_held3 (fun w' => w'.cell? ⟨p, 0, none⟩ = some (.slice a1 L.store.blobs.length c1) ∧ w'.cell? ⟨p, 1, none⟩ = some (.slice a2 L.store.entries.length c2) ∧ w'.cell? ⟨p, 2, none⟩ = some (.int .i64 L.store.room) ∧ w'.cell? ⟨p, 3, none⟩ = some (.int .i64 L.store.clock) ∧ w'.cell? ⟨p, 4, none⟩ = some (.int .i64 L.coll.phase) ∧ w'.cell? ⟨p, 5, none⟩ = some (.slice a3 L.coll.grey.length c3) ∧ w'.cell? ⟨p, 6, none⟩ = some (.string L.coll.place) ∧ w'.cell? ⟨w.heap.size, 3, none⟩ = some (.slice da o.data.length dc))
   (first | (refine hST.out _ ?_; ((repeat (first | with_reducible exact hb3.out | with_reducible exact Below.refl _ _ | (with_reducible refine Below.alloc ?_ qxdkm_3 _) | (with_reducible refine Below.setCell ?_ qxdkm_5 _) | (with_reducible refine Below.drew ?_) | fail)) <;> fail)) | (refine hST.out _ ?_; ((repeat (first | with_reducible exact Below.refl _ _ | with_reducible exact Below.refl _ _ | (with_reducible refine Below.alloc ?_ qxdkm_3 _) | (with_reducible refine Below.setCell ?_ qxdkm_5 _) | (with_reducible refine Below.drew ?_) | fail)) <;> fail)) | fail)
   ((first
     | ((with_reducible refine (hop2.out _ qxdkm_2).mono ?_)
        rintro e w3 ⟨_, gv3, rfl, ⟨v3, u3, rfl, rb3, re3⟩, rg3, og3, b3⟩
        have hb3 : Below w2.heap.size w2 w3 := b_call qxdkm_2 b3
        have hs3 := hb3.size
        have og3 := og3.mono (Nat.le_trans (Nat.succ_le_of_lt hpl) (Below.size (w := w2) (B := w2.heap.size) qxdkm_2))
        obtain ⟨b1, d1, rfl, -⟩ := id rb3
        obtain ⟨b2, d2, rfl, -⟩ := id re3
        obtain ⟨b4, d4, rfl, -⟩ := id rg3
        have gk3 := hid (GreyOk.of rg3)
        replace rb3 := hid rb3
        replace re3 := hid re3
        replace rg3 := hid rg3
        replace og3 := hid og3
        (first | (refine by_fact (P := w3.heap[w2.heap.size]? = some (.cells #[.slice none 0 0, .slice none 0 0, .int .i64 0, .int .i64 0] 29 (0, 0))) ?_ ?_; (focus (((repeat (first | (with_reducible apply box4_0) | (with_reducible apply box4_1) | (with_reducible apply box4_2) | (with_reducible apply box4_3) | (with_reducible apply box3_0) | (with_reducible apply box3_1) | (with_reducible apply box3_2) | (with_reducible refine heap_put _ _ _ qxdkm_4) | (with_reducible refine alloc_keep ?_) | (with_reducible refine box_other ?_ qxdkm_3) | (with_reducible refine stays b3 ?_) | (with_reducible refine heap_drewn ?_) | fail)) <;> fail))); intro xs; obtain ⟨xs0, xs1, xs2, xs3⟩ := box4f xs; have xsf0 := frozen_heap xs 0; have xsf1 := frozen_heap xs 1; have xsf2 := frozen_heap xs 2; have xsf3 := frozen_heap xs 3; have xslt := heap_lt xs; replace xs := hid xs) | skip)
        (first | (refine by_fact (P := w3.heap[w2.heap.size]? = some (.cells #[.int .i64 0, .slice none 0 0, .string ⟨#[]⟩] 32 (0, 0))) ?_ ?_; (focus (((repeat (first | (with_reducible apply box4_0) | (with_reducible apply box4_1) | (with_reducible apply box4_2) | (with_reducible apply box4_3) | (with_reducible apply box3_0) | (with_reducible apply box3_1) | (with_reducible apply box3_2) | (with_reducible refine heap_put _ _ _ qxdkm_4) | (with_reducible refine alloc_keep ?_) | (with_reducible refine box_other ?_ qxdkm_3) | (with_reducible refine stays b3 ?_) | (with_reducible refine heap_drewn ?_) | fail)) <;> fail))); intro xc; obtain ⟨xc0, xc1, xc2, -⟩ := box3f xc; have xcf0 := frozen_heap xc 0; have xcf1 := frozen_heap xc 1; have xcf2 := frozen_heap xc 2; have xclt := heap_lt xc; replace xc := hid xc) | skip)
        (first | (refine by_fact (P := w3.heap[w2.heap.size + 1]? = some (.cells #[.slice none 0 0, .slice none 0 0, .int .i64 0, .int .i64 0] 29 (0, 0))) ?_ ?_; (focus (((repeat (first | (with_reducible apply box4_0) | (with_reducible apply box4_1) | (with_reducible apply box4_2) | (with_reducible apply box4_3) | (with_reducible apply box3_0) | (with_reducible apply box3_1) | (with_reducible apply box3_2) | (with_reducible refine heap_put _ _ _ qxdkm_4) | (with_reducible refine alloc_keep ?_) | (with_reducible refine box_other ?_ qxdkm_3) | (with_reducible refine stays b3 ?_) | (with_reducible refine heap_drewn ?_) | fail)) <;> fail))); intro ys; obtain ⟨ys0, ys1, ys2, ys3⟩ := box4f ys; have ysf0 := frozen_heap ys 0; have ysf1 := frozen_heap ys 1; have ysf2 := frozen_heap ys 2; have ysf3 := frozen_heap ys 3; have yslt := heap_lt ys; replace ys := hid ys) | skip)
        (first | (refine by_fact (P := w3.heap[w2.heap.size + 1]? = some (.cells #[.int .i64 0, .slice none 0 0, .string ⟨#[]⟩] 32 (0, 0))) ?_ ?_; (focus (((repeat (first | (with_reducible apply box4_0) | (with_reducible apply box4_1) | (with_reducible apply box4_2) | (with_reducible apply box4_3) | (with_reducible apply box3_0) | (with_reducible apply box3_1) | (with_reducible apply box3_2) | (with_reducible refine heap_put _ _ _ qxdkm_4) | (with_reducible refine alloc_keep ?_) | (with_reducible refine box_other ?_ qxdkm_3) | (with_reducible refine stays b3 ?_) | (with_reducible refine heap_drewn ?_) | fail)) <;> fail))); intro yc; obtain ⟨yc0, yc1, yc2, -⟩ := box3f yc; have ycf0 := frozen_heap yc 0; have ycf1 := frozen_heap yc 1; have ycf2 := frozen_heap yc 2; have yclt := heap_lt yc; replace yc := hid yc) | skip)
        replace b3 := hid b3
        replace hb3 := hid hb3)
     | fail))
  all_goals
   (try go_wp2_with fail)
   go_meet
   refine ⟨_, _, b1, d1, b2, d2, b4, d4, rfl, rfl, rfl, rfl, ?_, ?_, ?_, ?_, ?_, gk3.out, ?_⟩
   · ((repeat (first | with_reducible exact xs.out | with_reducible exact xc.out | with_reducible exact ys.out | with_reducible exact yc.out | (with_reducible apply box4_0) | (with_reducible apply box4_1) | (with_reducible apply box4_2) | (with_reducible apply box4_3) | (with_reducible apply box3_0) | (with_reducible apply box3_1) | (with_reducible apply box3_2) | (with_reducible refine heap_put _ _ _ qxdkm_4) | (with_reducible refine alloc_keep ?_) | (with_reducible refine box_other ?_ qxdkm_3) | (with_reducible refine heap_drewn ?_) | fail)) <;> fail)
   · ((repeat (first | with_reducible exact xs.out | with_reducible exact xc.out | with_reducible exact ys.out | with_reducible exact yc.out | (with_reducible apply box4_0) | (with_reducible apply box4_1) | (with_reducible apply box4_2) | (with_reducible apply box4_3) | (with_reducible apply box3_0) | (with_reducible apply box3_1) | (with_reducible apply box3_2) | (with_reducible refine heap_put _ _ _ qxdkm_4) | (with_reducible refine alloc_keep ?_) | (with_reducible refine box_other ?_ qxdkm_3) | (with_reducible refine heap_drewn ?_) | fail)) <;> fail)
   · ((repeat (first | with_reducible exact rb3.out | (with_reducible refine RS.al EBlob.stable ?_ _) | (with_reducible refine RS.write ?_ (EBlob.writes _ _ _ _ (SBox.of qxdkm_1))) | (with_reducible refine RS.write ?_ (EBlob.writesC _ _ _ _ (CBox.of qxdkm_1))) | fail)) <;> fail)
   · ((repeat (first | with_reducible exact re3.out | (with_reducible refine RS.al EEntry.stable ?_ _) | (with_reducible refine RS.write ?_ (EEntry.writes _ _ _ _ (SBox.of qxdkm_1))) | (with_reducible refine RS.write ?_ (EEntry.writesC _ _ _ _ (CBox.of qxdkm_1))) | fail)) <;> fail)
   · ((repeat (first | with_reducible exact og3.out | (with_reducible refine OS.alloc ?_ _) | (with_reducible refine OS.atS ?_ qxdkm_1) | (with_reducible refine OS.atC ?_ qxdkm_1) | fail)) <;> fail)
   · ((repeat (first | with_reducible exact hb3.out | with_reducible exact Below.refl _ _ | (with_reducible refine Below.alloc ?_ qxdkm_3 _) | (with_reducible refine Below.setCell ?_ qxdkm_5 _) | (with_reducible refine Below.drew ?_) | fail)) <;> fail)
 case rest =>
  obtain ⟨x, y, b1, d1, b2, d2, b3, d3, rfl, rfl, rfl, rfl, hx, hy, rb, re, og, gk, hbc⟩ := hcut
  have hpc := hid (stays hbc hP.out)
  have hqc := hid (stays hbc hQ.out)
  have hLc := hid (hL.out.below (b_call hb.out hbc))
  have hNc := hid (⟨rb, re, og, hLc.out.of, gk, hLc.out.fk⟩ : LoftIs wc (p + 1) ⟨⟨B1, E1, r1, t1⟩, ⟨p1, G1, s1⟩, L.flights⟩ b1 d1 b2 d2 b3 d3 a4 c4)
  obtain ⟨n0, n1, n2, n3⟩ := box4f hx
  obtain ⟨m0, m1, m2, -⟩ := box3f hy
  have hE0 := hid ((Ex.of (p := p) hb.out).trans (Ex.of (hbc)))
  clear hx hy rb re og gk y0 y1 y2 y3 y4 y5 y6 y7 z0 z1 z2 z3 z4
  replace hbc := hid hbc
  go_wp2_with fail
  (with_reducible refine (desk_keep p _ _ _ _ _ _ _ _ b1 b2 b3 B1.length d1 E1.length d2 G1.length d3 r1 t1 p1 s1 er _ hpc.out).mono ?_)
  rintro e5 w5 ⟨rfl, hp5, hx5⟩
  have hd5 := desk_kept hpc.out hLc.out hNc.out hx5 hp5
  rw [hNL.out] at hd5
  replace hd5 := hid hd5
  have hE5 := hid (hE0.out.trans hx5)
  have hq5 := hid (hx5.keep hqc.out (by omega))
  clear n0 n1 n2 n3 m0 m1 m2 hp5
  have hl5 := heap_lt hq5.out
  replace hx5 := hid hx5
  go_upto_region 6 with fail
  have hq6 := hid (alloc_keep (o := Obj.cells #[.int .i64 er, .string D, .slice none 0 0, .slice none 0 0, .int .i64 0, .slice none 0 0] 45) hq5.out)
  have hz6 := hid (heap_alloc_new w5 (Obj.cells #[.int .i64 er, .string D, .slice none 0 0, .slice none 0 0, .int .i64 0, .slice none 0 0] 45))
  have hx6 := hid (Ex.of (p := w.heap.size + 1) (b_alloc (Below.refl w5.heap.size w5) (Obj.cells #[.int .i64 er, .string D, .slice none 0 0, .slice none 0 0, .int .i64 0, .slice none 0 0] 45)))
  have hz9 : w5.heap.size ≠ w.heap.size + 1 := by omega
  generalize w5.alloc (Obj.cells #[.int .i64 er, .string D, .slice none 0 0, .slice none 0 0, .int .i64 0, .slice none 0 0] 45) = w6 at *
  obtain ⟨k0, k1, k2, k3, k4, k5⟩ := rep6f hq6.out
  obtain ⟨j0, j1, j2, j3, j4, j5⟩ := rep6f hz6.out
  have f0 := frozen_heap hq6.out 0
  have f1 := frozen_heap hq6.out 1
  have f2 := frozen_heap hq6.out 2
  have f3 := frozen_heap hq6.out 3
  have f4 := frozen_heap hq6.out 4
  have f5 := frozen_heap hq6.out 5
  go_wp2_with fail
  have hr9 := rep_set (u0 := .int .i64 er) (u1 := .string D) (u2 := .slice none 0 0) (u3 := .slice none 0 0) (u4 := .int .i64 0) (u5 := .slice none 0 0) hq6.out
  obtain ⟨v0, v1, v2, v3, v4, v5⟩ := rep6f hr9
  refine bodyPost_ret (by simp [results, Tryz.results77, go_sem, v0, v1, v2, v3, v4, v5]; try rfl) rfl ?_
  exact post_ok (y := ⟨er, D, _, _, 0, _⟩) hd5.out hE5.out hq5.out (by omega) (by omega) RS.nil RS.nil OS.nil whoOk_nil hx6.out.set.set.set.set.set.set
end Go.Proofs.YtpkpgehiplhkpaaGreat
