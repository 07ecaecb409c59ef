import Derived.Test.YtpkpgehiplhkpaaGreatTzDkW
import Derived.Deep.DeepCutAuto
namespace Go.Proofs.YtpkpgehiplhkpaaGreat
open Go.RowKit
theorem qzdkf_2 {P : Prop} (h : P := by simp; omega) : P := h
theorem qzdkf_1 {P : Prop} (h : P := by ((repeat (first | with_reducible exact Below.refl _ _ | with_reducible exact Below.refl _ _ | (with_reducible refine Below.alloc ?_ (by first | omega | (simp; omega) | (simp <;> fail) | fail) _) | (with_reducible refine Below.setCell ?_ (by first | omega | (show _ ≤ _; omega) | (simp; omega) | (simp <;> fail) | fail) _) | (with_reducible refine Below.drew ?_) | fail)) <;> fail)) : P := h
set_option maxRecDepth 100000 in
set_option maxHeartbeats 8000000 in
theorem desk_flight_done (p : Nat) (L : Loft) (o : Order) (dv pv : Value) (w : World) (hL : DeskAt w p L) (hd : RB w dv o.data) (hps : RP w pv o.parts) (O : LfOut) (hk : o.kind = 13)
 (hop : ∀ v u gv fv pv w, RBl w v L.store.blobs → RE w u L.store.entries → RT w gv L.coll.grey → RF w fv L.flights → RP w pv o.parts → Calls Tryz.prog 155 #[.agg #[v, u, .int .i64 L.store.room, .int .i64 L.store.clock, .int .i64 L.coll.phase, gv, .string L.coll.place, fv], .string o.digest, pv] w (LfRes O w)) :
 Calls Tryz.prog 80 #[.pointer (some ⟨p, 0, none⟩), .agg #[.int .i64 o.kind, .int .i64 o.n, .string o.digest, dv, pv]] w (DeskPost p (if O.err = 0 then ⟨O.store, O.coll, O.flights⟩ else L) ⟨O.err, ⟨#[]⟩, [], [], 0, O.who⟩ w) := by
 obtain ⟨a1, c1, a2, c2, a3, c3, a4, c4, hp, hL⟩ := hL
 have hlt := heap_lt hp
 have hD := hid hd
 have hS := hid hps
 obtain ⟨da, dc, rfl, -⟩ := hd
 obtain ⟨pa, pc, rfl, -⟩ := hps
 have hR := hid hL.rb
 have hE := hid hL.re
 have hG := hid hL.rt
 have hF := hid hL.rf
 replace hL := hid hL
 rw [hk]
 replace hk := hid hk
 unfold LfRes at hop
 replace hop := hid hop
 obtain ⟨er, ⟨B1, E1, r1, t1⟩, ⟨p1, G1, s1⟩, F1, W1⟩ := O
 simp only at hop
 show Calls _ _ _ _ (DeskPost p (if er = 0 then ⟨⟨B1, E1, r1, t1⟩, ⟨p1, G1, s1⟩, F1⟩ else L) ⟨er, ⟨#[]⟩, [], [], 0, W1⟩ w)
 generalize hNL : (if er = 0 then (⟨⟨B1, E1, r1, t1⟩, ⟨p1, G1, s1⟩, F1⟩ : Loft) else L) = NL
 replace hNL := hid hNL
 go_enter Tryz.func80, Tryz.ntmps80
 go_upto_region 15 with fail
 have hO := hid (alloc_keep (o := Obj.cells #[.slice none 0 0, .slice none 0 0, .int .i64 0, .int .i64 0, .int .i64 0, .slice none 0 0, .string ⟨#[]⟩, .slice none 0 0] 35) (alloc_keep (o := Obj.cells #[.int .i64 0, .string ⟨#[]⟩, .slice none 0 0, .slice none 0 0, .int .i64 0, .slice none 0 0] 45) (heap_alloc_new w (Obj.cells #[.int .i64 13, .int .i64 o.n, .string o.digest, .slice da o.data.length dc, .slice pa o.parts.length pc] 47))))
 have hQ := hid (alloc_keep (o := Obj.cells #[.slice none 0 0, .slice none 0 0, .int .i64 0, .int .i64 0, .int .i64 0, .slice none 0 0, .string ⟨#[]⟩, .slice none 0 0] 35) (heap_put (w.alloc (Obj.cells #[.int .i64 13, .int .i64 o.n, .string o.digest, .slice da o.data.length dc, .slice pa o.parts.length pc] 47)) (Obj.cells #[.int .i64 0, .string ⟨#[]⟩, .slice none 0 0, .slice none 0 0, .int .i64 0, .slice none 0 0] 45) (w.heap.size + 1) (by simp)))
 have hZ := hid (heap_put ((w.alloc (Obj.cells #[.int .i64 13, .int .i64 o.n, .string o.digest, .slice da o.data.length dc, .slice pa o.parts.length pc] 47)).alloc (Obj.cells #[.int .i64 0, .string ⟨#[]⟩, .slice none 0 0, .slice none 0 0, .int .i64 0, .slice none 0 0] 45)) (Obj.cells #[.slice none 0 0, .slice none 0 0, .int .i64 0, .int .i64 0, .int .i64 0, .slice none 0 0, .string ⟨#[]⟩, .slice none 0 0] 35) (w.heap.size + 1 + 1) (by simp))
 have hP := hid (alloc_keep (o := Obj.cells #[.slice none 0 0, .slice none 0 0, .int .i64 0, .int .i64 0, .int .i64 0, .slice none 0 0, .string ⟨#[]⟩, .slice none 0 0] 35) (alloc_keep (o := Obj.cells #[.int .i64 0, .string ⟨#[]⟩, .slice none 0 0, .slice none 0 0, .int .i64 0, .slice none 0 0] 45) (alloc_keep (o := Obj.cells #[.int .i64 13, .int .i64 o.n, .string o.digest, .slice da o.data.length dc, .slice pa o.parts.length pc] 47) hp)))
 have hb := hid (b_alloc (b_alloc (b_alloc (Below.refl _ w) (Obj.cells #[.int .i64 13, .int .i64 o.n, .string o.digest, .slice da o.data.length dc, .slice pa o.parts.length pc] 47)) (Obj.cells #[.int .i64 0, .string ⟨#[]⟩, .slice none 0 0, .slice none 0 0, .int .i64 0, .slice none 0 0] 45)) (Obj.cells #[.slice none 0 0, .slice none 0 0, .int .i64 0, .int .i64 0, .int .i64 0, .slice none 0 0, .string ⟨#[]⟩, .slice none 0 0] 35))
 generalize ((w.alloc (Obj.cells #[.int .i64 13, .int .i64 o.n, .string o.digest, .slice da o.data.length dc, .slice pa o.parts.length pc] 47)).alloc (Obj.cells #[.int .i64 0, .string ⟨#[]⟩, .slice none 0 0, .slice none 0 0, .int .i64 0, .slice none 0 0] 45)).alloc (Obj.cells #[.slice none 0 0, .slice none 0 0, .int .i64 0, .int .i64 0, .int .i64 0, .slice none 0 0, .string ⟨#[]⟩, .slice none 0 0] 35) = w2 at *
 replace hp := hid hp
 obtain ⟨y0, y1, y2, y3, y4, y5, y6, y7⟩ := box8f hP.out
 obtain ⟨z0, z1, z2, z3, z4⟩ := ord5f hO.out
 have hpl : p < w2.heap.size := heap_lt hP.out
 have hol : w.heap.size < w2.heap.size := heap_lt hO.out
 have hql : w.heap.size + 1 < w2.heap.size := heap_lt hQ.out
 have hzl : w.heap.size + 1 + 1 < w2.heap.size := heap_lt hZ.out
 have hST : Hid (∀ w', Below w2.heap.size w2 w' → w'.cell? ⟨p, 0, none⟩ = some (.slice a1 L.store.blobs.length c1) ∧ w'.cell? ⟨p, 1, none⟩ = some (.slice a2 L.store.entries.length c2) ∧ w'.cell? ⟨p, 2, none⟩ = some (.int .i64 L.store.room) ∧ w'.cell? ⟨p, 3, none⟩ = some (.int .i64 L.store.clock) ∧ w'.cell? ⟨p, 4, none⟩ = some (.int .i64 L.coll.phase) ∧ w'.cell? ⟨p, 5, none⟩ = some (.slice a3 L.coll.grey.length c3) ∧ w'.cell? ⟨p, 6, none⟩ = some (.string L.coll.place) ∧ w'.cell? ⟨p, 7, none⟩ = some (.slice a4 L.flights.length c4) ∧ w'.cell? ⟨w.heap.size, 2, none⟩ = some (.string o.digest) ∧ w'.cell? ⟨w.heap.size, 4, none⟩ = some (.slice pa o.parts.length pc)) := hid (fun w' hB => ⟨cell_stays hB (show p < _ by omega) y0, cell_stays hB (show p < _ by omega) y1, cell_stays hB (show p < _ by omega) y2, cell_stays hB (show p < _ by omega) y3, cell_stays hB (show p < _ by omega) y4, cell_stays hB (show p < _ by omega) y5, cell_stays hB (show p < _ by omega) y6, cell_stays hB (show p < _ by omega) y7, cell_stays hB (show w.heap.size < _ by omega) z2, cell_stays hB (show w.heap.size < _ by omega) z4⟩)
 have hSX : Hid (∀ w', Ex (w.heap.size + 1 + 1) w2 w' → w'.cell? ⟨p, 0, none⟩ = some (.slice a1 L.store.blobs.length c1) ∧ w'.cell? ⟨p, 1, none⟩ = some (.slice a2 L.store.entries.length c2) ∧ w'.cell? ⟨p, 2, none⟩ = some (.int .i64 L.store.room) ∧ w'.cell? ⟨p, 3, none⟩ = some (.int .i64 L.store.clock) ∧ w'.cell? ⟨p, 4, none⟩ = some (.int .i64 L.coll.phase) ∧ w'.cell? ⟨p, 5, none⟩ = some (.slice a3 L.coll.grey.length c3) ∧ w'.cell? ⟨p, 6, none⟩ = some (.string L.coll.place) ∧ w'.cell? ⟨p, 7, none⟩ = some (.slice a4 L.flights.length c4) ∧ w'.cell? ⟨w.heap.size, 2, none⟩ = some (.string o.digest) ∧ w'.cell? ⟨w.heap.size, 4, none⟩ = some (.slice pa o.parts.length pc)) := hid (fun w' hx => ⟨hx.cell y0 qzdkf_2, hx.cell y1 qzdkf_2, hx.cell y2 qzdkf_2, hx.cell y3 qzdkf_2, hx.cell y4 qzdkf_2, hx.cell y5 qzdkf_2, hx.cell y6 qzdkf_2, hx.cell y7 qzdkf_2, hx.cell z2 qzdkf_2, hx.cell z4 qzdkf_2⟩)
 have hop2 := hid (fun (W : World) (hB : Below w2.heap.size w2 W) => hop.out _ _ _ _ _ W (hR.out.mono EBlob.stable (hb.out.trans (hB.mono hb.out.size))) (hE.out.mono EEntry.stable (hb.out.trans (hB.mono hb.out.size))) (hG.out.mono EStr.stable (hb.out.trans (hB.mono hb.out.size))) (hF.out.mono EFlight.stable (hb.out.trans (hB.mono hb.out.size))) (hS.out.mono EPart.stable (hb.out.trans (hB.mono hb.out.size))))
 go_region_held3 (fun w' => w'.cell? ⟨p, 0, none⟩ = some (.slice a1 L.store.blobs.length c1) ∧ w'.cell? ⟨p, 1, none⟩ = some (.slice a2 L.store.entries.length c2) ∧ w'.cell? ⟨p, 2, none⟩ = some (.int .i64 L.store.room) ∧ w'.cell? ⟨p, 3, none⟩ = some (.int .i64 L.store.clock) ∧ w'.cell? ⟨p, 4, none⟩ = some (.int .i64 L.coll.phase) ∧ w'.cell? ⟨p, 5, none⟩ = some (.slice a3 L.coll.grey.length c3) ∧ w'.cell? ⟨p, 6, none⟩ = some (.string L.coll.place) ∧ w'.cell? ⟨p, 7, none⟩ = some (.slice a4 L.flights.length c4) ∧ w'.cell? ⟨w.heap.size, 2, none⟩ = some (.string o.digest) ∧ w'.cell? ⟨w.heap.size, 4, none⟩ = some (.slice pa o.parts.length pc))
  (first | (refine hST.out _ ?_; ((repeat (first | with_reducible exact hb3.out | with_reducible exact Below.refl _ _ | (with_reducible refine Below.alloc ?_ (by first | omega | (simp; omega) | (simp <;> fail) | fail) _) | (with_reducible refine Below.setCell ?_ (by first | omega | (show _ ≤ _; omega) | (simp; omega) | (simp <;> fail) | fail) _) | (with_reducible refine Below.drew ?_) | fail)) <;> fail)) | (refine hST.out _ ?_; ((repeat (first | with_reducible exact Below.refl _ _ | with_reducible exact Below.refl _ _ | (with_reducible refine Below.alloc ?_ (by first | omega | (simp; omega) | (simp <;> fail) | fail) _) | (with_reducible refine Below.setCell ?_ (by first | omega | (show _ ≤ _; omega) | (simp; omega) | (simp <;> fail) | fail) _) | (with_reducible refine Below.drew ?_) | fail)) <;> fail)) | (refine hSX.out _ ?_; ((repeat (first | with_reducible exact Ex.of hb3.out | (with_reducible refine Ex.set ?_) | (with_reducible refine Ex.drew ?_) | fail)) <;> fail)) | fail)
  ((first
    | ((with_reducible refine (hop2.out _ qzdkf_1).mono ?_)
       rintro e w3 ⟨v3, u3, gv3, fv3, wv3, rfl, rb3, re3, rg3, rf3, ri3, og3, of3, ow3, b3⟩
       have hb3 : Below w2.heap.size w2 w3 := b_call qzdkf_1 b3
       have hs3 := hb3.size
       have hB3 := Below.size (w := w2) (B := w2.heap.size) qzdkf_1
       have og3 := hid (og3.mono (Nat.le_trans (Nat.succ_le_of_lt hpl) hB3))
       have of3 := hid (of3.low (Nat.le_trans (Nat.succ_le_of_lt hpl) hB3))
       have ow3 := hid (ow3.mono (Nat.le_trans (Nat.succ_le_of_lt hpl) hB3))
       obtain ⟨b1, d1, rfl, -⟩ := id rb3
       obtain ⟨b2, d2, rfl, -⟩ := id re3
       obtain ⟨b3', d3, rfl, -⟩ := id rg3
       obtain ⟨b4, d4, rfl, -⟩ := id rf3
       obtain ⟨b5, d5, rfl, -⟩ := id ri3
       have gk3 := hid (GreyOk.of rg3)
       have fk3 := hid (FlOk.of rf3)
       have wk3 := hid (WhoOk.of ri3)
       replace rb3 := hid rb3
       replace re3 := hid re3
       have hz3 := hid (stays hb3 hZ.out)
       obtain ⟨x0, x1, x2, x3, x4, x5, x6, x7⟩ := box8f hz3.out
       have xf0 := frozen_heap hz3.out 0
       have xf1 := frozen_heap hz3.out 1
       have xf2 := frozen_heap hz3.out 2
       have xf3 := frozen_heap hz3.out 3
       have xf4 := frozen_heap hz3.out 4
       have xf5 := frozen_heap hz3.out 5
       have xf6 := frozen_heap hz3.out 6
       have xf7 := frozen_heap hz3.out 7
       clear rg3 rf3 ri3
       replace b3 := hid b3
       replace hb3 := hid hb3)
    | fail))
 have hp3 := hid (stays hb3.out hP.out)
 have hq3 := hid (stays hb3.out hQ.out)
 have hL3 := hid (hL.out.below (b_call hb.out hb3.out))
 have hN3 : LoftIs w3 (p + 1) ⟨⟨B1, E1, r1, t1⟩, ⟨p1, G1, s1⟩, F1⟩ b1 d1 b2 d2 b3' d3 b4 d4 := ⟨rb3.out, re3.out, og3.out, of3.out, gk3.out, fk3.out⟩
 have hE3 := hid ((Ex.of (p := p) hb.out).trans (Ex.of hb3.out))
 have hx4 := box8_setE (u0 := .slice b1 B1.length d1) (u1 := .slice b2 E1.length d2) (u2 := .int .i64 r1) (u3 := .int .i64 t1) (u4 := .int .i64 p1) (u5 := .slice b3' G1.length d3) (u6 := .string s1) (u7 := .slice b4 F1.length d4) hz3.out
 have hz4 := hid (set8 (u0 := .slice b1 B1.length d1) (u1 := .slice b2 E1.length d2) (u2 := .int .i64 r1) (u3 := .int .i64 t1) (u4 := .int .i64 p1) (u5 := .slice b3' G1.length d3) (u6 := .string s1) (u7 := .slice b4 F1.length d4) hz3.out)
 have hp4 := hid (hx4.keep hp3.out (by omega))
 have hq4 := hid (hx4.keep hq3.out (by omega))
 have hL4 := hid (hL3.out.exT hx4 (desk_odd hz3.out) hz3.out (by decide) (by decide) (by decide))
 have hN4 := hid (hN3.exT hx4 (desk_odd hz3.out) hz3.out (by decide) (by decide) (by decide))
 have ow4 := hid (ow3.out.exT hx4 hz3.out (by decide))
 have hE4 := hid (hE3.out.later hx4 (by omega))
 clear hx4 hz3 hp3 hq3 hL3 hN3 hE3 ow3 og3 of3 gk3 fk3 rb3 re3 x0 x1 x2 x3 x4 x5 x6 x7 xf0 xf1 xf2 xf3 xf4 xf5 xf6 xf7 y0 y1 y2 y3 y4 y5 y6 y7 z0 z1 z2 z3 z4 hb3 b3 hop2 hop hST hSX
 generalize ((((((((w3.setCell ⟨w.heap.size + 1 + 1, 0, none⟩ (.slice b1 B1.length d1)).setCell ⟨w.heap.size + 1 + 1, 1, none⟩ (.slice b2 E1.length d2)).setCell ⟨w.heap.size + 1 + 1, 2, none⟩ (.int .i64 r1)).setCell ⟨w.heap.size + 1 + 1, 3, none⟩ (.int .i64 t1)).setCell ⟨w.heap.size + 1 + 1, 4, none⟩ (.int .i64 p1)).setCell ⟨w.heap.size + 1 + 1, 5, none⟩ (.slice b3' G1.length d3)).setCell ⟨w.heap.size + 1 + 1, 6, none⟩ (.string s1)).setCell ⟨w.heap.size + 1 + 1, 7, none⟩ (.slice b4 F1.length d4)) = w4 at *
 obtain ⟨x0, x1, x2, x3, x4, x5, x6, x7⟩ := box8f hz4.out
 go_wp2_with fail
 (with_reducible refine (desk_become p _ _ _ _ _ _ _ _ b1 b2 b3' b4 B1.length d1 E1.length d2 G1.length d3 F1.length d4 r1 t1 p1 s1 er _ hp4.out).mono ?_)
 rintro e5 w5 ⟨rfl, hp5, hx5⟩
 have hd5 := desk_kept hp4.out hL4.out hN4.out hx5 hp5
 rw [hNL.out] at hd5
 replace hd5 := hid hd5
 have hE5 := hid (hE4.out.trans hx5)
 have hq5 := hid (hx5.keep hq4.out (by omega))
 have ow5 := hid (ow4.out.ex hx5 (Nat.lt_succ_self p))
 clear x0 x1 x2 x3 x4 x5 x6 x7 hp5 hz4 hp4 hq4 hL4 hN4 ow4 hE4
 have hl5 := heap_lt hq5.out
 replace hx5 := hid hx5
 go_upto_region 19 with fail
 have hq6 := hid (alloc_keep (o := Obj.cells #[.int .i64 er, .string ⟨#[]⟩, .slice none 0 0, .slice none 0 0, .int .i64 0, .slice b5 W1.length d5] 45) hq5.out)
 have hz6 := hid (heap_alloc_new w5 (Obj.cells #[.int .i64 er, .string ⟨#[]⟩, .slice none 0 0, .slice none 0 0, .int .i64 0, .slice b5 W1.length d5] 45))
 have hx6 := hid (Ex.of (p := w.heap.size + 1) (b_alloc (Below.refl w5.heap.size w5) (Obj.cells #[.int .i64 er, .string ⟨#[]⟩, .slice none 0 0, .slice none 0 0, .int .i64 0, .slice b5 W1.length d5] 45)))
 have hz9 : w5.heap.size ≠ w.heap.size + 1 := by omega
 generalize w5.alloc (Obj.cells #[.int .i64 er, .string ⟨#[]⟩, .slice none 0 0, .slice none 0 0, .int .i64 0, .slice b5 W1.length d5] 45) = w6 at *
 obtain ⟨k0, k1, k2, k3, k4, k5⟩ := rep6f hq6.out
 obtain ⟨j0, j1, j2, j3, j4, j5⟩ := rep6f hz6.out
 have f0 := frozen_heap hq6.out 0
 have f1 := frozen_heap hq6.out 1
 have f2 := frozen_heap hq6.out 2
 have f3 := frozen_heap hq6.out 3
 have f4 := frozen_heap hq6.out 4
 have f5 := frozen_heap hq6.out 5
 go_wp2_with fail
 have hr9 := rep_set (u0 := .int .i64 er) (u1 := .string ⟨#[]⟩) (u2 := .slice none 0 0) (u3 := .slice none 0 0) (u4 := .int .i64 0) (u5 := .slice b5 W1.length d5) hq6.out
 obtain ⟨v0, v1, v2, v3, v4, v5⟩ := rep6f hr9
 refine bodyPost_ret (by simp [results, Tryz.results80, go_sem, v0, v1, v2, v3, v4, v5]; try rfl) rfl ?_
 exact post_ok (y := ⟨er, ⟨#[]⟩, _, _, 0, _⟩) hd5.out hE5.out hq5.out (by omega) (by omega) RS.nil RS.nil ow5.out wk3.out hx6.out.set.set.set.set.set.set
end Go.Proofs.YtpkpgehiplhkpaaGreat

namespace Go.Proofs.YtpkpgehiplhkpaaGreat
open Go.RowKit
theorem qzdkm_5 {P : Prop} (h : P := by first | omega | (show _ ≤ _; omega) | (simp; omega) | (simp <;> fail) | fail) : P := h
theorem qzdkm_4 {P : Prop} (h : P := by first | rfl | (simp <;> fail) | fail) : P := h
theorem qzdkm_3 {P : Prop} (h : P := by first | omega | (simp; omega) | (simp <;> fail) | fail) : P := h
theorem qzdkm_2 {P : Prop} (h : P := by ((repeat (first | with_reducible exact Below.refl _ _ | with_reducible exact Below.refl _ _ | (with_reducible refine Below.alloc ?_ (by first | omega | (simp; omega) | (simp <;> fail) | fail) _) | (with_reducible refine Below.setCell ?_ (by first | omega | (show _ ≤ _; omega) | (simp; omega) | (simp <;> fail) | fail) _) | (with_reducible refine Below.drew ?_) | fail)) <;> fail)) : P := h
theorem qzdkm_1 {P : Prop} (h : P := by ((repeat (first | with_reducible exact xs.out | with_reducible exact xc.out | with_reducible exact ys.out | with_reducible exact yc.out | (with_reducible apply box4_0) | (with_reducible apply box4_1) | (with_reducible apply box4_2) | (with_reducible apply box4_3) | (with_reducible apply box3_0) | (with_reducible apply box3_1) | (with_reducible apply box3_2) | (with_reducible refine heap_put _ _ _ (by first | rfl | (simp <;> fail) | fail)) | (with_reducible refine alloc_keep ?_) | (with_reducible refine box_other ?_ (by first | omega | (simp; omega) | (simp <;> fail) | fail)) | (with_reducible refine heap_drewn ?_) | fail)) <;> fail)) : P := h
set_option maxRecDepth 100000 in
set_option maxHeartbeats 8000000 in
theorem desk_blob_put (p : Nat) (L : Loft) (o : Order) (dv pv : Value) (w : World) (hL : DeskAt w p L) (hd : RB w dv o.data) (hps : RP w pv o.parts) (O : CoOut) (D : ByteArray) (hk : o.kind = 1)
 (hop : ∀ v u gv dv w, RBl w v L.store.blobs → RE w u L.store.entries → RT w gv L.coll.grey → RB w dv o.data → Calls Tryz.prog 144 #[.agg #[v, u, .int .i64 L.store.room, .int .i64 L.store.clock], .agg #[.int .i64 L.coll.phase, gv, .string L.coll.place], dv] w (CoResD O D w)) :
 Calls Tryz.prog 77 #[.pointer (some ⟨p, 0, none⟩), .agg #[.int .i64 o.kind, .int .i64 o.n, .string o.digest, dv, pv]] w (DeskPost p (if O.err = 0 then ⟨O.store, O.coll, L.flights⟩ else L) ⟨O.err, D, [], [], 0, []⟩ w) := by
 obtain ⟨a1, c1, a2, c2, a3, c3, a4, c4, hp, hL⟩ := hL
 have hlt := heap_lt hp
 have hD := hid hd
 have hS := hid hps
 obtain ⟨da, dc, rfl, -⟩ := hd
 obtain ⟨pa, pc, rfl, -⟩ := hps
 have hR := hid hL.rb
 have hE := hid hL.re
 have hG := hid hL.rt
 have hF := hid hL.rf
 replace hL := hid hL
 rw [hk]
 replace hk := hid hk
 unfold CoResD VS at hop
 replace hop := hid hop
 obtain ⟨er, ⟨B1, E1, r1, t1⟩, ⟨p1, G1, s1⟩⟩ := O
 simp only at hop
 show Calls _ _ _ _ (DeskPost p (if er = 0 then ⟨⟨B1, E1, r1, t1⟩, ⟨p1, G1, s1⟩, L.flights⟩ else L) ⟨er, D, [], [], 0, []⟩ w)
 generalize hNL : (if er = 0 then (⟨⟨B1, E1, r1, t1⟩, ⟨p1, G1, s1⟩, L.flights⟩ : Loft) else L) = NL
 replace hNL := hid hNL
 go_enter Tryz.func77, Tryz.ntmps77
 go_upto_region 3 with fail
 have hO := hid (alloc_keep (o := Obj.cells #[.int .i64 0, .string ⟨#[]⟩, .slice none 0 0, .slice none 0 0, .int .i64 0, .slice none 0 0] 45) (heap_alloc_new w (Obj.cells #[.int .i64 1, .int .i64 o.n, .string o.digest, .slice da o.data.length dc, .slice pa o.parts.length pc] 47)))
 have hQ := hid (heap_put (w.alloc (Obj.cells #[.int .i64 1, .int .i64 o.n, .string o.digest, .slice da o.data.length dc, .slice pa o.parts.length pc] 47)) (Obj.cells #[.int .i64 0, .string ⟨#[]⟩, .slice none 0 0, .slice none 0 0, .int .i64 0, .slice none 0 0] 45) (w.heap.size + 1) (by simp))
 have hP := hid (alloc_keep (o := Obj.cells #[.int .i64 0, .string ⟨#[]⟩, .slice none 0 0, .slice none 0 0, .int .i64 0, .slice none 0 0] 45) (alloc_keep (o := Obj.cells #[.int .i64 1, .int .i64 o.n, .string o.digest, .slice da o.data.length dc, .slice pa o.parts.length pc] 47) hp))
 have hb := hid (b_alloc (b_alloc (Below.refl _ w) (Obj.cells #[.int .i64 1, .int .i64 o.n, .string o.digest, .slice da o.data.length dc, .slice pa o.parts.length pc] 47)) (Obj.cells #[.int .i64 0, .string ⟨#[]⟩, .slice none 0 0, .slice none 0 0, .int .i64 0, .slice none 0 0] 45))
 generalize (w.alloc (Obj.cells #[.int .i64 1, .int .i64 o.n, .string o.digest, .slice da o.data.length dc, .slice pa o.parts.length pc] 47)).alloc (Obj.cells #[.int .i64 0, .string ⟨#[]⟩, .slice none 0 0, .slice none 0 0, .int .i64 0, .slice none 0 0] 45) = w2 at *
 replace hp := hid hp
 obtain ⟨y0, y1, y2, y3, y4, y5, y6, y7⟩ := box8f hP.out
 obtain ⟨z0, z1, z2, z3, z4⟩ := ord5f hO.out
 have hpl : p < w2.heap.size := heap_lt hP.out
 have hol : w.heap.size < w2.heap.size := heap_lt hO.out
 have hql : w.heap.size + 1 < w2.heap.size := heap_lt hQ.out
 have hST : Hid (∀ w', Below w2.heap.size w2 w' → w'.cell? ⟨p, 0, none⟩ = some (.slice a1 L.store.blobs.length c1) ∧ w'.cell? ⟨p, 1, none⟩ = some (.slice a2 L.store.entries.length c2) ∧ w'.cell? ⟨p, 2, none⟩ = some (.int .i64 L.store.room) ∧ w'.cell? ⟨p, 3, none⟩ = some (.int .i64 L.store.clock) ∧ w'.cell? ⟨p, 4, none⟩ = some (.int .i64 L.coll.phase) ∧ w'.cell? ⟨p, 5, none⟩ = some (.slice a3 L.coll.grey.length c3) ∧ w'.cell? ⟨p, 6, none⟩ = some (.string L.coll.place) ∧ w'.cell? ⟨w.heap.size, 3, none⟩ = some (.slice da o.data.length dc)) := hid (fun w' hB => ⟨cell_stays hB (show p < _ by omega) y0, cell_stays hB (show p < _ by omega) y1, cell_stays hB (show p < _ by omega) y2, cell_stays hB (show p < _ by omega) y3, cell_stays hB (show p < _ by omega) y4, cell_stays hB (show p < _ by omega) y5, cell_stays hB (show p < _ by omega) y6, cell_stays hB (show w.heap.size < _ by omega) z3⟩)
 have hop2 := hid (fun (W : World) (hB : Below w2.heap.size w2 W) => hop.out _ _ _ _ W (hR.out.mono EBlob.stable (hb.out.trans (hB.mono hb.out.size))) (hE.out.mono EEntry.stable (hb.out.trans (hB.mono hb.out.size))) (hG.out.mono EStr.stable (hb.out.trans (hB.mono hb.out.size))) (hD.out.mono EU8.stable (hb.out.trans (hB.mono hb.out.size))))
 go_cut [5, 6, 7, 8] (fun s5 s6 s7 s8 wx => PbMid p B1 E1 r1 t1 p1 G1 s1 D er w2 s5 s6 s7 s8 wx)
 case first =>
  go_region_held3 (fun w' => w'.cell? ⟨p, 0, none⟩ = some (.slice a1 L.store.blobs.length c1) ∧ w'.cell? ⟨p, 1, none⟩ = some (.slice a2 L.store.entries.length c2) ∧ w'.cell? ⟨p, 2, none⟩ = some (.int .i64 L.store.room) ∧ w'.cell? ⟨p, 3, none⟩ = some (.int .i64 L.store.clock) ∧ w'.cell? ⟨p, 4, none⟩ = some (.int .i64 L.coll.phase) ∧ w'.cell? ⟨p, 5, none⟩ = some (.slice a3 L.coll.grey.length c3) ∧ w'.cell? ⟨p, 6, none⟩ = some (.string L.coll.place) ∧ w'.cell? ⟨w.heap.size, 3, none⟩ = some (.slice da o.data.length dc))
   (first | (refine hST.out _ ?_; ((repeat (first | with_reducible exact hb3.out | with_reducible exact Below.refl _ _ | (with_reducible refine Below.alloc ?_ qzdkm_3 _) | (with_reducible refine Below.setCell ?_ qzdkm_5 _) | (with_reducible refine Below.drew ?_) | fail)) <;> fail)) | (refine hST.out _ ?_; ((repeat (first | with_reducible exact Below.refl _ _ | with_reducible exact Below.refl _ _ | (with_reducible refine Below.alloc ?_ qzdkm_3 _) | (with_reducible refine Below.setCell ?_ qzdkm_5 _) | (with_reducible refine Below.drew ?_) | fail)) <;> fail)) | fail)
   ((first
     | ((with_reducible refine (hop2.out _ qzdkm_2).mono ?_)
        rintro e w3 ⟨_, gv3, rfl, ⟨v3, u3, rfl, rb3, re3⟩, rg3, og3, b3⟩
        have hb3 : Below w2.heap.size w2 w3 := b_call qzdkm_2 b3
        have hs3 := hb3.size
        have og3 := og3.mono (Nat.le_trans (Nat.succ_le_of_lt hpl) (Below.size (w := w2) (B := w2.heap.size) qzdkm_2))
        obtain ⟨b1, d1, rfl, -⟩ := id rb3
        obtain ⟨b2, d2, rfl, -⟩ := id re3
        obtain ⟨b4, d4, rfl, -⟩ := id rg3
        have gk3 := hid (GreyOk.of rg3)
        replace rb3 := hid rb3
        replace re3 := hid re3
        replace rg3 := hid rg3
        replace og3 := hid og3
        (first | (refine by_fact (P := w3.heap[w2.heap.size]? = some (.cells #[.slice none 0 0, .slice none 0 0, .int .i64 0, .int .i64 0] 29 (0, 0))) ?_ ?_; (focus (((repeat (first | (with_reducible apply box4_0) | (with_reducible apply box4_1) | (with_reducible apply box4_2) | (with_reducible apply box4_3) | (with_reducible apply box3_0) | (with_reducible apply box3_1) | (with_reducible apply box3_2) | (with_reducible refine heap_put _ _ _ qzdkm_4) | (with_reducible refine alloc_keep ?_) | (with_reducible refine box_other ?_ qzdkm_3) | (with_reducible refine stays b3 ?_) | (with_reducible refine heap_drewn ?_) | fail)) <;> fail))); intro xs; obtain ⟨xs0, xs1, xs2, xs3⟩ := box4f xs; have xsf0 := frozen_heap xs 0; have xsf1 := frozen_heap xs 1; have xsf2 := frozen_heap xs 2; have xsf3 := frozen_heap xs 3; have xslt := heap_lt xs; replace xs := hid xs) | skip)
        (first | (refine by_fact (P := w3.heap[w2.heap.size]? = some (.cells #[.int .i64 0, .slice none 0 0, .string ⟨#[]⟩] 32 (0, 0))) ?_ ?_; (focus (((repeat (first | (with_reducible apply box4_0) | (with_reducible apply box4_1) | (with_reducible apply box4_2) | (with_reducible apply box4_3) | (with_reducible apply box3_0) | (with_reducible apply box3_1) | (with_reducible apply box3_2) | (with_reducible refine heap_put _ _ _ qzdkm_4) | (with_reducible refine alloc_keep ?_) | (with_reducible refine box_other ?_ qzdkm_3) | (with_reducible refine stays b3 ?_) | (with_reducible refine heap_drewn ?_) | fail)) <;> fail))); intro xc; obtain ⟨xc0, xc1, xc2, -⟩ := box3f xc; have xcf0 := frozen_heap xc 0; have xcf1 := frozen_heap xc 1; have xcf2 := frozen_heap xc 2; have xclt := heap_lt xc; replace xc := hid xc) | skip)
        (first | (refine by_fact (P := w3.heap[w2.heap.size + 1]? = some (.cells #[.slice none 0 0, .slice none 0 0, .int .i64 0, .int .i64 0] 29 (0, 0))) ?_ ?_; (focus (((repeat (first | (with_reducible apply box4_0) | (with_reducible apply box4_1) | (with_reducible apply box4_2) | (with_reducible apply box4_3) | (with_reducible apply box3_0) | (with_reducible apply box3_1) | (with_reducible apply box3_2) | (with_reducible refine heap_put _ _ _ qzdkm_4) | (with_reducible refine alloc_keep ?_) | (with_reducible refine box_other ?_ qzdkm_3) | (with_reducible refine stays b3 ?_) | (with_reducible refine heap_drewn ?_) | fail)) <;> fail))); intro ys; obtain ⟨ys0, ys1, ys2, ys3⟩ := box4f ys; have ysf0 := frozen_heap ys 0; have ysf1 := frozen_heap ys 1; have ysf2 := frozen_heap ys 2; have ysf3 := frozen_heap ys 3; have yslt := heap_lt ys; replace ys := hid ys) | skip)
        (first | (refine by_fact (P := w3.heap[w2.heap.size + 1]? = some (.cells #[.int .i64 0, .slice none 0 0, .string ⟨#[]⟩] 32 (0, 0))) ?_ ?_; (focus (((repeat (first | (with_reducible apply box4_0) | (with_reducible apply box4_1) | (with_reducible apply box4_2) | (with_reducible apply box4_3) | (with_reducible apply box3_0) | (with_reducible apply box3_1) | (with_reducible apply box3_2) | (with_reducible refine heap_put _ _ _ qzdkm_4) | (with_reducible refine alloc_keep ?_) | (with_reducible refine box_other ?_ qzdkm_3) | (with_reducible refine stays b3 ?_) | (with_reducible refine heap_drewn ?_) | fail)) <;> fail))); intro yc; obtain ⟨yc0, yc1, yc2, -⟩ := box3f yc; have ycf0 := frozen_heap yc 0; have ycf1 := frozen_heap yc 1; have ycf2 := frozen_heap yc 2; have yclt := heap_lt yc; replace yc := hid yc) | skip)
        replace b3 := hid b3
        replace hb3 := hid hb3)
     | fail))
  all_goals
   (try go_wp2_with fail)
   go_meet
   refine ⟨_, _, b1, d1, b2, d2, b4, d4, rfl, rfl, rfl, rfl, ?_, ?_, ?_, ?_, ?_, gk3.out, ?_⟩
   · ((repeat (first | with_reducible exact xs.out | with_reducible exact xc.out | with_reducible exact ys.out | with_reducible exact yc.out | (with_reducible apply box4_0) | (with_reducible apply box4_1) | (with_reducible apply box4_2) | (with_reducible apply box4_3) | (with_reducible apply box3_0) | (with_reducible apply box3_1) | (with_reducible apply box3_2) | (with_reducible refine heap_put _ _ _ qzdkm_4) | (with_reducible refine alloc_keep ?_) | (with_reducible refine box_other ?_ qzdkm_3) | (with_reducible refine heap_drewn ?_) | fail)) <;> fail)
   · ((repeat (first | with_reducible exact xs.out | with_reducible exact xc.out | with_reducible exact ys.out | with_reducible exact yc.out | (with_reducible apply box4_0) | (with_reducible apply box4_1) | (with_reducible apply box4_2) | (with_reducible apply box4_3) | (with_reducible apply box3_0) | (with_reducible apply box3_1) | (with_reducible apply box3_2) | (with_reducible refine heap_put _ _ _ qzdkm_4) | (with_reducible refine alloc_keep ?_) | (with_reducible refine box_other ?_ qzdkm_3) | (with_reducible refine heap_drewn ?_) | fail)) <;> fail)
   · ((repeat (first | with_reducible exact rb3.out | (with_reducible refine RS.al EBlob.stable ?_ _) | (with_reducible refine RS.write ?_ (EBlob.writes _ _ _ _ (SBox.of qzdkm_1))) | (with_reducible refine RS.write ?_ (EBlob.writesC _ _ _ _ (CBox.of qzdkm_1))) | fail)) <;> fail)
   · ((repeat (first | with_reducible exact re3.out | (with_reducible refine RS.al EEntry.stable ?_ _) | (with_reducible refine RS.write ?_ (EEntry.writes _ _ _ _ (SBox.of qzdkm_1))) | (with_reducible refine RS.write ?_ (EEntry.writesC _ _ _ _ (CBox.of qzdkm_1))) | fail)) <;> fail)
   · ((repeat (first | with_reducible exact og3.out | (with_reducible refine OS.alloc ?_ _) | (with_reducible refine OS.atS ?_ qzdkm_1) | (with_reducible refine OS.atC ?_ qzdkm_1) | fail)) <;> fail)
   ((repeat (first | with_reducible exact hb3.out | with_reducible exact Below.refl _ _ | (with_reducible refine Below.alloc ?_ qzdkm_3 _) | (with_reducible refine Below.setCell ?_ qzdkm_5 _) | (with_reducible refine Below.drew ?_) | fail)) <;> fail)
 obtain ⟨x, y, b1, d1, b2, d2, b3, d3, rfl, rfl, rfl, rfl, hx, hy, rb, re, og, gk, hbc⟩ := hcut
 have hpc := hid (stays hbc hP.out)
 have hqc := hid (stays hbc hQ.out)
 have hLc := hid (hL.out.below (b_call hb.out hbc))
 have hNc := hid (⟨rb, re, og, hLc.out.of, gk, hLc.out.fk⟩ : LoftIs wc (p + 1) ⟨⟨B1, E1, r1, t1⟩, ⟨p1, G1, s1⟩, L.flights⟩ b1 d1 b2 d2 b3 d3 a4 c4)
 obtain ⟨n0, n1, n2, n3⟩ := box4f hx
 obtain ⟨m0, m1, m2, -⟩ := box3f hy
 have hE0 := hid ((Ex.of (p := p) hb.out).trans (Ex.of (hbc)))
 clear hx hy rb re og gk y0 y1 y2 y3 y4 y5 y6 y7 z0 z1 z2 z3 z4
 replace hbc := hid hbc
 go_wp2_with fail
 (with_reducible refine (desk_keep p _ _ _ _ _ _ _ _ b1 b2 b3 B1.length d1 E1.length d2 G1.length d3 r1 t1 p1 s1 er _ hpc.out).mono ?_)
 rintro e5 w5 ⟨rfl, hp5, hx5⟩
 have hd5 := desk_kept hpc.out hLc.out hNc.out hx5 hp5
 rw [hNL.out] at hd5
 replace hd5 := hid hd5
 have hE5 := hid (hE0.out.trans hx5)
 have hq5 := hid (hx5.keep hqc.out (by omega))
 clear n0 n1 n2 n3 m0 m1 m2 hp5
 have hl5 := heap_lt hq5.out
 replace hx5 := hid hx5
 go_upto_region 6 with fail
 have hq6 := hid (alloc_keep (o := Obj.cells #[.int .i64 er, .string D, .slice none 0 0, .slice none 0 0, .int .i64 0, .slice none 0 0] 45) hq5.out)
 have hz6 := hid (heap_alloc_new w5 (Obj.cells #[.int .i64 er, .string D, .slice none 0 0, .slice none 0 0, .int .i64 0, .slice none 0 0] 45))
 have hx6 := hid (Ex.of (p := w.heap.size + 1) (b_alloc (Below.refl w5.heap.size w5) (Obj.cells #[.int .i64 er, .string D, .slice none 0 0, .slice none 0 0, .int .i64 0, .slice none 0 0] 45)))
 have hz9 : w5.heap.size ≠ w.heap.size + 1 := by omega
 generalize w5.alloc (Obj.cells #[.int .i64 er, .string D, .slice none 0 0, .slice none 0 0, .int .i64 0, .slice none 0 0] 45) = w6 at *
 obtain ⟨k0, k1, k2, k3, k4, k5⟩ := rep6f hq6.out
 obtain ⟨j0, j1, j2, j3, j4, j5⟩ := rep6f hz6.out
 have f0 := frozen_heap hq6.out 0
 have f1 := frozen_heap hq6.out 1
 have f2 := frozen_heap hq6.out 2
 have f3 := frozen_heap hq6.out 3
 have f4 := frozen_heap hq6.out 4
 have f5 := frozen_heap hq6.out 5
 go_wp2_with fail
 have hr9 := rep_set (u0 := .int .i64 er) (u1 := .string D) (u2 := .slice none 0 0) (u3 := .slice none 0 0) (u4 := .int .i64 0) (u5 := .slice none 0 0) hq6.out
 obtain ⟨v0, v1, v2, v3, v4, v5⟩ := rep6f hr9
 refine bodyPost_ret (by simp [results, Tryz.results77, go_sem, v0, v1, v2, v3, v4, v5]; try rfl) rfl ?_
 exact post_ok (y := ⟨er, D, _, _, 0, _⟩) hd5.out hE5.out hq5.out (by omega) (by omega) RS.nil RS.nil OS.nil whoOk_nil hx6.out.set.set.set.set.set.set
end Go.Proofs.YtpkpgehiplhkpaaGreat
