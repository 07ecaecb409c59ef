import Derived.Test.YtpkpgehiplhkpaaGreatTzDkW
import Derived.Deep.DeepCutAuto
namespace Go.Proofs.YtpkpgehiplhkpaaGreat
open Go.RowKit
theorem qzdka_4 {P : Prop} (h : P := by first | omega | (show _ ≤ _; omega) | (simp; omega) | (simp <;> fail) | fail) : P := h
theorem qzdka_3 {P : Prop} (h : P := by first | omega | (simp; omega) | (simp <;> fail) | fail) : P := h
theorem qzdka_2 {P : Prop} (h : P := by simp [results, Tryz.results80, go_sem, v0, v1, v2, v3, v4, v5]; try rfl) : P := h
theorem qzdka_1 {P : Prop} (h : P := by ((repeat (first | with_reducible exact Below.refl _ _ | with_reducible exact Below.refl _ _ | (with_reducible refine Below.alloc ?_ (by first | omega | (simp; omega) | (simp <;> fail) | fail) _) | (with_reducible refine Below.setCell ?_ (by first | omega | (show _ ≤ _; omega) | (simp; omega) | (simp <;> fail) | fail) _) | (with_reducible refine Below.drew ?_) | fail)) <;> fail)) : P := h
def askN (O : AkOut) (s : ByteArray) : Int := if O.err ≠ 0 then 0 else if O.is = true then 1 else if waitsB s O.flights = true then 2 else 0
theorem rep_4 {w : World} {q : Nat} {a b c d e f u : Value} {T : TypeId} (h : w.heap[q]? = some (.cells #[a, b, c, d, e, f] T (0, 0))) : (w.setCell ⟨q, 4, none⟩ u).heap[q]? = some (.cells #[a, b, c, d, u, f] T (0, 0)) := by
 simp [World.setCell, Array.getElem?_modify, h]
set_option maxRecDepth 100000 in
set_option maxHeartbeats 8000000 in
theorem desk_flight_ask (p : Nat) (L : Loft) (o : Order) (dv pv : Value) (w : World) (hL : DeskAt w p L) (hd : RB w dv o.data) (hps : RP w pv o.parts) (O : AkOut) (hk : o.kind = 12)
 (hop : ∀ v u gv fv w, RBl w v L.store.blobs → RE w u L.store.entries → RT w gv L.coll.grey → RF w fv L.flights → Calls Tryz.prog 153 #[.agg #[v, u, .int .i64 L.store.room, .int .i64 L.store.clock, .int .i64 L.coll.phase, gv, .string L.coll.place, fv], .string o.digest, .int .i64 o.n] w (AkRes O w)) :
 Calls Tryz.prog 80 #[.pointer (some ⟨p, 0, none⟩), .agg #[.int .i64 o.kind, .int .i64 o.n, .string o.digest, dv, pv]] w (DeskPost p (if O.err = 0 then ⟨O.store, O.coll, O.flights⟩ else L) ⟨O.err, ⟨#[]⟩, [], O.parts, askN O o.digest, []⟩ w) := by
 obtain ⟨a1, c1, a2, c2, a3, c3, a4, c4, hp, hL⟩ := hL
 have hlt := heap_lt hp
 have hD := hid hd
 have hS := hid hps
 obtain ⟨da, dc, rfl, -⟩ := hd
 obtain ⟨pa, pc, rfl, -⟩ := hps
 have hR := hid hL.rb
 have hE := hid hL.re
 have hG := hid hL.rt
 have hF := hid hL.rf
 replace hL := hid hL
 rw [hk]
 replace hk := hid hk
 unfold AkRes at hop
 replace hop := hid hop
 obtain ⟨er, ⟨B1, E1, r1, t1⟩, ⟨p1, G1, s1⟩, F1, P1, is⟩ := O
 simp only at hop
 show Calls _ _ _ _ (DeskPost p (if er = 0 then ⟨⟨B1, E1, r1, t1⟩, ⟨p1, G1, s1⟩, F1⟩ else L) ⟨er, ⟨#[]⟩, [], P1, askN ⟨er, ⟨B1, E1, r1, t1⟩, ⟨p1, G1, s1⟩, F1, P1, is⟩ o.digest, []⟩ w)
 generalize hNL : (if er = 0 then (⟨⟨B1, E1, r1, t1⟩, ⟨p1, G1, s1⟩, F1⟩ : Loft) else L) = NL
 generalize hNN : askN ⟨er, ⟨B1, E1, r1, t1⟩, ⟨p1, G1, s1⟩, F1, P1, is⟩ o.digest = NN
 unfold askN at hNN
 simp only at hNN
 replace hNL := hid hNL
 replace hNN := hid hNN
 go_enter Tryz.func80, Tryz.ntmps80
 go_upto_region 2 with fail
 have hO := hid (alloc_keep (o := Obj.cells #[.int .i64 0, .string ⟨#[]⟩, .slice none 0 0, .slice none 0 0, .int .i64 0, .slice none 0 0] 45) (heap_alloc_new w (Obj.cells #[.int .i64 12, .int .i64 o.n, .string o.digest, .slice da o.data.length dc, .slice pa o.parts.length pc] 47)))
 have hQ := hid (heap_put (w.alloc (Obj.cells #[.int .i64 12, .int .i64 o.n, .string o.digest, .slice da o.data.length dc, .slice pa o.parts.length pc] 47)) (Obj.cells #[.int .i64 0, .string ⟨#[]⟩, .slice none 0 0, .slice none 0 0, .int .i64 0, .slice none 0 0] 45) (w.heap.size + 1) (by simp))
 have hP := hid (alloc_keep (o := Obj.cells #[.int .i64 0, .string ⟨#[]⟩, .slice none 0 0, .slice none 0 0, .int .i64 0, .slice none 0 0] 45) (alloc_keep (o := Obj.cells #[.int .i64 12, .int .i64 o.n, .string o.digest, .slice da o.data.length dc, .slice pa o.parts.length pc] 47) hp))
 have hb := hid (b_alloc (b_alloc (Below.refl _ w) (Obj.cells #[.int .i64 12, .int .i64 o.n, .string o.digest, .slice da o.data.length dc, .slice pa o.parts.length pc] 47)) (Obj.cells #[.int .i64 0, .string ⟨#[]⟩, .slice none 0 0, .slice none 0 0, .int .i64 0, .slice none 0 0] 45))
 generalize (w.alloc (Obj.cells #[.int .i64 12, .int .i64 o.n, .string o.digest, .slice da o.data.length dc, .slice pa o.parts.length pc] 47)).alloc (Obj.cells #[.int .i64 0, .string ⟨#[]⟩, .slice none 0 0, .slice none 0 0, .int .i64 0, .slice none 0 0] 45) = w2 at *
 replace hp := hid hp
 obtain ⟨y0, y1, y2, y3, y4, y5, y6, y7⟩ := box8f hP.out
 obtain ⟨z0, z1, z2, z3, z4⟩ := ord5f hO.out
 have hpl : p < w2.heap.size := heap_lt hP.out
 have hol : w.heap.size < w2.heap.size := heap_lt hO.out
 have hql : w.heap.size + 1 < w2.heap.size := heap_lt hQ.out
 have hST : Hid (∀ w', Below w2.heap.size w2 w' → w'.cell? ⟨p, 0, none⟩ = some (.slice a1 L.store.blobs.length c1) ∧ w'.cell? ⟨p, 1, none⟩ = some (.slice a2 L.store.entries.length c2) ∧ w'.cell? ⟨p, 2, none⟩ = some (.int .i64 L.store.room) ∧ w'.cell? ⟨p, 3, none⟩ = some (.int .i64 L.store.clock) ∧ w'.cell? ⟨p, 4, none⟩ = some (.int .i64 L.coll.phase) ∧ w'.cell? ⟨p, 5, none⟩ = some (.slice a3 L.coll.grey.length c3) ∧ w'.cell? ⟨p, 6, none⟩ = some (.string L.coll.place) ∧ w'.cell? ⟨p, 7, none⟩ = some (.slice a4 L.flights.length c4) ∧ w'.cell? ⟨w.heap.size, 2, none⟩ = some (.string o.digest) ∧ w'.cell? ⟨w.heap.size, 1, none⟩ = some (.int .i64 o.n)) := hid (fun w' hB => ⟨cell_stays hB (show p < _ by omega) y0, cell_stays hB (show p < _ by omega) y1, cell_stays hB (show p < _ by omega) y2, cell_stays hB (show p < _ by omega) y3, cell_stays hB (show p < _ by omega) y4, cell_stays hB (show p < _ by omega) y5, cell_stays hB (show p < _ by omega) y6, cell_stays hB (show p < _ by omega) y7, cell_stays hB (show w.heap.size < _ by omega) z2, cell_stays hB (show w.heap.size < _ by omega) z1⟩)
 have hop2 := hid (fun (W : World) (hB : Below w2.heap.size w2 W) => hop.out _ _ _ _ W (hR.out.mono EBlob.stable (hb.out.trans (hB.mono hb.out.size))) (hE.out.mono EEntry.stable (hb.out.trans (hB.mono hb.out.size))) (hG.out.mono EStr.stable (hb.out.trans (hB.mono hb.out.size))) (hF.out.mono EFlight.stable (hb.out.trans (hB.mono hb.out.size))))
 go_cut [5, 6, 7, 8] (fun s5 s6 s7 s8 wx => AkMid p ⟨⟨B1, E1, r1, t1⟩, ⟨p1, G1, s1⟩, F1⟩ P1 is er w2 s5 s6 s7 s8 wx)
 case first =>
  go_region_held3 (fun w' => w'.cell? ⟨p, 0, none⟩ = some (.slice a1 L.store.blobs.length c1) ∧ w'.cell? ⟨p, 1, none⟩ = some (.slice a2 L.store.entries.length c2) ∧ w'.cell? ⟨p, 2, none⟩ = some (.int .i64 L.store.room) ∧ w'.cell? ⟨p, 3, none⟩ = some (.int .i64 L.store.clock) ∧ w'.cell? ⟨p, 4, none⟩ = some (.int .i64 L.coll.phase) ∧ w'.cell? ⟨p, 5, none⟩ = some (.slice a3 L.coll.grey.length c3) ∧ w'.cell? ⟨p, 6, none⟩ = some (.string L.coll.place) ∧ w'.cell? ⟨p, 7, none⟩ = some (.slice a4 L.flights.length c4) ∧ w'.cell? ⟨w.heap.size, 2, none⟩ = some (.string o.digest) ∧ w'.cell? ⟨w.heap.size, 1, none⟩ = some (.int .i64 o.n))
   (first | (refine hST.out _ ?_; ((repeat (first | with_reducible exact hb3.out | with_reducible exact Below.refl _ _ | (with_reducible refine Below.alloc ?_ qzdka_3 _) | (with_reducible refine Below.setCell ?_ qzdka_4 _) | (with_reducible refine Below.drew ?_) | fail)) <;> fail)) | (refine hST.out _ ?_; ((repeat (first | with_reducible exact Below.refl _ _ | with_reducible exact Below.refl _ _ | (with_reducible refine Below.alloc ?_ qzdka_3 _) | (with_reducible refine Below.setCell ?_ qzdka_4 _) | (with_reducible refine Below.drew ?_) | fail)) <;> fail)) | fail)
   ((first
     | ((with_reducible refine (hop2.out _ qzdka_1).mono ?_)
        rintro e w3 ⟨v3, u3, gv3, fv3, pv3, rfl, rb3, re3, rg3, rf3, rp3, og3, of3, b3⟩
        have hb3 : Below w2.heap.size w2 w3 := b_call qzdka_1 b3
        have hs3 := hb3.size
        have og3 := og3.mono (Nat.le_trans (Nat.succ_le_of_lt hpl) (Below.size (w := w2) (B := w2.heap.size) qzdka_1))
        have of3 := of3.low (Nat.le_trans (Nat.succ_le_of_lt hpl) (Below.size (w := w2) (B := w2.heap.size) qzdka_1))
        obtain ⟨b1, d1, rfl, -⟩ := id rb3
        obtain ⟨b2, d2, rfl, -⟩ := id re3
        obtain ⟨b3', d3, rfl, -⟩ := id rg3
        obtain ⟨b4, d4, rfl, -⟩ := id rf3
        obtain ⟨b5, d5, rfl, -⟩ := id rp3
        have hN3 := hid (⟨rb3, re3, og3, of3, GreyOk.of rg3, FlOk.of rf3⟩ : LoftIs w3 (p + 1) ⟨⟨B1, E1, r1, t1⟩, ⟨p1, G1, s1⟩, F1⟩ b1 d1 b2 d2 b3' d3 b4 d4)
        replace rp3 := hid rp3
        clear rb3 re3 rg3 rf3 og3 of3
        (first | (refine by_fact (P := w3.heap[w2.heap.size]? = some (.cells #[.slice none 0 0, .slice none 0 0, .int .i64 0, .int .i64 0, .int .i64 0, .slice none 0 0, .string ⟨#[]⟩, .slice none 0 0] 35 (0, 0))) ?_ ?_; (focus (((repeat (first | (with_reducible apply box4_0) | (with_reducible apply box4_1) | (with_reducible apply box4_2) | (with_reducible apply box4_3) | (with_reducible apply box3_0) | (with_reducible apply box3_1) | (with_reducible apply box3_2) | (with_reducible refine heap_put _ _ _ (by first | rfl | (simp <;> fail) | fail)) | (with_reducible refine alloc_keep ?_) | (with_reducible refine box_other ?_ qzdka_3) | (with_reducible refine stays b3 ?_) | (with_reducible refine heap_drewn ?_) | fail)) <;> fail))); intro xs; obtain ⟨xs0, xs1, xs2, xs3, xs4, xs5, xs6, xs7⟩ := box8f xs; have xsf0 := frozen_heap xs 0; have xsf1 := frozen_heap xs 1; have xsf2 := frozen_heap xs 2; have xsf3 := frozen_heap xs 3; have xsf4 := frozen_heap xs 4; have xsf5 := frozen_heap xs 5; have xsf6 := frozen_heap xs 6; have xsf7 := frozen_heap xs 7; have xslt := heap_lt xs; replace xs := hid xs) | skip)
        replace b3 := hid b3
        replace hb3 := hid hb3)
     | fail))
  all_goals
   (try go_wp2_with fail)
   go_meet
   first
    | exact ⟨_, b1, d1, b2, d2, b3', d3, b4, d4, b5, d5, rfl, rfl, rfl, rfl, hs3, heap_alloc_new _ _, hN3.out.below (b_alloc (Below.refl _ _) _), rp3.out.mono EPart.stable (b_alloc (Below.refl _ _) _), b_alloc hb3.out _⟩
    | exact ⟨_, b1, d1, b2, d2, b3', d3, b4, d4, b5, d5, rfl, rfl, rfl, rfl, Nat.le_refl _, set8 xs.out, hN3.out.exT (box8_setE xs.out) (desk_odd xs.out) xs.out (by decide) (by decide) (by decide), rp3.out.odd (box8_setE xs.out) (fun g e => by cases e; exact desk_odd xs.out), by ((repeat (first | with_reducible exact hb3.out | with_reducible exact Below.refl _ _ | (with_reducible refine Below.alloc ?_ qzdka_3 _) | (with_reducible refine Below.setCell ?_ qzdka_4 _) | (with_reducible refine Below.drew ?_) | fail)) <;> fail)⟩
 obtain ⟨x, b1, d1, b2, d2, b3, d3, b4, d4, b5, d5, rfl, rfl, rfl, rfl, hxl, hx, hN, rp, hbc⟩ := hcut
 have hpc := hid (stays hbc hP.out)
 have hqc := hid (stays hbc hQ.out)
 have hoc := hid (stays hbc hO.out)
 have hLc := hid (hL.out.below (b_call hb.out hbc))
 have hNc := hid hN
 have hrp := hid rp
 have hxc := hid hx
 have hE0 := hid ((Ex.of (p := p) hb.out).trans (Ex.of hbc))
 obtain ⟨x0, x1, x2, x3, x4, x5, x6, x7⟩ := box8f hx
 clear hx hN rp y0 y1 y2 y3 y4 y5 y6 y7 z0 z1 z2 z3 z4
 replace hbc := hid hbc
 go_wp2_with fail
 (with_reducible refine (desk_become p _ _ _ _ _ _ _ _ b1 b2 b3 b4 B1.length d1 E1.length d2 G1.length d3 F1.length d4 r1 t1 p1 s1 er _ hpc.out).mono ?_)
 rintro e5 w5 ⟨rfl, hp5, hx5⟩
 have hd5 := desk_kept hpc.out hLc.out hNc.out hx5 hp5
 rw [hNL.out] at hd5
 replace hd5 := hid hd5
 have hE5 := hid (hE0.out.trans hx5)
 have hq5 := hid (hx5.keep hqc.out (by omega))
 have ho5 := hid (hx5.keep hoc.out (by omega))
 have hx5' := hid (hx5.keep hxc.out (by omega))
 have hN5 := hid (hNc.out.ex hx5 (desk_odd hpc.out) (Nat.lt_succ_self p))
 have rp5 := hid (hrp.out.odd hx5 (fun g e => by cases e; exact desk_odd hpc.out))
 clear x0 x1 x2 x3 x4 x5 x6 x7 hp5 hpc hqc hoc hLc hNc hrp hxc hE0 hop2 hop hST
 have hl5 := heap_lt hq5.out
 have hol5 := heap_lt ho5.out
 have hxl5 := heap_lt hx5'.out
 replace hx5 := hid hx5
 go_upto_region 5 with fail
 have hq6 := hid (alloc_keep (o := Obj.cells #[.int .i64 er, .string ⟨#[]⟩, .slice none 0 0, .slice b5 P1.length d5, .int .i64 0, .slice none 0 0] 45) hq5.out)
 have hz6 := hid (heap_alloc_new w5 (Obj.cells #[.int .i64 er, .string ⟨#[]⟩, .slice none 0 0, .slice b5 P1.length d5, .int .i64 0, .slice none 0 0] 45))
 have ho6 := hid (alloc_keep (o := Obj.cells #[.int .i64 er, .string ⟨#[]⟩, .slice none 0 0, .slice b5 P1.length d5, .int .i64 0, .slice none 0 0] 45) ho5.out)
 have hX6 := hid (alloc_keep (o := Obj.cells #[.int .i64 er, .string ⟨#[]⟩, .slice none 0 0, .slice b5 P1.length d5, .int .i64 0, .slice none 0 0] 45) hx5'.out)
 have hN6 := hid (hN5.out.below (b_alloc (Below.refl _ _) (Obj.cells #[.int .i64 er, .string ⟨#[]⟩, .slice none 0 0, .slice b5 P1.length d5, .int .i64 0, .slice none 0 0] 45)))
 have hx6 := hid (Ex.of (p := w.heap.size + 1) (b_alloc (Below.refl w5.heap.size w5) (Obj.cells #[.int .i64 er, .string ⟨#[]⟩, .slice none 0 0, .slice b5 P1.length d5, .int .i64 0, .slice none 0 0] 45)))
 have hz9 : w5.heap.size ≠ w.heap.size + 1 := by omega
 generalize w5.alloc (Obj.cells #[.int .i64 er, .string ⟨#[]⟩, .slice none 0 0, .slice b5 P1.length d5, .int .i64 0, .slice none 0 0] 45) = w6 at *
 obtain ⟨q9, hq9⟩ : ∃ q, q = w5.heap.size := ⟨_, rfl⟩
 rw [← hq9] at hz6 hz9 ⊢
 have hq9' : w5.heap.size ≤ q9 := by omega
 have hq9l := heap_lt hz6.out
 clear hq9 hx5' hN5 ho5
 by_cases he : er = 0
 · subst he
   cases is with
   | true =>
     have hNNv : Hid (NN = 1) := hid (by rw [← hNN.out]; simp)
     have jf := frozen_heap (hz6.out) 4
     obtain ⟨i0, i1, i2, i3, i4, i5⟩ := rep6f (hz6.out)
     go_upto_region 10 with fail
     have hz7 := hid (rep_4 (u := .int .i64 1) (hz6.out))
     have hq7 := hid (box_other (q := q9) (o := 4) (u := .int .i64 1) (hq6.out) (by omega))
     have hx7 := hid (hx6.out.new (q := q9) (o := 4) (u := .int .i64 1) hq9')
     clear jf i0 i1 i2 i3 i4 i5
     generalize w6.setCell ⟨q9, 4, none⟩ (.int .i64 1) = w7 at *
     obtain ⟨k0, k1, k2, k3, k4, k5⟩ := rep6f (hq7.out)
     obtain ⟨j0, j1, j2, j3, j4, j5⟩ := rep6f (hz7.out)
     have f0 := frozen_heap (hq7.out) 0
     have f1 := frozen_heap (hq7.out) 1
     have f2 := frozen_heap (hq7.out) 2
     have f3 := frozen_heap (hq7.out) 3
     have f4 := frozen_heap (hq7.out) 4
     have f5 := frozen_heap (hq7.out) 5
     go_wp2_with fail
     have hr9 := rep_set (u0 := .int .i64 0) (u1 := .string ⟨#[]⟩) (u2 := .slice none 0 0) (u3 := .slice b5 P1.length d5) (u4 := .int .i64 1) (u5 := .slice none 0 0) (hq7.out)
     obtain ⟨v0, v1, v2, v3, v4, v5⟩ := rep6f hr9
     refine bodyPost_ret qzdka_2 rfl ?_
     rw [hNNv.out]
     exact post_ok (y := ⟨0, ⟨#[]⟩, [], P1, 1, []⟩) hd5.out hE5.out hq5.out (by omega) (by omega) RS.nil rp5.out OS.nil whoOk_nil (hx7.out).set.set.set.set.set.set
   | false =>
     obtain ⟨o0, o1, o2, o3, o4⟩ := ord5f ho6.out
     obtain ⟨x0, x1, x2, x3, x4, x5, x6, x7⟩ := box8f hX6.out
     cases hw : waitsB o.digest F1 with
     | true =>
       have hNNv : Hid (NN = 2) := hid (by rw [← hNN.out]; simp [hw])
       go_wp2_with fail
       (with_reducible refine (desk_waits b1 b2 b3 b4 da pa B1.length d1 E1.length d2 G1.length d3 d4 o.data.length dc o.parts.length pc r1 t1 p1 12 o.n s1 o.digest F1 _ hN6.out.rf).mono ?_)
       rintro e8 w8 ⟨rfl, b8⟩
       rw [hw]
       have hz8 := hid (stays b8 hz6.out)
       have hq8 := hid (stays b8 hq6.out)
       have hx8 := hid (hx6.out.trans (Ex.of b8))
       clear o0 o1 o2 o3 o4 x0 x1 x2 x3 x4 x5 x6 x7
       replace b8 := hid b8
       have jf := frozen_heap (hz8.out) 4
       obtain ⟨i0, i1, i2, i3, i4, i5⟩ := rep6f (hz8.out)
       go_upto_region 10 with fail
       have hz7 := hid (rep_4 (u := .int .i64 2) (hz8.out))
       have hq7 := hid (box_other (q := q9) (o := 4) (u := .int .i64 2) (hq8.out) (by omega))
       have hx7 := hid (hx8.out.new (q := q9) (o := 4) (u := .int .i64 2) hq9')
       clear jf i0 i1 i2 i3 i4 i5
       generalize w8.setCell ⟨q9, 4, none⟩ (.int .i64 2) = w7 at *
       obtain ⟨k0, k1, k2, k3, k4, k5⟩ := rep6f (hq7.out)
       obtain ⟨j0, j1, j2, j3, j4, j5⟩ := rep6f (hz7.out)
       have f0 := frozen_heap (hq7.out) 0
       have f1 := frozen_heap (hq7.out) 1
       have f2 := frozen_heap (hq7.out) 2
       have f3 := frozen_heap (hq7.out) 3
       have f4 := frozen_heap (hq7.out) 4
       have f5 := frozen_heap (hq7.out) 5
       go_wp2_with fail
       have hr9 := rep_set (u0 := .int .i64 0) (u1 := .string ⟨#[]⟩) (u2 := .slice none 0 0) (u3 := .slice b5 P1.length d5) (u4 := .int .i64 2) (u5 := .slice none 0 0) (hq7.out)
       obtain ⟨v0, v1, v2, v3, v4, v5⟩ := rep6f hr9
       refine bodyPost_ret qzdka_2 rfl ?_
       rw [hNNv.out]
       exact post_ok (y := ⟨0, ⟨#[]⟩, [], P1, 2, []⟩) hd5.out hE5.out hq5.out (by omega) (by omega) RS.nil rp5.out OS.nil whoOk_nil (hx7.out).set.set.set.set.set.set
     | false =>
       have hNNv : Hid (NN = 0) := hid (by rw [← hNN.out]; simp [hw])
       go_wp2_with fail
       (with_reducible refine (desk_waits b1 b2 b3 b4 da pa B1.length d1 E1.length d2 G1.length d3 d4 o.data.length dc o.parts.length pc r1 t1 p1 12 o.n s1 o.digest F1 _ hN6.out.rf).mono ?_)
       rintro e8 w8 ⟨rfl, b8⟩
       rw [hw]
       have hz8 := hid (stays b8 hz6.out)
       have hq8 := hid (stays b8 hq6.out)
       have hx8 := hid (hx6.out.trans (Ex.of b8))
       clear o0 o1 o2 o3 o4 x0 x1 x2 x3 x4 x5 x6 x7
       replace b8 := hid b8
       obtain ⟨k0, k1, k2, k3, k4, k5⟩ := rep6f (hq8.out)
       obtain ⟨j0, j1, j2, j3, j4, j5⟩ := rep6f (hz8.out)
       have f0 := frozen_heap (hq8.out) 0
       have f1 := frozen_heap (hq8.out) 1
       have f2 := frozen_heap (hq8.out) 2
       have f3 := frozen_heap (hq8.out) 3
       have f4 := frozen_heap (hq8.out) 4
       have f5 := frozen_heap (hq8.out) 5
       go_wp2_with fail
       have hr9 := rep_set (u0 := .int .i64 0) (u1 := .string ⟨#[]⟩) (u2 := .slice none 0 0) (u3 := .slice b5 P1.length d5) (u4 := .int .i64 0) (u5 := .slice none 0 0) (hq8.out)
       obtain ⟨v0, v1, v2, v3, v4, v5⟩ := rep6f hr9
       refine bodyPost_ret qzdka_2 rfl ?_
       rw [hNNv.out]
       exact post_ok (y := ⟨0, ⟨#[]⟩, [], P1, 0, []⟩) hd5.out hE5.out hq5.out (by omega) (by omega) RS.nil rp5.out OS.nil whoOk_nil (hx8.out).set.set.set.set.set.set
 have hNNv : Hid (NN = 0) := hid (by rw [← hNN.out]; simp [he])
 have q8 : (er != 0) = true := by simp [he]
 replace he := hid he
 obtain ⟨k0, k1, k2, k3, k4, k5⟩ := rep6f (hq6.out)
 obtain ⟨j0, j1, j2, j3, j4, j5⟩ := rep6f (hz6.out)
 have f0 := frozen_heap (hq6.out) 0
 have f1 := frozen_heap (hq6.out) 1
 have f2 := frozen_heap (hq6.out) 2
 have f3 := frozen_heap (hq6.out) 3
 have f4 := frozen_heap (hq6.out) 4
 have f5 := frozen_heap (hq6.out) 5
 go_wp2_with fail
 have hr9 := rep_set (u0 := .int .i64 er) (u1 := .string ⟨#[]⟩) (u2 := .slice none 0 0) (u3 := .slice b5 P1.length d5) (u4 := .int .i64 0) (u5 := .slice none 0 0) (hq6.out)
 obtain ⟨v0, v1, v2, v3, v4, v5⟩ := rep6f hr9
 refine bodyPost_ret qzdka_2 rfl ?_
 rw [hNNv.out]
 exact post_ok (y := ⟨er, ⟨#[]⟩, [], P1, 0, []⟩) hd5.out hE5.out hq5.out (by omega) (by omega) RS.nil rp5.out OS.nil whoOk_nil (hx6.out).set.set.set.set.set.set
end Go.Proofs.YtpkpgehiplhkpaaGreat

namespace Go.Proofs.YtpkpgehiplhkpaaGreat
open Go.RowKit
theorem qzdkg_3 {P : Prop} (h : P := by first | omega | (simp; omega) | (simp <;> fail) | fail) : P := h
theorem qzdkg_2 {P : Prop} (h : P := by first | omega | (show _ ≤ _; omega) | (simp; omega) | (simp <;> fail) | fail) : P := h
theorem qzdkg_1 {P : Prop} (h : P := by ((repeat (first | with_reducible exact Below.refl _ _ | with_reducible exact Below.refl _ _ | (with_reducible refine Below.alloc ?_ (by first | omega | (simp; omega) | (simp <;> fail) | fail) _) | (with_reducible refine Below.setCell ?_ (by first | omega | (show _ ≤ _; omega) | (simp; omega) | (simp <;> fail) | fail) _) | (with_reducible refine Below.drew ?_) | fail)) <;> fail)) : P := h
theorem rep_3 {w : World} {q : Nat} {a b c d e f u : Value} {T : TypeId} (h : w.heap[q]? = some (.cells #[a, b, c, d, e, f] T (0, 0))) : (w.setCell ⟨q, 3, none⟩ u).heap[q]? = some (.cells #[a, b, c, u, e, f] T (0, 0)) := by
 simp [World.setCell, Array.getElem?_modify, h]
set_option maxRecDepth 100000 in
set_option maxHeartbeats 8000000 in
theorem desk_entry_get (p : Nat) (L : Loft) (o : Order) (dv pv : Value) (w : World) (hL : DeskAt w p L) (hd : RB w dv o.data) (hps : RP w pv o.parts) (er : Int) (S1 : Store) (P1 : List Part) (hk : o.kind = 6)
 (hop : ∀ v u w, RBl w v L.store.blobs → RE w u L.store.entries → Calls Tryz.prog 21 #[.agg #[v, u, .int .i64 L.store.room, .int .i64 L.store.clock], .string o.digest] w fun e w' => ∃ v pv, e = .returned (.tuple #[v, pv, .int .i64 er]) ∧ VS w' v S1 ∧ RP w' pv P1 ∧ Below w.heap.size w w') :
 Calls Tryz.prog 78 #[.pointer (some ⟨p, 0, none⟩), .agg #[.int .i64 o.kind, .int .i64 o.n, .string o.digest, dv, pv]] w (DeskPost p (if er = 0 then ⟨S1, L.coll, L.flights⟩ else L) ⟨er, ⟨#[]⟩, [], P1, 0, []⟩ w) := by
 obtain ⟨a1, c1, a2, c2, a3, c3, a4, c4, hp, hL⟩ := hL
 have hlt := heap_lt hp
 have hD := hid hd
 have hS := hid hps
 obtain ⟨da, dc, rfl, -⟩ := hd
 obtain ⟨pa, pc, rfl, -⟩ := hps
 have hR := hid hL.rb
 have hE := hid hL.re
 have hG := hid hL.rt
 have hF := hid hL.rf
 replace hL := hid hL
 rw [hk]
 replace hk := hid hk
 unfold VS at hop
 replace hop := hid hop
 obtain ⟨B1, E1, r1, t1⟩ := S1
 simp only at hop
 generalize hNL : (if er = 0 then (⟨⟨B1, E1, r1, t1⟩, L.coll, L.flights⟩ : Loft) else L) = NL
 replace hNL := hid hNL
 go_enter Tryz.func78, Tryz.ntmps78
 go_upto_region 5 with fail
 have hO := hid (alloc_keep (o := Obj.cells #[.int .i64 0, .string ⟨#[]⟩, .slice none 0 0, .slice none 0 0, .int .i64 0, .slice none 0 0] 45) (heap_alloc_new w (Obj.cells #[.int .i64 6, .int .i64 o.n, .string o.digest, .slice da o.data.length dc, .slice pa o.parts.length pc] 47)))
 have hQ := hid (heap_put (w.alloc (Obj.cells #[.int .i64 6, .int .i64 o.n, .string o.digest, .slice da o.data.length dc, .slice pa o.parts.length pc] 47)) (Obj.cells #[.int .i64 0, .string ⟨#[]⟩, .slice none 0 0, .slice none 0 0, .int .i64 0, .slice none 0 0] 45) (w.heap.size + 1) (by simp))
 have hP := hid (alloc_keep (o := Obj.cells #[.int .i64 0, .string ⟨#[]⟩, .slice none 0 0, .slice none 0 0, .int .i64 0, .slice none 0 0] 45) (alloc_keep (o := Obj.cells #[.int .i64 6, .int .i64 o.n, .string o.digest, .slice da o.data.length dc, .slice pa o.parts.length pc] 47) hp))
 have hb := hid (b_alloc (b_alloc (Below.refl _ w) (Obj.cells #[.int .i64 6, .int .i64 o.n, .string o.digest, .slice da o.data.length dc, .slice pa o.parts.length pc] 47)) (Obj.cells #[.int .i64 0, .string ⟨#[]⟩, .slice none 0 0, .slice none 0 0, .int .i64 0, .slice none 0 0] 45))
 generalize (w.alloc (Obj.cells #[.int .i64 6, .int .i64 o.n, .string o.digest, .slice da o.data.length dc, .slice pa o.parts.length pc] 47)).alloc (Obj.cells #[.int .i64 0, .string ⟨#[]⟩, .slice none 0 0, .slice none 0 0, .int .i64 0, .slice none 0 0] 45) = w2 at *
 replace hp := hid hp
 obtain ⟨y0, y1, y2, y3, y4, y5, y6, y7⟩ := box8f hP.out
 obtain ⟨z0, z1, z2, z3, z4⟩ := ord5f hO.out
 have hpl : p < w2.heap.size := heap_lt hP.out
 have hol : w.heap.size < w2.heap.size := heap_lt hO.out
 have hql : w.heap.size + 1 < w2.heap.size := heap_lt hQ.out
 have hST : Hid (∀ w', Below w2.heap.size w2 w' → w'.cell? ⟨p, 0, none⟩ = some (.slice a1 L.store.blobs.length c1) ∧ w'.cell? ⟨p, 1, none⟩ = some (.slice a2 L.store.entries.length c2) ∧ w'.cell? ⟨p, 2, none⟩ = some (.int .i64 L.store.room) ∧ w'.cell? ⟨p, 3, none⟩ = some (.int .i64 L.store.clock) ∧ w'.cell? ⟨w.heap.size, 2, none⟩ = some (.string o.digest)) := hid (fun w' hB => ⟨cell_stays hB (show p < _ by omega) y0, cell_stays hB (show p < _ by omega) y1, cell_stays hB (show p < _ by omega) y2, cell_stays hB (show p < _ by omega) y3, cell_stays hB (show w.heap.size < _ by omega) z2⟩)
 have hop2 := hid (fun (W : World) (hB : Below w2.heap.size w2 W) => hop.out _ _ W (hR.out.mono EBlob.stable (hb.out.trans (hB.mono hb.out.size))) (hE.out.mono EEntry.stable (hb.out.trans (hB.mono hb.out.size))))
 go_cut [5, 6, 7] (fun s5 s6 s7 wx => GtMid B1 E1 r1 t1 P1 er w2 s5 s6 s7 wx)
 case first =>
  go_region_held3 (fun w' => w'.cell? ⟨p, 0, none⟩ = some (.slice a1 L.store.blobs.length c1) ∧ w'.cell? ⟨p, 1, none⟩ = some (.slice a2 L.store.entries.length c2) ∧ w'.cell? ⟨p, 2, none⟩ = some (.int .i64 L.store.room) ∧ w'.cell? ⟨p, 3, none⟩ = some (.int .i64 L.store.clock) ∧ w'.cell? ⟨w.heap.size, 2, none⟩ = some (.string o.digest))
   (first | (refine hST.out _ ?_; ((repeat (first | with_reducible exact hb3.out | with_reducible exact Below.refl _ _ | (with_reducible refine Below.alloc ?_ qzdkg_3 _) | (with_reducible refine Below.setCell ?_ qzdkg_2 _) | (with_reducible refine Below.drew ?_) | fail)) <;> fail)) | (refine hST.out _ ?_; ((repeat (first | with_reducible exact Below.refl _ _ | with_reducible exact Below.refl _ _ | (with_reducible refine Below.alloc ?_ qzdkg_3 _) | (with_reducible refine Below.setCell ?_ qzdkg_2 _) | (with_reducible refine Below.drew ?_) | fail)) <;> fail)) | fail)
   ((first
     | ((with_reducible refine (hop2.out _ qzdkg_1).mono ?_)
        rintro e w3 ⟨_, pv3, rfl, ⟨v3, u3, rfl, rb3, re3⟩, rp3, b3⟩
        have hb3 : Below w2.heap.size w2 w3 := b_call qzdkg_1 b3
        have hs3 := hb3.size
        obtain ⟨b1, d1, rfl, -⟩ := id rb3
        obtain ⟨b2, d2, rfl, -⟩ := id re3
        obtain ⟨b5, d5, rfl, -⟩ := id rp3
        replace rb3 := hid rb3
        replace re3 := hid re3
        replace rp3 := hid rp3
        (first | (refine by_fact (P := w3.heap[w2.heap.size]? = some (.cells #[.slice none 0 0, .slice none 0 0, .int .i64 0, .int .i64 0] 29 (0, 0))) ?_ ?_; (focus (((repeat (first | (with_reducible apply box4_0) | (with_reducible apply box4_1) | (with_reducible apply box4_2) | (with_reducible apply box4_3) | (with_reducible apply box3_0) | (with_reducible apply box3_1) | (with_reducible apply box3_2) | (with_reducible refine heap_put _ _ _ (by first | rfl | (simp <;> fail) | fail)) | (with_reducible refine alloc_keep ?_) | (with_reducible refine box_other ?_ qzdkg_3) | (with_reducible refine stays b3 ?_) | (with_reducible refine heap_drewn ?_) | fail)) <;> fail))); intro xs; obtain ⟨xs0, xs1, xs2, xs3⟩ := box4f xs; have xsf0 := frozen_heap xs 0; have xsf1 := frozen_heap xs 1; have xsf2 := frozen_heap xs 2; have xsf3 := frozen_heap xs 3; have xslt := heap_lt xs; replace xs := hid xs) | skip)
        replace b3 := hid b3
        replace hb3 := hid hb3)
     | fail))
  all_goals
   (try go_wp2_with fail)
   go_meet
   first
    | exact ⟨_, b1, d1, b2, d2, b5, d5, rfl, rfl, rfl, hs3, heap_alloc_new _ _, rb3.out.mono EBlob.stable (b_alloc (Below.refl _ _) _), re3.out.mono EEntry.stable (b_alloc (Below.refl _ _) _), rp3.out.mono EPart.stable (b_alloc (Below.refl _ _) _), b_alloc hb3.out _⟩
    | exact ⟨_, b1, d1, b2, d2, b5, d5, rfl, rfl, rfl, Nat.le_refl _, box4_same xs.out, rb3.out.odd (box4_setE xs.out) (fun g e => by cases e; exact store_odd xs.out), re3.out.odd (box4_setE xs.out) (fun g e => by cases e; exact store_odd xs.out), rp3.out.odd (box4_setE xs.out) (fun g e => by cases e; exact store_odd xs.out), by ((repeat (first | with_reducible exact hb3.out | with_reducible exact Below.refl _ _ | (with_reducible refine Below.alloc ?_ qzdkg_3 _) | (with_reducible refine Below.setCell ?_ qzdkg_2 _) | (with_reducible refine Below.drew ?_) | fail)) <;> fail)⟩
 obtain ⟨x, b1, d1, b2, d2, b5, d5, rfl, rfl, rfl, hxl, hx, rb, re, rp, hbc⟩ := hcut
 have hpc := hid (stays hbc hP.out)
 have hqc := hid (stays hbc hQ.out)
 have hLc := hid (hL.out.below (b_call hb.out hbc))
 have hNc := hid (⟨rb, re, hLc.out.og, hLc.out.of, hLc.out.gk, hLc.out.fk⟩ : LoftIs wc (p + 1) ⟨⟨B1, E1, r1, t1⟩, L.coll, L.flights⟩ b1 d1 b2 d2 a3 c3 a4 c4)
 have hrp := hid rp
 have hE0 := hid ((Ex.of (p := p) hb.out).trans (Ex.of hbc))
 have hsc := hbc.size
 obtain ⟨x0, x1, x2, x3⟩ := box4f hx
 have hxl2 := heap_lt hx
 obtain ⟨y0, y1, y2, y3, y4, y5, y6, y7⟩ := box8f hpc.out
 have hSB : Hid (∀ w', Below wc.heap.size wc w' → w'.cell? ⟨x, 0, none⟩ = some (.slice b1 B1.length d1) ∧ w'.cell? ⟨x, 1, none⟩ = some (.slice b2 E1.length d2) ∧ w'.cell? ⟨x, 2, none⟩ = some (.int .i64 r1) ∧ w'.cell? ⟨x, 3, none⟩ = some (.int .i64 t1) ∧ w'.cell? ⟨p, 4, none⟩ = some (.int .i64 L.coll.phase) ∧ w'.cell? ⟨p, 5, none⟩ = some (.slice a3 L.coll.grey.length c3) ∧ w'.cell? ⟨p, 6, none⟩ = some (.string L.coll.place)) := hid (fun w' hB => ⟨cell_stays hB hxl2 x0, cell_stays hB hxl2 x1, cell_stays hB hxl2 x2, cell_stays hB hxl2 x3, cell_stays hB (heap_lt hpc.out) y4, cell_stays hB (heap_lt hpc.out) y5, cell_stays hB (heap_lt hpc.out) y6⟩)
 have hSX : Hid (∀ w', Ex p wc w' → w'.heap[p]? = some (.cells (if er = 0 then dcells ⟨⟨B1, E1, r1, t1⟩, L.coll, L.flights⟩ b1 d1 b2 d2 a3 c3 a4 c4 else dcells L a1 c1 a2 c2 a3 c3 a4 c4) 94 (0, 0)) → w'.cell? ⟨x, 0, none⟩ = some (.slice b1 B1.length d1) ∧ w'.cell? ⟨x, 1, none⟩ = some (.slice b2 E1.length d2) ∧ w'.cell? ⟨x, 2, none⟩ = some (.int .i64 r1) ∧ w'.cell? ⟨x, 3, none⟩ = some (.int .i64 t1) ∧ w'.cell? ⟨p, 4, none⟩ = some (.int .i64 L.coll.phase) ∧ w'.cell? ⟨p, 5, none⟩ = some (.slice a3 L.coll.grey.length c3) ∧ w'.cell? ⟨p, 6, none⟩ = some (.string L.coll.place)) := hid (fun w' hx hh => by
  have q : w'.cell? ⟨p, 4, none⟩ = some (.int .i64 L.coll.phase) ∧ w'.cell? ⟨p, 5, none⟩ = some (.slice a3 L.coll.grey.length c3) ∧ w'.cell? ⟨p, 6, none⟩ = some (.string L.coll.place) := by
   by_cases he : er = 0
   · rw [if_pos he] at hh
     obtain ⟨_, _, _, _, q4, q5, q6, _⟩ := box8f hh
     exact ⟨q4, q5, q6⟩
   · rw [if_neg he] at hh
     obtain ⟨_, _, _, _, q4, q5, q6, _⟩ := box8f hh
     exact ⟨q4, q5, q6⟩
  exact ⟨hx.cell x0 (by simp; omega), hx.cell x1 (by simp; omega), hx.cell x2 (by simp; omega), hx.cell x3 (by simp; omega), q⟩)
 have hkp := hid (fun (W : World) (hB : Below wc.heap.size wc W) => desk_keep p _ _ _ _ _ _ _ _ b1 b2 a3 B1.length d1 E1.length d2 L.coll.grey.length c3 r1 t1 L.coll.phase L.coll.place er W (stays hB hpc.out))
 clear hx rb re rp z0 z1 z2 z3 z4 hop2 hST
 replace hbc := hid hbc
 go_upto_region 6 with fail
 go_cut [8] (fun s8 wx => GkMid p er (dcells ⟨⟨B1, E1, r1, t1⟩, L.coll, L.flights⟩ b1 d1 b2 d2 a3 c3 a4 c4) (dcells L a1 c1 a2 c2 a3 c3 a4 c4) wc s8 wx)
 case first =>
  go_region_held3 (fun w' => w'.cell? ⟨x, 0, none⟩ = some (.slice b1 B1.length d1) ∧ w'.cell? ⟨x, 1, none⟩ = some (.slice b2 E1.length d2) ∧ w'.cell? ⟨x, 2, none⟩ = some (.int .i64 r1) ∧ w'.cell? ⟨x, 3, none⟩ = some (.int .i64 t1) ∧ w'.cell? ⟨p, 4, none⟩ = some (.int .i64 L.coll.phase) ∧ w'.cell? ⟨p, 5, none⟩ = some (.slice a3 L.coll.grey.length c3) ∧ w'.cell? ⟨p, 6, none⟩ = some (.string L.coll.place))
   (first | (refine hSB.out _ ?_; ((repeat (first | with_reducible exact Below.refl _ _ | with_reducible exact Below.refl _ _ | (with_reducible refine Below.alloc ?_ qzdkg_3 _) | (with_reducible refine Below.setCell ?_ qzdkg_2 _) | (with_reducible refine Below.drew ?_) | fail)) <;> fail)) | (refine hSX.out _ ?_ ?_; (focus (((repeat (first | with_reducible exact hE5.out | with_reducible exact hE5 | (with_reducible refine Ex.alloc ?_ _) | (with_reducible refine Ex.new ?_ qzdkg_2) | (with_reducible refine Ex.drew ?_) | fail)) <;> fail))); ((repeat (first | with_reducible exact hp5 | with_reducible exact hp5.out | (with_reducible refine alloc_keep ?_) | (with_reducible refine box_other ?_ (by first | omega | (simp; omega) | fail)) | (with_reducible refine heap_drewn ?_) | fail)) <;> fail)) | fail)
   ((first
     | ((with_reducible refine (hkp.out _ qzdkg_1).mono ?_)
        rintro e w5 ⟨rfl, hp5, hx5⟩
        have hE5 : Ex p wc w5 := (Ex.of qzdkg_1).trans hx5
        have hs5 := hE5.size
        (first | (refine by_fact (P := w5.heap[wc.heap.size]? = some (.cells #[.int .i64 0, .string ⟨#[]⟩, .slice none 0 0, .slice none 0 0, .int .i64 0, .slice none 0 0] 45 (0, 0))) ?_ ?_; (focus (refine Ex.keep hx5 ?_ (by omega); ((repeat (first | (with_reducible apply box4_0) | (with_reducible apply box4_1) | (with_reducible apply box4_2) | (with_reducible apply box4_3) | (with_reducible apply box3_0) | (with_reducible apply box3_1) | (with_reducible apply box3_2) | (with_reducible refine heap_put _ _ _ (by first | rfl | (simp <;> fail) | fail)) | (with_reducible refine alloc_keep ?_) | (with_reducible refine box_other ?_ qzdkg_3) | (with_reducible refine heap_drewn ?_) | fail)) <;> fail))); intro xs; obtain ⟨xs0, xs1, xs2, xs3, xs4, xs5⟩ := rep6f xs; have xf0 := frozen_heap xs 0; have xf1 := frozen_heap xs 1; have xf2 := frozen_heap xs 2; have xf3 := frozen_heap xs 3; have xf4 := frozen_heap xs 4; have xf5 := frozen_heap xs 5; have xslt := heap_lt xs; replace xs := hid xs) | skip)
        replace hp5 := hid hp5
        replace hE5 := hid hE5
        replace hx5 := hid hx5)
     | fail))
  all_goals
   (try go_wp2_with fail)
   go_meet
   first
    | exact ⟨_, rfl, hs5, heap_alloc_new _ _, alloc_keep hp5.out, hE5.out.alloc _⟩
    | exact ⟨_, rfl, Nat.le_refl _, rep_set xs.out, rep_far hp5.out (by omega), by ((repeat (first | with_reducible exact hE5.out | with_reducible exact hE5 | (with_reducible refine Ex.alloc ?_ _) | (with_reducible refine Ex.new ?_ qzdkg_2) | (with_reducible refine Ex.drew ?_) | fail)) <;> fail)⟩
 obtain ⟨z, rfl, hzl, hz, hpz, hEz⟩ := hcut
 have hd5 := desk_kept hpc.out hLc.out hNc.out hEz hpz
 rw [hNL.out] at hd5
 replace hd5 := hid hd5
 have hE5 := hid (hE0.out.trans hEz)
 have hq5 := hid (hEz.keep hqc.out (by omega))
 have rp5 := hid (hrp.out.odd hEz (fun g e => by cases e; exact desk_odd hpc.out))
 have hz5 := hid hz
 have hzq : z ≠ w.heap.size + 1 := by omega
 have hqz := heap_lt hq5.out
 have hzz := heap_lt hz
 have hzw : w.heap.size ≤ z := by omega
 obtain ⟨i0, i1, i2, i3, i4, i5⟩ := rep6f hz
 have if3 := frozen_heap hz 3
 clear hz hpz hkp hSX hSB hpc hqc hLc hNc hrp hE0 x0 x1 x2 x3 y0 y1 y2 y3 y4 y5 y6 y7 hop
 replace hEz := hid hEz
 go_upto_region 8 with fail
 have hz7 := hid (rep_3 (u := .slice b5 P1.length d5) hz5.out)
 have hq7 := hid (box_other (q := z) (o := 3) (u := .slice b5 P1.length d5) hq5.out (by omega))
 have hx7 := (Ex.of (p := z) (Below.refl wc.heap.size wc)).set (o := 3) (u := .slice b5 P1.length d5)
 have hd7 := hid (hd5.out.exT hx7 hz5.out (by omega))
 have rp7 := hid (rp5.out.odd hx7 (fun g e => by cases e; exact rep_odd hz5.out))
 have hE7 := hid (hE5.out.later hx7 hzw)
 clear hx7 hd5 hE5 hq5 rp5 hz5 i0 i1 i2 i3 i4 i5 if3
 generalize wc.setCell ⟨z, 3, none⟩ (.slice b5 P1.length d5) = w7 at *
 obtain ⟨k0, k1, k2, k3, k4, k5⟩ := rep6f hq7.out
 obtain ⟨j0, j1, j2, j3, j4, j5⟩ := rep6f hz7.out
 have f0 := frozen_heap hq7.out 0
 have f1 := frozen_heap hq7.out 1
 have f2 := frozen_heap hq7.out 2
 have f3 := frozen_heap hq7.out 3
 have f4 := frozen_heap hq7.out 4
 have f5 := frozen_heap hq7.out 5
 go_wp2_with fail
 have hr9 := rep_set (u0 := .int .i64 er) (u1 := .string ⟨#[]⟩) (u2 := .slice none 0 0) (u3 := .slice b5 P1.length d5) (u4 := .int .i64 0) (u5 := .slice none 0 0) hq7.out
 obtain ⟨v0, v1, v2, v3, v4, v5⟩ := rep6f hr9
 refine bodyPost_ret (by simp [results, Tryz.results78, go_sem, v0, v1, v2, v3, v4, v5]; try rfl) rfl ?_
 exact post_ok (y := ⟨er, ⟨#[]⟩, [], P1, 0, []⟩) hd7.out hE7.out hq7.out (by omega) (by omega) RS.nil rp7.out OS.nil whoOk_nil (Ex.of (Below.refl _ _)).set.set.set.set.set.set
end Go.Proofs.YtpkpgehiplhkpaaGreat
