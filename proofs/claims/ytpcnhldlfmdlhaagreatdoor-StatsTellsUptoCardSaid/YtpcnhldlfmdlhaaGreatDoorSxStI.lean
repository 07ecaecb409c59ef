/-
  stats.Count and StatsCount: what they answer. Printed by gen_st.py.
-/
import Derived.Test.YtpcnhldlfmdlhaaGreatDoorSxLft
import Derived.Deep.RegionHeld3
namespace Go.Proofs.YtpcnhldlfmdlhaaGreatDoor
open Go.RowKit Go.Maps

def waits (l : List Flight) : Int := l.foldl (fun n f => wrap64 (n + (f.waiters.length : Int))) 0
theorem waits_snoc (l : List Flight) (k : Nat) (x : Flight) (h : l[k]? = some x) : waits (l.take (k + 1)) = wrap64 (waits (l.take k) + (x.waiters.length : Int)) := by
  unfold waits
  rw [List.take_add_one, h, List.foldl_append]; rfl
def cz (z n : Int) : Int := if z = 0 then n else 0
theorem cz_0 (n : Int) : cz 0 n = n := if_pos rfl
theorem cz_no {z : Int} (h : z ≠ 0) (n : Int) : cz z n = 0 := if_neg h
/-- What a count tells, z being what is wrong with the loft. -/
def CntPost (z : Int) (bs : List Blob) (es : List Entry) (fl : List Flight) (w : World) (e : Ending) (w' : World) : Prop :=
  e = .returned (.tuple #[.int .i64 (cz z bs.length), .int .i64 (cz z (used bs)), .int .i64 (cz z es.length), .int .i64 (cz z (waits fl)), .int .i64 z]) ∧ Below w.heap.size w w'

set_option maxRecDepth 100000 in
set_option maxHeartbeats 2000000 in
theorem stats_Count' (v u gv fv : Value) (bs : List Blob) (es : List Entry) (r t ph : Int) (pl : ByteArray) (gy : List ByteArray) (fl : List Flight) (w : World) (h : RBl w v bs) (g : RE w u es) (hg : RT w gv gy) (hfl : RF w fv fl) (z : Int)
    (hch : ∀ w, RBl w v bs → RE w u es → RT w gv gy → RF w fv fl → Calls Tryz.prog 9 #[.agg #[v, u, .int .i64 r, .int .i64 t, .int .i64 ph, gv, .string pl, fv]] w fun e w' => e = .returned (.int .i64 z) ∧ Below w.heap.size w w') :
    Calls Tryz.prog 4 #[.agg #[v, u, .int .i64 r, .int .i64 t, .int .i64 ph, gv, .string pl, fv]] w (CntPost z bs es fl w) := by
  replace hch := hid hch
  have hU := hid (fun w (h : RBl w v bs) => room_Used v bs w h)
  have hR := hid h
  have hE := hid g
  have hG := hid hg
  have hF := hid hfl
  obtain ⟨a, c, rfl, -⟩ := h
  obtain ⟨a2, c2, rfl, -⟩ := g
  obtain ⟨ga, gc, rfl, -⟩ := hg
  obtain ⟨fa, fc, rfl, hlc, hcm, hre, -, hat⟩ := hfl
  unfold maxLen at hcm
  replace hat := hid hat
  obtain ⟨w1, hw1⟩ : ∃ w1 : World, w1 = w.alloc (Obj.cells #[.slice a bs.length c, .slice a2 es.length c2, .int .i64 r, .int .i64 t, .int .i64 ph, .slice ga gy.length gc, .string pl, .slice fa fl.length fc] 31) := ⟨_, rfl⟩
  have hb1 := hid (show Below w.heap.size w w1 by rw [hw1]; exact b_alloc (Below.refl _ _) _)
  have hq1 := hid (show w1.heap[w.heap.size]? = some (.cells #[.slice a bs.length c, .slice a2 es.length c2, .int .i64 r, .int .i64 t, .int .i64 ph, .slice ga gy.length gc, .string pl, .slice fa fl.length fc] 31 (0, 0)) by rw [hw1]; exact heap_alloc_new w _)
  obtain ⟨x0, x1, x2, x3, x4, x5, x6, x7⟩ := box8f hq1.out
  go_enter Tryz.func4, Tryz.ntmps4
  go_wp2_with fail
  rw [← hw1]
  clear hw1
  ((with_reducible refine (hch.out _ (hR.out.mono EBlob.stable hb1.out) (hE.out.mono EEntry.stable hb1.out) (hG.out.mono EStr.stable hb1.out) (hF.out.mono EFlight.stable hb1.out)).mono ?_); rintro e w2 ⟨rfl, b2⟩)
  have hq2 := hid (stays b2 hq1.out)
  have hb2 := hid (b_call hb1.out b2)
  clear b2 hq1 hb1 x0 x1 x2 x3 x4 x5 x6 x7
  obtain ⟨x0, x1, x2, x3, x4, x5, x6, x7⟩ := box8f hq2.out
  by_cases hz : z = 0
  · subst hz
    go_wp2_with fail
    clear x0 x1 x2 x3 x4 x5 x6 x7
    go_loopw [8, 10, 19] (fun t _ i wr => ∃ k : Nat, k ≤ fl.length ∧ i = .int .i64 (k : Int) ∧ t = .int .i64 (waits (fl.take k)) ∧ Hid (Below w2.heap.size w2 wr)) (fun _ _ i _ => fl.length - (intOf i).toNat)
    case atStart => exact ⟨0, by omega, rfl, rfl, hid (Below.refl _ _)⟩
    case round =>
      obtain ⟨k, hk, rfl, rfl, hbr⟩ := hrel
      have hbk := hid (b_call hb2.out hbr.out)
      have hsB := hbr.out.size
      have hqr := hid (stays hbr.out hq2.out)
      by_cases hlt : k < fl.length
      · have hn : fl[k]? = some fl[k] := List.getElem?_eq_getElem hlt
        have hs := hid (waits_snoc fl k _ hn)
        generalize fl[k] = y at *
        obtain ⟨bb, off, rfl, hbb, pv, k0, k1, k2, rp, -⟩ := hat.out k _ hn
        have c0 := cell_stays hbk.out hbb k0
        have c1 := cell_stays hbk.out hbb k1
        have c2' := cell_stays hbk.out hbb k2
        have hbw : bb < wr.heap.size := Nat.lt_of_lt_of_le hbb hbk.out.size
        obtain ⟨xa, xc, rfl, -⟩ := rp
        have hb4 := hid (hbr.out.alloc hsB (Obj.cells #[.string y.key, .int .i64 y.leader, .slice xa y.waiters.length xc] 42))
        clear k0 k1 k2 hn hat
        go_wp2_with fail
        go_roundw
        case rel => exact ⟨k + 1, by omega, by go_num, by rw [hs.out], hb4⟩
        case measure => simp [intOf]; omega
      · obtain rfl : k = fl.length := by omega
        rw [List.take_of_length_le (Nat.le_refl _)]
        have hS := And.intro (box8f hqr.out).1 (box8f hqr.out).2.1
        go_wp2_with fail
        go_region_held3 (fun w' => w'.cell? ⟨w.heap.size, 0, none⟩ = some (.slice a bs.length c) ∧ w'.cell? ⟨w.heap.size, 1, none⟩ = some (.slice a2 es.length c2))
          (first
            | with_reducible exact hS
            | with_reducible exact hS2
            | go_keep
            | fail)
          ((first
            | ((with_reducible refine (hU.out wr.drew (hR.out.mono EBlob.stable hbk.out.drew)).mono ?_)
               rintro e w5 ⟨rfl, b5⟩
               have hS2 := And.intro (box8f (stays (w := wr.drew) b5 hqr.out)).1 (box8f (stays (w := wr.drew) b5 hqr.out)).2.1
               have hb5 := hid (b_call hbk.out.drew b5)
               clear b5)
            | fail))
        go_wp2_with fail
        (try simp only [Exit.inBlock, Exit.then])
        refine bodyPost_ret (by simp [results, Tryz.results4, go_sem]; try rfl) rfl ?_
        exact ⟨by rw [cz_0, cz_0, cz_0, cz_0], hb5.out⟩
  · have ht : (z != 0) = true := by simp [hz]
    have q0 := hid (cz_no hz)
    replace hz := hid hz
    go_wp2_with fail
    (try simp only [Exit.inBlock, Exit.then])
    refine bodyPost_ret (by simp [results, Tryz.results4, go_sem]; try rfl) rfl ?_
    exact ⟨by rw [q0.out, q0.out, q0.out, q0.out], hb2.out⟩

set_option maxRecDepth 100000 in
set_option maxHeartbeats 2000000 in
theorem ref_StatsCount' (v u gv fv : Value) (bs : List Blob) (es : List Entry) (r t ph : Int) (pl : ByteArray) (gy : List ByteArray) (fl : List Flight) (w : World) (h : RBl w v bs) (g : RE w u es) (hg : RT w gv gy) (hfl : RF w fv fl) (z : Int)
    (hch : ∀ w, RBl w v bs → RE w u es → RT w gv gy → RF w fv fl → Calls Tryz.prog 13 #[.agg #[v, u, .int .i64 r, .int .i64 t, .int .i64 ph, gv, .string pl, fv]] w fun e w' => e = .returned (.int .i64 z) ∧ Below w.heap.size w w') :
    Calls Tryz.prog 6 #[.agg #[v, u, .int .i64 r, .int .i64 t, .int .i64 ph, gv, .string pl, fv]] w (CntPost z bs es fl w) := by
  replace hch := hid hch
  have hU := hid (fun w (h : RBl w v bs) => ref_RoomUsed v bs w h)
  have hR := hid h
  have hE := hid g
  have hG := hid hg
  have hF := hid hfl
  obtain ⟨a, c, rfl, -⟩ := h
  obtain ⟨a2, c2, rfl, -⟩ := g
  obtain ⟨ga, gc, rfl, -⟩ := hg
  obtain ⟨fa, fc, rfl, hlc, hcm, hre, -, hat⟩ := hfl
  unfold maxLen at hcm
  replace hat := hid hat
  obtain ⟨w1, hw1⟩ : ∃ w1 : World, w1 = w.alloc (Obj.cells #[.slice a bs.length c, .slice a2 es.length c2, .int .i64 r, .int .i64 t, .int .i64 ph, .slice ga gy.length gc, .string pl, .slice fa fl.length fc] 31) := ⟨_, rfl⟩
  have hb1 := hid (show Below w.heap.size w w1 by rw [hw1]; exact b_alloc (Below.refl _ _) _)
  have hq1 := hid (show w1.heap[w.heap.size]? = some (.cells #[.slice a bs.length c, .slice a2 es.length c2, .int .i64 r, .int .i64 t, .int .i64 ph, .slice ga gy.length gc, .string pl, .slice fa fl.length fc] 31 (0, 0)) by rw [hw1]; exact heap_alloc_new w _)
  obtain ⟨x0, x1, x2, x3, x4, x5, x6, x7⟩ := box8f hq1.out
  go_enter Tryz.func6, Tryz.ntmps6
  go_wp2_with fail
  rw [← hw1]
  clear hw1
  ((with_reducible refine (hch.out _ (hR.out.mono EBlob.stable hb1.out) (hE.out.mono EEntry.stable hb1.out) (hG.out.mono EStr.stable hb1.out) (hF.out.mono EFlight.stable hb1.out)).mono ?_); rintro e w2 ⟨rfl, b2⟩)
  have hq2 := hid (stays b2 hq1.out)
  have hb2 := hid (b_call hb1.out b2)
  clear b2 hq1 hb1 x0 x1 x2 x3 x4 x5 x6 x7
  obtain ⟨x0, x1, x2, x3, x4, x5, x6, x7⟩ := box8f hq2.out
  by_cases hz : z = 0
  · subst hz
    go_wp2_with fail
    clear x0 x1 x2 x3 x4 x5 x6 x7
    go_loopw [8, 10, 19] (fun t _ i wr => ∃ k : Nat, k ≤ fl.length ∧ i = .int .i64 (k : Int) ∧ t = .int .i64 (waits (fl.take k)) ∧ Hid (Below w2.heap.size w2 wr)) (fun _ _ i _ => fl.length - (intOf i).toNat)
    case atStart => exact ⟨0, by omega, rfl, rfl, hid (Below.refl _ _)⟩
    case round =>
      obtain ⟨k, hk, rfl, rfl, hbr⟩ := hrel
      have hbk := hid (b_call hb2.out hbr.out)
      have hsB := hbr.out.size
      have hqr := hid (stays hbr.out hq2.out)
      by_cases hlt : k < fl.length
      · have hn : fl[k]? = some fl[k] := List.getElem?_eq_getElem hlt
        have hs := hid (waits_snoc fl k _ hn)
        generalize fl[k] = y at *
        obtain ⟨bb, off, rfl, hbb, pv, k0, k1, k2, rp, -⟩ := hat.out k _ hn
        have c0 := cell_stays hbk.out hbb k0
        have c1 := cell_stays hbk.out hbb k1
        have c2' := cell_stays hbk.out hbb k2
        have hbw : bb < wr.heap.size := Nat.lt_of_lt_of_le hbb hbk.out.size
        obtain ⟨xa, xc, rfl, -⟩ := rp
        have hb4 := hid (hbr.out.alloc hsB (Obj.cells #[.string y.key, .int .i64 y.leader, .slice xa y.waiters.length xc] 42))
        clear k0 k1 k2 hn hat
        go_wp2_with fail
        go_roundw
        case rel => exact ⟨k + 1, by omega, by go_num, by rw [hs.out], hb4⟩
        case measure => simp [intOf]; omega
      · obtain rfl : k = fl.length := by omega
        rw [List.take_of_length_le (Nat.le_refl _)]
        have hS := And.intro (box8f hqr.out).1 (box8f hqr.out).2.1
        go_wp2_with fail
        go_region_held3 (fun w' => w'.cell? ⟨w.heap.size, 0, none⟩ = some (.slice a bs.length c) ∧ w'.cell? ⟨w.heap.size, 1, none⟩ = some (.slice a2 es.length c2))
          (first
            | with_reducible exact hS
            | with_reducible exact hS2
            | go_keep
            | fail)
          ((first
            | ((with_reducible refine (hU.out wr.drew (hR.out.mono EBlob.stable hbk.out.drew)).mono ?_)
               rintro e w5 ⟨rfl, b5⟩
               have hS2 := And.intro (box8f (stays (w := wr.drew) b5 hqr.out)).1 (box8f (stays (w := wr.drew) b5 hqr.out)).2.1
               have hb5 := hid (b_call hbk.out.drew b5)
               clear b5)
            | fail))
        go_wp2_with fail
        (try simp only [Exit.inBlock, Exit.then])
        refine bodyPost_ret (by simp [results, Tryz.results6, go_sem]; try rfl) rfl ?_
        exact ⟨by rw [cz_0, cz_0, cz_0, cz_0], hb5.out⟩
  · have ht : (z != 0) = true := by simp [hz]
    have q0 := hid (cz_no hz)
    replace hz := hid hz
    go_wp2_with fail
    (try simp only [Exit.inBlock, Exit.then])
    refine bodyPost_ret (by simp [results, Tryz.results6, go_sem]; try rfl) rfl ?_
    exact ⟨by rw [q0.out, q0.out, q0.out, q0.out], hb2.out⟩
end Go.Proofs.YtpcnhldlfmdlhaaGreatDoor
