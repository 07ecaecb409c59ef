/-
  The reference's reached: a store of what is come to alone.
-/
import Derived.Test.YtkbijjglodnfbaaGreatQdEvc
import Derived.Test.YtkbijjglodnfbaaGreatQdChn
namespace Go.Proofs.YtkbijjglodnfbaaGreat
open Go.RowKit

theorem clean_yes {L : List ByteArray} {bs : List Blob} {j : Nat} {x : Blob} (h : bs.take (j + 1) = bs.take j ++ [x]) (hp : isIn x.digest L = true) : cleanL L (bs.take (j + 1)) = cleanL L (bs.take j) ++ [x] := by
  unfold cleanL; rw [h, List.filter_append]; simp [hp]
theorem clean_no {L : List ByteArray} {bs : List Blob} {j : Nat} {x : Blob} (h : bs.take (j + 1) = bs.take j ++ [x]) (hp : isIn x.digest L = false) : cleanL L (bs.take (j + 1)) = cleanL L (bs.take j) := by
  unfold cleanL; rw [h, List.filter_append]; simp [hp]
theorem clean_len (L : List ByteArray) (bs : List Blob) : (cleanL L bs).length ≤ bs.length := List.length_filter_le _ _
theorem clean_mem {L : List ByteArray} {bs : List Blob} {Q : Blob → Prop} (h : ∀ x ∈ bs, Q x) : ∀ x ∈ cleanL L bs, Q x := fun x hx => h x (List.mem_filter.1 hx).1

theorem OEntry.apart {W w' : World} {B : Nat} {v v' : Value} {rs : List (XR Blob)} {l : List Entry} (hv : OS 80 4 (xc cBlob (·.data)) W B v rs) (hg : W.grownBy w' v.ownBlock) (h : OEntry W B v' l) : OEntry w' B v' l := by
  obtain ⟨rs', h1, h2, h3⟩ := h
  exact ⟨rs', h1, OS.apart hv h2 (by decide) hg, fun r hr => OS.apart hv (h3 r hr) (by decide) hg⟩
theorem rb_one (W : World) (x : Blob) (xa : Option Addr) (xk k : Nat) (hk : k = W.heap.size) (hd : RB W (.slice xa x.data.length xk) x.data) (hok : okBlob x) :
    RBl (W.alloc (Obj.cells #[.string x.digest, .slice xa x.data.length xk, .int .i64 x.pins, .bool x.mark] 80)) (.slice (some ⟨k, 0, none⟩) 1 1) [x] := by
  subst hk
  refine ⟨_, _, rfl, by simp, by simp [maxLen], by simp, fun h => by simp at h, fun j y hj => ⟨W.heap.size, 0, rfl, by simp, ?_⟩⟩
  obtain rfl : j = 0 := by have := (List.getElem?_eq_some_iff.1 hj).1; simp at this; omega
  simp only [List.getElem?_cons_zero, Option.some.injEq] at hj
  subst hj
  obtain ⟨q0, q1, q2, q3⟩ := box4f (heap_alloc_new W (Obj.cells #[.string x.digest, .slice xa x.data.length xk, .int .i64 x.pins, .bool x.mark] 80))
  exact ⟨_, q0, q1, q2, q3, hd.mono EU8.stable (b_alloc (Below.refl _ _) _), hok⟩

def ReachedPost (L : List ByteArray) (bs : List Blob) (es : List Entry) (r t : Int) (w : World) (e : Ending) (w' : World) : Prop :=
  ∃ v1 u1, e = .returned (.agg #[v1, u1, .int .i64 r, .int .i64 t]) ∧ OBlob w' w.heap.size v1 (cleanL L bs) ∧ OEntry w' w.heap.size u1 es ∧ Below w.heap.size w w'

set_option maxRecDepth 100000 in
set_option maxHeartbeats 8000000 in
theorem ref_reached (v u : Value) (bs : List Blob) (es : List Entry) (r t : Int) (w : World) (h : RBl w v bs) (g : RE w u es) (hN : bulkN bs es ≤ 8388608) : Calls Tryz.prog 59 #[.agg #[v, u, .int .i64 r, .int .i64 t]] w (ReachedPost (allOf bs es) bs es r t w) := by
  obtain ⟨i0, ii0, hz0, hz1, hz2⟩ := info_parts info_B
  have hall := hid (fun w h g => ref_ReachAllP v u bs es r t w h g hN)
  unfold AllPost at hall
  unfold ReachedPost
  have hR := hid h
  have hE := hid g
  have hcp := hid (fun w h g => ref_StoreCopyO v u bs es r t w h g)
  unfold OwnedStore at hcp
  generalize allOf bs es = L at *
  obtain ⟨a, c, rfl, hlc, hcm, hre, -, hat⟩ := h
  obtain ⟨a2, c2, rfl, -⟩ := g
  unfold maxLen at hcm
  replace hat := hid hat
  obtain ⟨w1, hw1⟩ : ∃ w1 : World, w1 = (w.alloc (Obj.cells #[.slice a bs.length c, .slice a2 es.length c2, .int .i64 r, .int .i64 t] 25)).alloc (Obj.cells #[.slice none 0 0, .slice none 0 0, .int .i64 0, .int .i64 0] 25) := ⟨_, rfl⟩
  have hb1 := hid (show Below w.heap.size w w1 by rw [hw1]; exact b_alloc (b_alloc (Below.refl _ _) _) _)
  have hq1 := hid (show w1.heap[w.heap.size]? = some (.cells #[.slice a bs.length c, .slice a2 es.length c2, .int .i64 r, .int .i64 t] 25 (0, 0)) by
    rw [hw1]; exact hold (heap_alloc_new w _))
  have hp1 := hid (show w1.heap[w.heap.size + 1]? = some (.cells #[.slice none 0 0, .slice none 0 0, .int .i64 0, .int .i64 0] 25 (0, 0)) by
    rw [hw1]; exact heap_put _ _ _ (by simp))
  obtain ⟨x0, x1, x2, x3⟩ := box4f hq1.out
  go_enter Tryz.func59, Tryz.ntmps59
  go_wp2_with fail
  rw [← hw1]
  clear hw1
  ((with_reducible refine (hall.out _ (hR.out.mono EBlob.stable hb1.out) (hE.out.mono EEntry.stable hb1.out)).mono ?_); rintro e w2 ⟨vL, rfl, hLl, rL, oL, b2⟩)
  obtain ⟨la, lc, rfl, -⟩ := id rL
  have hq2 := stays b2 hq1.out
  have hp2 := stays b2 hp1.out
  have hb2 := b_call hb1.out b2
  have oL2 := OS.mono oL hb1.out.size
  have hLb := rt_bound rL
  have hLs := hid (rt_sizes rL)
  clear b2 hq1 hp1 hb1 x0 x1 x2 x3 hall rL oL
  obtain ⟨x0, x1, x2, x3⟩ := box4f hq2
  go_wp2_with fail
  ((with_reducible refine (hcp.out _ (hR.out.mono EBlob.stable hb2) (hE.out.mono EEntry.stable hb2)).mono ?_); rintro e w3 ⟨v3, u3, rfl, o3, e3, b3⟩)
  obtain ⟨a3, c3, rfl⟩ := OX.lenOf o3
  obtain ⟨a4, c4, rfl⟩ := OX.lenOf e3
  have hq3 := stays b3 hq2
  have hp3 := stays b3 hp2
  have hb3 := b_call hb2 b3
  have oL3 := OS.below oL2 b3
  have oe3 := e3.low hb2.size
  have hl3 := heap_lt hp3
  clear b3 hq2 hp2 x0 x1 x2 x3 hcp o3 e3 oL2
  obtain ⟨w4, hw4⟩ : ∃ w4 : World, w4 = w3.alloc (Obj.cells #[.slice none 0 0, .slice a4 es.length c4, .int .i64 r, .int .i64 t] 25) := ⟨_, rfl⟩
  have hq4 := hid (show w4.heap[w.heap.size]? = some (.cells #[.slice a bs.length c, .slice a2 es.length c2, .int .i64 r, .int .i64 t] 25 (0, 0)) by rw [hw4]; exact hold hq3)
  have hp4 := hid (show w4.heap[w.heap.size + 1]? = some (.cells #[.slice none 0 0, .slice none 0 0, .int .i64 0, .int .i64 0] 25 (0, 0)) by rw [hw4]; exact hold hp3)
  have ho4 := hid (show w4.heap[w3.heap.size]? = some (.cells #[.slice none 0 0, .slice a4 es.length c4, .int .i64 r, .int .i64 t] 25 (0, 0)) by rw [hw4]; exact heap_alloc_new _ _)
  have hb4 := hid (show Below w.heap.size w w4 by rw [hw4]; exact b_alloc hb3 _)
  have oL4 := hid (show OS 9 1 cStr w4 w.heap.size (.slice la L.length lc) L by rw [hw4]; exact OS.alloc oL3 _)
  have oe4 := hid (show OEntry w4 w.heap.size (.slice a4 es.length c4) es by rw [hw4]; exact OEntry.alloc oe3 _)
  have oc4 := hid (show OBlob w4 w.heap.size (.slice none 0 0) (cleanL L (bs.take 0)) from OX.nil)
  obtain ⟨x0, x1, x2, x3⟩ := box4f (hold (o := Obj.cells #[.slice none 0 0, .slice a4 es.length c4, .int .i64 r, .int .i64 t] 25) hq3)
  have hql := heap_lt hq3
  clear hq3 hp3 hb3 oL3 oe3
  go_wp2_with fail
  rw [← hw4]
  clear hw4 hb2 x0 x1 x2 x3
  generalize w3.heap.size = q4 at *
  go_loopw [6, 15, 28] (fun _ i _ wr => ∃ (k : Nat) (vO : Option Addr) (cO : Nat), k ≤ bs.length ∧ i = .int .i64 (k : Int) ∧ Hid (wr.heap[q4]? = some (.cells #[.slice vO (cleanL L (bs.take k)).length cO, .slice a4 es.length c4, .int .i64 r, .int .i64 t] 25 (0, 0))) ∧ Hid (OBlob wr w.heap.size (.slice vO (cleanL L (bs.take k)).length cO) (cleanL L (bs.take k))) ∧
    Hid (OEntry wr w.heap.size (.slice a4 es.length c4) es) ∧ Hid (OS 9 1 cStr wr w.heap.size (.slice la L.length lc) L) ∧ Hid (wr.heap[w.heap.size + 1]? = some (.cells #[.slice none 0 0, .slice none 0 0, .int .i64 0, .int .i64 0] 25 (0, 0))) ∧ Hid (Below w.heap.size w wr)) (fun _ i _ _ => bs.length - (intOf i).toNat)
  case atStart => exact ⟨0, none, 0, by omega, rfl, ho4, oc4, oe4, oL4, hp4, hb4⟩
  case round =>
    obtain ⟨k, vO, cO, hk, rfl, ho, oc, oe, oL, hp, hbr⟩ := hrel
    have hsB := hbr.out.size
    have hlk := clean_len L (bs.take k)
    rw [List.length_take] at hlk
    by_cases hlt : k < bs.length
    · have hn : bs[k]? = some bs[k] := List.getElem?_eq_getElem hlt
      have hyes := hid (clean_yes (L := L) (List.take_succ_eq_append_getElem hlt))
      have hno := hid (clean_no (L := L) (List.take_succ_eq_append_getElem hlt))
      generalize bs[k] = x at *
      obtain ⟨bb, off, rfl, hbb, he⟩ := hat.out k _ hn
      obtain ⟨pv, c0, c1, c2', c3, rdv, okx⟩ := EBlob.stable _ _ _ _ _ hbr.out hbb he
      have hbw : bb < wr.heap.size := Nat.lt_of_lt_of_le hbb hsB
      obtain ⟨xa, xk, rfl, -⟩ := id rdv
      have rda := hid (rdv.mono EU8.stable (b_alloc (Below.refl _ wr) (Obj.cells #[.string x.digest, .slice xa x.data.length xk, .int .i64 x.pins, .bool x.mark] 80)))
      have hoa := hid (hold (o := Obj.cells #[.string x.digest, .slice xa x.data.length xk, .int .i64 x.pins, .bool x.mark] 80) ho.out)
      have hqa := hid (heap_alloc_new wr (Obj.cells #[.string x.digest, .slice xa x.data.length xk, .int .i64 x.pins, .bool x.mark] 80))
      have hpa := hid (hold (o := Obj.cells #[.string x.digest, .slice xa x.data.length xk, .int .i64 x.pins, .bool x.mark] 80) hp.out)
      have oca := hid (OBlob.alloc oc.out (Obj.cells #[.string x.digest, .slice xa x.data.length xk, .int .i64 x.pins, .bool x.mark] 80))
      have oea := hid (OEntry.alloc oe.out (Obj.cells #[.string x.digest, .slice xa x.data.length xk, .int .i64 x.pins, .bool x.mark] 80))
      have oLa := hid (OS.alloc oL.out (Obj.cells #[.string x.digest, .slice xa x.data.length xk, .int .i64 x.pins, .bool x.mark] 80))
      have hba := hid (b_alloc hbr.out (Obj.cells #[.string x.digest, .slice xa x.data.length xk, .int .i64 x.pins, .bool x.mark] 80))
      have hwl : wr.heap.size < (wr.alloc (Obj.cells #[.string x.digest, .slice xa x.data.length xk, .int .i64 x.pins, .bool x.mark] 80)).heap.size := by simp
      have hh := hid (ref_holds _ L x.digest (wr.alloc (Obj.cells #[.string x.digest, .slice xa x.data.length xk, .int .i64 x.pins, .bool x.mark] 80)) (reads_str oLa.out hLb hLs.out))
      replace okx : okBlob x := okx
      clear he hn rdv
      cases hi : isIn x.digest L with
      | false =>
        rw [hi] at hh
        have hr := hid (hno.out hi)
        clear hyes hno
        go_wp2_with fail
        ((with_reducible refine hh.out.mono ?_); rintro e w5 ⟨rfl, rfl⟩)
        go_wp2_with fail
        go_roundw
        case rel => exact ⟨k + 1, vO, cO, by omega, by go_num, by rw [hr.out]; exact hoa, by rw [hr.out]; exact oca, oea, oLa, hpa, hba⟩
        case measure => simp [intOf]; omega
      | true =>
        rw [hi] at hh
        have hr := hid (hyes.out hi)
        have ho' := ho.out
        have oc' := oc.out
        clear hyes hno ho oc oe oL hp hbr
        go_wp2_with fail
        ((with_reducible refine hh.out.mono ?_); rintro e w5 ⟨rfl, rfl⟩)
        have hvB : ∀ b, (Value.slice vO (cleanL L (bs.take k)).length cO).ownBlock = some b → b < wr.heap.size := fun b e => by
          obtain ⟨rs, -, hown, -⟩ := oc'
          exact (World.ownsRow.lt hown b e).2
        have hq4b : q4 < wr.heap.size := heap_lt ho'
        generalize hwa : wr.alloc (Obj.cells #[.string x.digest, .slice xa x.data.length xk, .int .i64 x.pins, .bool x.mark] 80) = wa at *
        generalize wr.heap.size = qb at *
        clear hwa hh
        obtain ⟨x0, x1, x2, x3⟩ := box4f hoa.out
        have hS := box4f hqa.out
        have lb := heap_lt hqa.out
        have hne : qb ≠ q4 := by omega
        have hvne : (Value.slice vO (cleanL L (bs.take k)).length cO).ownBlock ≠ some qb := fun e => by have := hvB qb e; omega
        clear ho' oc'
        have lq := heap_lt hoa.out
        obtain ⟨rs, hrs, hown, hcs⟩ := oca.out
        have hrl : rs.length ≤ k := by have := congrArg List.length hrs; rw [List.length_map] at this; omega
        replace hown := hid hown
        replace hcs := hid hcs
        go_wp2_with fail
        obtain ⟨y0, y1, y2, y3⟩ := hS
        go_region_law ((first
          | (go_simp
             (with_reducible refine (ref_BlobsCopy _ [x] _ (by first | exact (rb_one wa x xa xk _ rfl rda.out okx).mono EBlob.stable (Below.refl _ _).drew | exact rb_one _ x xa xk _ rfl (rda.out.mono EU8.stable (Below.refl _ wa).drew) okx)).mono ?_)
             rintro e w5 ⟨v5, rfl, ⟨rb, hrb, ob, cb⟩, b5⟩
             have hb5 : Below wa.heap.size wa w5 := b_call (by first | exact (b_alloc (Below.refl _ wa) _).drew | exact b_alloc (Below.refl _ wa).drew _) b5
             have ho5 := stays hb5 hoa.out
             obtain ⟨x0', x1', x2', x3'⟩ := box4f ho5
             have lq5 := heap_lt ho5
             have hq5 := stays hb5 hqa.out
             obtain ⟨y0', y1', y2', y3'⟩ := box4f hq5
             have hown5 := OS.below hown.out hb5
             have hs5 := hb5.size
             have hs5' := b5.size
             have hlb : rb.length = 1 := by have := congrArg List.length hrb; rw [List.length_map] at this; exact this
             have hob := hid (OS.reads (cells := xc cBlob (·.data)) (bs := 56) (E := ERaw (xc cBlob (·.data))) xcBlob_len (by decide) (fun b o r _ hc j u hj => (by
               have hlt := (List.getElem?_eq_some_iff.1 hj).1
               rw [hc j (by rw [xcBlob_len] at hlt; exact hlt), hj])) ob (by omega)))
          | (refine stepL_append (o := ⟨some 28, _, _, _, _, _⟩) (l := rs) (m := rb) (B := w.heap.size) flat_cBlob (by rfl) (.tmp 24) (.tmp 27) 22 (by rfl) 80 i0 _ Tryz.underlying22 ii0 hz0 hz1 hz2 rfl _ (by rfl) hown5 _ (by rfl) hob.out (by omega) (by simp [maxLen]; omega) (by have := hba.out.size; omega) ?_
             intro v6 w6 hown6 hgrow
             obtain ⟨a6, k6, rfl, -⟩ := id (OS.len_le hown6)
             have ho6 : w6.heap[q4]? = _ := (hgrow.block q4 lq5 (fun e => (OS.block_ne hown5 ho5 (by decide)) e.symm)).trans ho5
             have f6 := frozen_heap ho6 0
             have hq6 : w6.heap[qb]? = _ := (hgrow.block qb (heap_lt hq5) (fun e => hvne e.symm)).trans hq5
             have lq6 := heap_lt ho6
             obtain ⟨x0'', x1'', x2'', x3''⟩ := box4f ho6)
          | fail))
        all_goals
          (have hlen : (cleanL L (bs.take (k + 1))).length = rs.length + 1 := by rw [hr.out, List.length_append, ← hrs, List.length_map]; rfl
           have hO6 : OBlob w6 w.heap.size (.slice a6 (rs.length + 1) k6) (cleanL L (bs.take (k + 1))) := by
             have h := OX.join (e' := 5) hown6 hgrow hown5 (by decide) (fun q hq => CO.below hb5 _ _ (hcs.out q hq)) (fun q hq => OS.mono (cb q hq) (by have := hba.out.size; simp; omega))
             rw [hrs, hrb] at h
             rw [hr.out]
             have h9 : (rs ++ rb).length = rs.length + 1 := by rw [List.length_append, hlb]
             rw [h9] at h
             exact h
           have oe6 := OEntry.apart hown5 hgrow (OEntry.after oea.out hb5)
           have oL6 := OS.apart hown5 (OS.below oLa.out hb5) (by decide) hgrow
           have hp5 := stays hb5 hpa.out
           have hp6 : w6.heap[w.heap.size + 1]? = _ := (hgrow.block _ (heap_lt hp5) (fun e => (OS.block_ne hown5 hp5 (by decide)) e.symm)).trans hp5
           have hb6 := (b_call hba.out hb5).grown hgrow (by have := hba.out.size; omega) (OS.block hown5)
           have ho7 := hid (box4_0 (u := .slice a6 (rs.length + 1) k6) ho6)
           have oc7 := hid (hO6.other (o := 0) (u := .slice a6 (rs.length + 1) k6) ho6 (by decide) (by decide))
           have oe7 := hid (oe6.other (o := 0) (u := .slice a6 (rs.length + 1) k6) ho6 (by decide) (by decide))
           have oL7 := hid (OS.other (o := 0) (u := .slice a6 (rs.length + 1) k6) oL6 ho6 (by decide))
           have hp7 := hid (box_other (q := q4) (o := 0) (u := .slice a6 (rs.length + 1) k6) hp6 (by omega))
           have hb7 := hid (hb6.setCell (p := ⟨q4, 0, none⟩) (show w.heap.size ≤ q4 by omega) (.slice a6 (rs.length + 1) k6))
           clear hown6 hgrow hown5 ob cb b5 hb5 hob hrb oe6 oL6 hp5 hp6 hb6 hO6
           rw [← hlen] at ho7 oc7
           replace hlen := hid hlen
           go_wp2_with fail
           go_roundw
           case rel => exact ⟨k + 1, a6, k6, by omega, by go_num, by rw [← hlen.out]; exact ho7, by rw [← hlen.out]; exact oc7, oe7, oL7, hp7, hb7⟩
           case measure => simp [intOf]; omega)
    · obtain rfl : k = bs.length := by omega
      rw [List.take_length] at ho oc
      obtain ⟨x0, x1, x2, x3⟩ := box4f ho.out
      obtain ⟨p0, p1, p2, p3⟩ := box4f hp.out
      have hl1 := heap_lt ho.out
      have hl2 := heap_lt hp.out
      have g0 := frozen_heap hp.out 0
      have g1 := frozen_heap hp.out 1
      have g2 := frozen_heap hp.out 2
      have g3 := frozen_heap hp.out 3
      go_wp2_with fail
      have hp9 := box4_same (u0 := .slice vO (cleanL L bs).length cO) (u1 := .slice a4 es.length c4) (u2 := .int .i64 r) (u3 := .int .i64 t) hp.out
      have o9 := oc.out.box4 hp.out (.slice vO (cleanL L bs).length cO) (.slice a4 es.length c4) (.int .i64 r) (.int .i64 t)
      have e9 := oe.out.box4 hp.out (.slice vO (cleanL L bs).length cO) (.slice a4 es.length c4) (.int .i64 r) (.int .i64 t)
      have hb9 := bB_box4 hbr.out (q := w.heap.size + 1) (by omega) (.slice vO (cleanL L bs).length cO) (.slice a4 es.length c4) (.int .i64 r) (.int .i64 t)
      obtain ⟨m0, m1, m2, m3⟩ := box4f hp9
      unfold World.box4 at m0 m1 m2 m3 hb9 o9 e9
      (try simp only [Exit.inBlock, Exit.then])
      refine bodyPost_ret (by simp [results, Tryz.results59, go_sem, m0, m1, m2, m3]; try rfl) rfl ?_
      exact ⟨_, _, rfl, o9, e9, hb9⟩
end Go.Proofs.YtkbijjglodnfbaaGreat
