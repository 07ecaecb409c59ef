import Derived.Test.YtpkpgehiplhkpaaGreatTzChc
import Derived.Test.YtpkpgehiplhkpaaGreatTzFjL
namespace Go.Proofs.YtpkpgehiplhkpaaGreat
open Go.RowKit Go.Maps
def clash (es : List Entry) (fl : List Flight) : Prop := ∃ f ∈ fl, ∃ x ∈ es, x.key = f.key
open Classical in
noncomputable def loftE (c f : Int) (es : List Entry) (fl : List Flight) : Int := if c ≠ 0 then c else if f ≠ 0 then f else if clash es fl then 12 else 0
theorem loft_c {c f : Int} {es : List Entry} {fl : List Flight} (h : c ≠ 0) : loftE c f es fl = c := if_pos h
theorem loft_f {c f : Int} {es : List Entry} {fl : List Flight} (h : c = 0) (h2 : f ≠ 0) : loftE c f es fl = f := by unfold loftE; rw [if_neg (by simp [h]), if_pos h2]
theorem loft_bad {c f : Int} {es : List Entry} {fl : List Flight} (h : c = 0) (h2 : f = 0) (h3 : clash es fl) : loftE c f es fl = 12 := by unfold loftE; rw [if_neg (by simp [h]), if_neg (by simp [h2]), if_pos h3]
theorem loft_ok {c f : Int} {es : List Entry} {fl : List Flight} (h : c = 0) (h2 : f = 0) (h3 : ¬ clash es fl) : loftE c f es fl = 0 := by unfold loftE; rw [if_neg (by simp [h]), if_neg (by simp [h2]), if_neg h3]
theorem atKey_in {α : Type} {f : α → ByteArray} {d : ByteArray} : ∀ {l : List α}, atKey f d l < l.length ↔ ∃ x ∈ l, f x = d
 | [] => by simp [atKey]
 | x :: l => by
   rw [atKey]
   split
   · rename_i h
     exact ⟨fun _ => ⟨x, List.mem_cons_self, key_eq.1 h⟩, fun _ => by simp⟩
   rename_i h
   have ih := atKey_in (f := f) (d := d) (l := l)
   rw [List.length_cons, Nat.add_lt_add_iff_right, ih]
   constructor
   · rintro ⟨y, hy, he⟩
     exact ⟨y, List.mem_cons_of_mem _ hy, he⟩
   rintro ⟨y, hy, he⟩
   rcases List.mem_cons.1 hy with rfl | hy
   · exact absurd (key_eq.2 he) h
   exact ⟨y, hy, he⟩
theorem box8f {w : World} {b : Nat} {c0 c1 c2 c3 c4 c5 c6 c7 : Value} {T : TypeId} (h : w.heap[b]? = some (.cells #[c0, c1, c2, c3, c4, c5, c6, c7] T (0, 0))) :
 w.cell? ⟨b, 0, none⟩ = some c0 ∧ w.cell? ⟨b, 1, none⟩ = some c1 ∧ w.cell? ⟨b, 2, none⟩ = some c2 ∧ w.cell? ⟨b, 3, none⟩ = some c3 ∧ w.cell? ⟨b, 4, none⟩ = some c4 ∧ w.cell? ⟨b, 5, none⟩ = some c5 ∧ w.cell? ⟨b, 6, none⟩ = some c6 ∧ w.cell? ⟨b, 7, none⟩ = some c7 :=
 ⟨cell_of_row _ _ 0 _ _ _ h, cell_of_row _ _ 1 _ _ _ h, cell_of_row _ _ 2 _ _ _ h, cell_of_row _ _ 3 _ _ _ h, cell_of_row _ _ 4 _ _ _ h, cell_of_row _ _ 5 _ _ _ h, cell_of_row _ _ 6 _ _ _ h, cell_of_row _ _ 7 _ _ _ h⟩
theorem findE_cases (es : List Entry) (d : ByteArray) : (findE (fun x : Entry => x.key) d es = 0 ∧ ∃ x ∈ es, x.key = d) ∨ (findE (fun x : Entry => x.key) d es = 5 ∧ ¬ ∃ x ∈ es, x.key = d) := by
 have hle := atKey_le (fun x : Entry => x.key) d es
 unfold findE
 split
 · rename_i h
   exact .inr ⟨rfl, fun h2 => by have := (atKey_in (f := fun x : Entry => x.key)).2 h2; omega⟩
 rename_i h
 exact .inl ⟨rfl, (atKey_in (f := fun x : Entry => x.key)).1 (by omega)⟩
set_option maxRecDepth 100000 in
set_option maxHeartbeats 4000000 in
theorem exec_Check' (v u gv fv : Value) (bs : List Blob) (es : List Entry) (r t ph : Int) (pl : ByteArray) (gy : List ByteArray) (fl : List Flight) (w : World) (h : RBl w v bs) (g : RE w u es) (hg : RT w gv gy) (hfl : RF w fv fl) (c f : Int)
 (hcc : ∀ w, RBl w v bs → RE w u es → RT w gv gy → Calls Tryz.prog 69 #[.agg #[v, u, .int .i64 r, .int .i64 t], .agg #[.int .i64 ph, gv, .string pl]] w fun e w' => e = .returned (.int .i64 c) ∧ Below w.heap.size w w')
 (hfc : ∀ w, RF w fv fl → Calls Tryz.prog 70 #[fv] w fun e w' => e = .returned (.int .i64 f) ∧ Below w.heap.size w w') :
 Calls Tryz.prog 27 #[.agg #[v, u, .int .i64 r, .int .i64 t, .int .i64 ph, gv, .string pl, fv]] w fun e w' => e = .returned (.int .i64 (loftE c f es fl)) ∧ Below w.heap.size w w' := by
 replace hcc := hid hcc
 replace hfc := hid hfc
 have hR := hid h
 have hE := hid g
 have hG := hid hg
 have hF := hid hfl
 have e1 := hid (@loft_c c f es fl)
 have e2 := hid (@loft_f c f es fl)
 have e3 := hid (@loft_bad c f es fl)
 have e4 := hid (@loft_ok c f es fl)
 generalize loftE c f es fl = z at *
 obtain ⟨a, cc, rfl, -⟩ := h
 obtain ⟨a2, c2, rfl, -⟩ := g
 obtain ⟨ga, gc, rfl, -⟩ := hg
 obtain ⟨fa, fc, rfl, hlc, hcm, hre, -, hat⟩ := hfl
 unfold maxLen at hcm
 replace hat := hid hat
 obtain ⟨w1, hw1⟩ : ∃ w1 : World, w1 = w.alloc (Obj.cells #[.slice a bs.length cc, .slice a2 es.length c2, .int .i64 r, .int .i64 t, .int .i64 ph, .slice ga gy.length gc, .string pl, .slice fa fl.length fc] 35) := ⟨_, rfl⟩
 have hb1 := hid (show Below w.heap.size w w1 by rw [hw1]; exact b_alloc (Below.refl _ _) _)
 have hq1 := hid (show w1.heap[w.heap.size]? = some (.cells #[.slice a bs.length cc, .slice a2 es.length c2, .int .i64 r, .int .i64 t, .int .i64 ph, .slice ga gy.length gc, .string pl, .slice fa fl.length fc] 35 (0, 0)) by rw [hw1]; exact heap_alloc_new w _)
 obtain ⟨x0, x1, x2, x3, x4, x5, x6, x7⟩ := box8f hq1.out
 go_enter Tryz.func27, Tryz.ntmps27
 go_wp2_with fail
 rw [← hw1]
 clear hw1
 ((with_reducible refine (hcc.out _ (hR.out.mono EBlob.stable hb1.out) (hE.out.mono EEntry.stable hb1.out) (hG.out.mono EStr.stable hb1.out)).mono ?_); rintro e w2 ⟨rfl, b2⟩)
 have hq2 := hid (stays b2 hq1.out)
 have hb2 := hid (b_call hb1.out b2)
 clear b2 hq1 hb1 x0 x1 x2 x3 x4 x5 x6 x7
 obtain ⟨x0, x1, x2, x3, x4, x5, x6, x7⟩ := box8f hq2.out
 by_cases hc : c = 0
 · replace e2 := hid (e2.out hc)
   replace e3 := hid (e3.out hc)
   replace e4 := hid (e4.out hc)
   subst hc
   clear e1
   go_wp2_with fail
   ((with_reducible refine (hfc.out _ (hF.out.mono EFlight.stable hb2.out)).mono ?_); rintro e w3 ⟨rfl, b3⟩)
   have hq3 := hid (stays b3 hq2.out)
   have hb3 := hid (b_call hb2.out b3)
   clear b3 hq2 hb2 x0 x1 x2 x3 x4 x5 x6 x7
   obtain ⟨x0, x1, x2, x3, x4, x5, x6, x7⟩ := box8f hq3.out
   by_cases hf : f = 0
   · replace e3 := hid (e3.out hf)
     replace e4 := hid (e4.out hf)
     subst hf
     clear e2
     go_wp2_with fail
     clear x0 x1 x2 x3 x4 x5 x6 x7
     go_loopw [6, 7, 8, 26] (fun _ _ _ i wr => ∃ k : Nat, k ≤ fl.length ∧ i = .int .i64 (k : Int) ∧ Hid (∀ j y, j < k → fl[j]? = some y → ¬ ∃ x ∈ es, x.key = y.key) ∧ Hid (Below w3.heap.size w3 wr)) (fun _ _ _ i _ => fl.length - (intOf i).toNat)
     case atStart => exact ⟨0, by omega, rfl, hid (fun j y hj => by omega), hid (Below.refl _ _)⟩
     obtain ⟨k, hk, rfl, hall, hbr⟩ := hrel
     have hbk := hid (b_call hb3.out hbr.out)
     have hsB := hbr.out.size
     have hqr := hid (stays hbr.out hq3.out)
     by_cases hlt : k < fl.length
     · have hn : fl[k]? = some fl[k] := List.getElem?_eq_getElem hlt
       generalize fl[k] = y at *
       obtain ⟨bb, off, rfl, hbb, pv, k0, k1, k2, rp, -⟩ := hat.out k _ hn
       have c0 := cell_stays hbk.out hbb k0
       have c1 := cell_stays hbk.out hbb k1
       have c2' := cell_stays hbk.out hbb k2
       have hbw : bb < wr.heap.size := Nat.lt_of_lt_of_le hbb hbk.out.size
       obtain ⟨xa, xc, rfl, -⟩ := rp
       have hb4 := hid (hbr.out.alloc hsB (Obj.cells #[.string y.key, .int .i64 y.leader, .slice xa y.waiters.length xc] 138))
       have hq4 := hid (stays hb4.out hq3.out)
       have hqb := hid (heap_alloc_new wr (Obj.cells #[.string y.key, .int .i64 y.leader, .slice xa y.waiters.length xc] 138))
       have hfi := hid (index_Find _ es y.key (wr.alloc (Obj.cells #[.string y.key, .int .i64 y.leader, .slice xa y.waiters.length xc] 138)) (hE.out.mono EEntry.stable (b_call hb3.out hb4.out)))
       have hbad := hid (fun h => e3.out ⟨y, List.mem_of_getElem? hn, h⟩)
       have hnx := hid (fun (h : ¬ ∃ x ∈ es, x.key = y.key) j y' (hj : j < k + 1) (hy : fl[j]? = some y') => (show ¬ ∃ x ∈ es, x.key = y'.key from by
        by_cases e : j = k
        · subst e
          rw [hn] at hy
          cases hy
          exact h
        · exact hall.out j y' (by omega) hy))
       obtain ⟨x0, x1, x2, x3, x4, x5, x6, x7⟩ := box8f hqr.out
       clear k0 k1 k2 hn hall
       rcases findE_cases es y.key with ⟨hz, hex⟩ | ⟨hz, hex⟩
       · rw [hz] at hfi
         have hr := hid (hbad.out hex)
         clear hbad hnx hex hz
         have hS := And.intro (box8f hq4.out).2.1 (box3f hqb.out).1
         go_wp2_with fail
         generalize wr.alloc (Obj.cells #[.string y.key, .int .i64 y.leader, .slice xa y.waiters.length xc] 138) = W5 at *
         ((with_reducible refine hfi.out.mono ?_); rintro e w5 ⟨rfl, b5⟩)
         have hb5 := hid (b_call (b_call hb3.out hb4.out) b5)
         clear b5
         go_wp2_with fail
         go_ret
         exact ⟨ret_i hr.out.symm, hb5.out⟩
       rw [hz] at hfi
       have hr := hid (hnx.out hex)
       clear hbad hnx hex hz
       have hS := And.intro (box8f hq4.out).2.1 (box3f hqb.out).1
       go_wp2_with fail
       generalize wr.alloc (Obj.cells #[.string y.key, .int .i64 y.leader, .slice xa y.waiters.length xc] 138) = W5 at *
       ((with_reducible refine hfi.out.mono ?_); rintro e w5 ⟨rfl, b5⟩)
       have hb5 := hid (b_call hb4.out b5)
       clear b5
       go_wp2_with fail
       go_roundw
       case rel => exact ⟨k + 1, by omega, by go_num, hr, hb5⟩
       case measure => simp [intOf]; omega
     obtain rfl : k = fl.length := by omega
     have hr := hid (e4.out (fun ⟨y, hy, hex⟩ => by
      obtain ⟨j, hj⟩ := List.mem_iff_getElem?.1 hy
      exact hall.out j y (List.getElem?_eq_some_iff.1 hj).1 hj hex))
     clear hall
     go_wp2_with fail
     go_ret
     exact ⟨ret_i hr.out.symm, hbk.out⟩
   have hf' : (f != 0) = true := by simp [hf]
   have hd := hid (e2.out hf)
   replace hf := hid hf
   clear e2 e3 e4
   go_wp2_with fail
   go_ret
   exact ⟨ret_i hd.out.symm, hb3.out⟩
 have hc' : (c != 0) = true := by simp [hc]
 have hd := hid (e1.out hc)
 replace hc := hid hc
 clear e1 e2 e3 e4
 go_wp2_with fail
 go_ret
 exact ⟨ret_i hd.out.symm, hb2.out⟩
def box8 (w : World) (q : Nat) (u0 u1 u2 u3 u4 u5 u6 u7 : Value) : World :=
 (((((((w.setCell ⟨q, 0, none⟩ u0).setCell ⟨q, 1, none⟩ u1).setCell ⟨q, 2, none⟩ u2).setCell ⟨q, 3, none⟩ u3).setCell ⟨q, 4, none⟩ u4).setCell ⟨q, 5, none⟩ u5).setCell ⟨q, 6, none⟩ u6).setCell ⟨q, 7, none⟩ u7
theorem box8_set {w : World} {q : Nat} {a b c d e f g h u0 u1 u2 u3 u4 u5 u6 u7 : Value} {T : TypeId} (hq : w.heap[q]? = some (.cells #[a, b, c, d, e, f, g, h] T (0, 0))) :
 (box8 w q u0 u1 u2 u3 u4 u5 u6 u7).heap[q]? = some (.cells #[u0, u1, u2, u3, u4, u5, u6, u7] T (0, 0)) := by
 simp [box8, World.setCell, Array.getElem?_modify, hq]
theorem box8_keep {w : World} {q p : Nat} {u0 u1 u2 u3 u4 u5 u6 u7 : Value} {x : Obj} (hp : w.heap[p]? = some x) (hn : p ≠ q) : (box8 w q u0 u1 u2 u3 u4 u5 u6 u7).heap[p]? = some x :=
 box_other (box_other (box_other (box_other (box_other (box_other (box_other (box_other hp hn) hn) hn) hn) hn) hn) hn) hn
theorem OBlob.box8 {w : World} {B q : Nat} {v u0 u1 u2 u3 u4 u5 u6 u7 : Value} {l : List Blob} (h : OBlob w B v l) (hq : q < B) : OBlob (box8 w q u0 u1 u2 u3 u4 u5 u6 u7) B v l := (((((((h.set hq).set hq).set hq).set hq).set hq).set hq).set hq).set hq
theorem OEntry.box8 {w : World} {B q : Nat} {v u0 u1 u2 u3 u4 u5 u6 u7 : Value} {l : List Entry} (h : OEntry w B v l) (hq : q < B) : OEntry (box8 w q u0 u1 u2 u3 u4 u5 u6 u7) B v l := (((((((h.set hq).set hq).set hq).set hq).set hq).set hq).set hq).set hq
theorem OFlight.box8 {w : World} {B q : Nat} {v u0 u1 u2 u3 u4 u5 u6 u7 : Value} {l : List Flight} (h : OFlight w B v l) (hq : q < B) : OFlight (box8 w q u0 u1 u2 u3 u4 u5 u6 u7) B v l := (((((((h.set hq).set hq).set hq).set hq).set hq).set hq).set hq).set hq
theorem OS.box8 {α : Type} {e : TypeId} {s : Nat} {cells : α → List Value} {w : World} {B q : Nat} {v u0 u1 u2 u3 u4 u5 u6 u7 : Value} {l : List α} (h : OS e s cells w B v l) (hq : q < B) : OS e s cells (box8 w q u0 u1 u2 u3 u4 u5 u6 u7) B v l := (((((((h.setOld hq).setOld hq).setOld hq).setOld hq).setOld hq).setOld hq).setOld hq).setOld hq
theorem b_box8 {w w' : World} {q : Nat} (h : Below w.heap.size w w') (hq : w.heap.size ≤ q) (u0 u1 u2 u3 u4 u5 u6 u7 : Value) : Below w.heap.size w (box8 w' q u0 u1 u2 u3 u4 u5 u6 u7) :=
 b_set (p := ⟨q, 7, none⟩) (b_set (p := ⟨q, 6, none⟩) (b_set (p := ⟨q, 5, none⟩) (b_set (p := ⟨q, 4, none⟩) (b_set (p := ⟨q, 3, none⟩) (b_set (p := ⟨q, 2, none⟩) (b_set (p := ⟨q, 1, none⟩) (b_set (p := ⟨q, 0, none⟩) h hq u0) hq u1) hq u2) hq u3) hq u4) hq u5) hq u6) hq u7
def OwnedLoft (bs : List Blob) (es : List Entry) (r t ph : Int) (gy : List ByteArray) (pl : ByteArray) (fl : List Flight) (w : World) (e : Ending) (w' : World) : Prop :=
 ∃ v1 v2 v3 v4, e = .returned (.agg #[v1, v2, .int .i64 r, .int .i64 t, .int .i64 ph, v3, .string pl, v4]) ∧ OBlob w' w.heap.size v1 bs ∧ OEntry w' w.heap.size v2 es ∧ OS 9 1 cStr w' w.heap.size v3 gy ∧ OFlight w' w.heap.size v4 fl ∧ Below w.heap.size w w'
set_option maxRecDepth 100000 in
set_option maxHeartbeats 4000000 in
theorem exec_CopyO (v u gv fv : Value) (bs : List Blob) (es : List Entry) (r t ph : Int) (pl : ByteArray) (gy : List ByteArray) (fl : List Flight) (w : World) (h : RBl w v bs) (g : RE w u es) (hg : RT w gv gy) (hfl : RF w fv fl) :
 Calls Tryz.prog 217 #[.agg #[v, u, .int .i64 r, .int .i64 t, .int .i64 ph, gv, .string pl, fv]] w (OwnedLoft bs es r t ph gy pl fl w) := by
 have hR := hid h
 have hE := hid g
 have hG := hid hg
 have hF := hid hfl
 obtain ⟨a, c, rfl, -⟩ := h
 obtain ⟨a2, c2, rfl, -⟩ := g
 obtain ⟨ga, gc, rfl, -⟩ := hg
 obtain ⟨fa, fc, rfl, -⟩ := hfl
 obtain ⟨w1, hw1⟩ : ∃ w1 : World, w1 = (w.alloc (Obj.cells #[.slice a bs.length c, .slice a2 es.length c2, .int .i64 r, .int .i64 t, .int .i64 ph, .slice ga gy.length gc, .string pl, .slice fa fl.length fc] 35)).alloc (Obj.cells #[.slice none 0 0, .slice none 0 0, .int .i64 0, .int .i64 0, .int .i64 0, .slice none 0 0, .string ⟨#[]⟩, .slice none 0 0] 35) := ⟨_, rfl⟩
 have hb1 := hid (show Below w.heap.size w w1 by rw [hw1]; exact b_alloc (b_alloc (Below.refl _ _) _) _)
 have hq1 := hid (show w1.heap[w.heap.size]? = some (.cells #[.slice a bs.length c, .slice a2 es.length c2, .int .i64 r, .int .i64 t, .int .i64 ph, .slice ga gy.length gc, .string pl, .slice fa fl.length fc] 35 (0, 0)) by rw [hw1]; exact heap_alloc2_old w _ _)
 have hp1 := hid (show w1.heap[w.heap.size + 1]? = some (.cells #[.slice none 0 0, .slice none 0 0, .int .i64 0, .int .i64 0, .int .i64 0, .slice none 0 0, .string ⟨#[]⟩, .slice none 0 0] 35 (0, 0)) by rw [hw1]; exact heap_alloc2_new w _ _)
 have hl1 := (Array.getElem?_eq_some_iff.1 hq1.out).1
 have hm1 := (Array.getElem?_eq_some_iff.1 hp1.out).1
 go_enter Tryz.func217, Tryz.ntmps217
 go_wp2_with fail
 rw [← hw1]
 clear hw1
 have hS := box8f hq1.out
 go_region_held3 (fun w' => w'.cell? ⟨w.heap.size, 0, none⟩ = some (.slice a bs.length c) ∧ w'.cell? ⟨w.heap.size, 1, none⟩ = some (.slice a2 es.length c2) ∧ w'.cell? ⟨w.heap.size, 2, none⟩ = some (.int .i64 r) ∧ w'.cell? ⟨w.heap.size, 3, none⟩ = some (.int .i64 t) ∧ w'.cell? ⟨w.heap.size, 4, none⟩ = some (.int .i64 ph) ∧ w'.cell? ⟨w.heap.size, 5, none⟩ = some (.slice ga gy.length gc) ∧ w'.cell? ⟨w.heap.size, 6, none⟩ = some (.string pl) ∧ w'.cell? ⟨w.heap.size, 7, none⟩ = some (.slice fa fl.length fc))
  (first
    | go_keep
    | exact hS4
    | exact hS3
    | exact hS2
    | exact hS
    | exact hS5
    | fail)
  ((first
    | ((with_reducible refine (store_CopyO _ _ bs es r t w1.drew (hR.out.mono EBlob.stable hb1.out.drew) (hE.out.mono EEntry.stable hb1.out.drew)).mono ?_)
       rintro e w2 ⟨v1, v2, rfl, o1', o2', b2⟩
       have o1 : OBlob w2 w1.heap.size v1 bs := o1'
       have o2 : OEntry w2 w1.heap.size v2 es := o2'
       have hb2 : Below w.heap.size w w2 := b_call hb1.out.drew b2
       have hq2 := (b2.block w.heap.size hl1).trans hq1.out
       have hp2 := (b2.block (w.heap.size + 1) hm1).trans hp1.out
       have hS2 := box8f hq2
       obtain ⟨e1, k1, rfl⟩ := OX.lenOf (id o1)
       obtain ⟨e2, k2, rfl⟩ := OX.lenOf (id o2))
    | ((with_reducible refine (slices_Clone_str _ gy w2 (hG.out.mono EStr.stable hb2)).mono ?_)
       rintro e w3 ⟨v3, rfl, o3, b3⟩
       have hb3 : Below w.heap.size w w3 := b_call hb2 b3
       have hq3 := (b3.block w.heap.size (Array.getElem?_eq_some_iff.1 hq2).1).trans hq2
       have hp3 := (b3.block (w.heap.size + 1) (Array.getElem?_eq_some_iff.1 hp2).1).trans hp2
       have p1 := OBlob.after o1 b3
       have p2 := OEntry.after o2 b3
       have hS3 := box8f hq3
       obtain ⟨e3, k3, rfl, -⟩ := id (OS.len_le (id o3)))
    | ((with_reducible refine (flight_Copy _ fl w3 (hF.out.mono EFlight.stable hb3)).mono ?_)
       rintro e w4 ⟨rfl, o4, b4⟩
       have hb4 : Below w.heap.size w w4 := b_call hb3 b4
       have hq4 := (b4.block w.heap.size (Array.getElem?_eq_some_iff.1 hq3).1).trans hq3
       have hp4 := (b4.block (w.heap.size + 1) (Array.getElem?_eq_some_iff.1 hp3).1).trans hp3
       have q1 := OBlob.after p1 b4
       have q2 := OEntry.after p2 b4
       have q3 := OS.below o3 b4
       have g0 := frozen_heap hp4 0
       have g1 := frozen_heap hp4 1
       have g2 := frozen_heap hp4 2
       have g3 := frozen_heap hp4 3
       have g4 := frozen_heap hp4 4
       have g5 := frozen_heap hp4 5
       have g6 := frozen_heap hp4 6
       have g7 := frozen_heap hp4 7
       obtain ⟨z0, z1, z2, z3, z4, z5, z6, z7⟩ := box8f hp4
       have hS4 := box8f hq4
       have hS5 := box8f (box8_keep (q := w.heap.size + 1) (u0 := .slice e1 bs.length k1) (u1 := .slice e2 es.length k2) (u2 := .int .i64 r) (u3 := .int .i64 t) (u4 := .int .i64 ph) (u5 := .slice e3 gy.length k3) (u6 := .string pl) (u7 := .slice (some ⟨w3.heap.size, 0, none⟩) fl.length fl.length) hq4 (by omega)))
    | fail))
 have hs2 : w1.heap.size ≤ w2.heap.size := b2.size
 have hs3 : w2.heap.size ≤ w3.heap.size := b3.size
 have hp6 := box8_set (u0 := .slice e1 bs.length k1) (u1 := .slice e2 es.length k2) (u2 := .int .i64 r) (u3 := .int .i64 t) (u4 := .int .i64 ph) (u5 := .slice e3 gy.length k3) (u6 := .string pl) (u7 := .slice (some ⟨w3.heap.size, 0, none⟩) fl.length fl.length) hp4
 have ob6 := (OBlob.box8 (q := w.heap.size + 1) (u0 := .slice e1 bs.length k1) (u1 := .slice e2 es.length k2) (u2 := .int .i64 r) (u3 := .int .i64 t) (u4 := .int .i64 ph) (u5 := .slice e3 gy.length k3) (u6 := .string pl) (u7 := .slice (some ⟨w3.heap.size, 0, none⟩) fl.length fl.length) q1 hm1)
 have oe6 := (OEntry.box8 (q := w.heap.size + 1) (u0 := .slice e1 bs.length k1) (u1 := .slice e2 es.length k2) (u2 := .int .i64 r) (u3 := .int .i64 t) (u4 := .int .i64 ph) (u5 := .slice e3 gy.length k3) (u6 := .string pl) (u7 := .slice (some ⟨w3.heap.size, 0, none⟩) fl.length fl.length) q2 hm1)
 have os6 := (OS.box8 (q := w.heap.size + 1) (u0 := .slice e1 bs.length k1) (u1 := .slice e2 es.length k2) (u2 := .int .i64 r) (u3 := .int .i64 t) (u4 := .int .i64 ph) (u5 := .slice e3 gy.length k3) (u6 := .string pl) (u7 := .slice (some ⟨w3.heap.size, 0, none⟩) fl.length fl.length) q3 (by omega))
 have of6 := (OFlight.box8 (q := w.heap.size + 1) (u0 := .slice e1 bs.length k1) (u1 := .slice e2 es.length k2) (u2 := .int .i64 r) (u3 := .int .i64 t) (u4 := .int .i64 ph) (u5 := .slice e3 gy.length k3) (u6 := .string pl) (u7 := .slice (some ⟨w3.heap.size, 0, none⟩) fl.length fl.length) o4 (by omega))
 have hb6 := b_box8 (q := w.heap.size + 1) hb4 (Nat.le_succ _) (.slice e1 bs.length k1) (.slice e2 es.length k2) (.int .i64 r) (.int .i64 t) (.int .i64 ph) (.slice e3 gy.length k3) (.string pl) (.slice (some ⟨w3.heap.size, 0, none⟩) fl.length fl.length)
 obtain ⟨m0, m1, m2, m3, m4, m5, m6, m7⟩ := box8f hp6
 unfold box8 at *
 generalize (((((((w4.setCell ⟨w.heap.size + 1, 0, none⟩ (.slice e1 bs.length k1)).setCell ⟨w.heap.size + 1, 1, none⟩ (.slice e2 es.length k2)).setCell ⟨w.heap.size + 1, 2, none⟩ (.int .i64 r)).setCell ⟨w.heap.size + 1, 3, none⟩ (.int .i64 t)).setCell ⟨w.heap.size + 1, 4, none⟩ (.int .i64 ph)).setCell ⟨w.heap.size + 1, 5, none⟩ (.slice e3 gy.length k3)).setCell ⟨w.heap.size + 1, 6, none⟩ (.string pl)).setCell ⟨w.heap.size + 1, 7, none⟩ (.slice (some ⟨w3.heap.size, 0, none⟩) fl.length fl.length) = w9 at *
 go_wp2_with fail
 (try simp only [Exit.inBlock, Exit.then])
 refine bodyPost_ret (by simp [results, Tryz.results217, go_sem, m0, m1, m2, m3, m4, m5, m6, m7]; try rfl) rfl ?_
 exact ⟨_, _, _, _, rfl, ob6.low (by omega), oe6.low (by omega), os6.mono (by omega), of6.low (by omega), hb6⟩
open Go.Deep Go.ChangeShapes Go.WideShapes
structure Loft where
 store : Store
 coll : Coll
 flights : List Flight
noncomputable def loftF (bs : List Blob) (es : List Entry) (r t ph : Int) (gy : List ByteArray) (pl : ByteArray) (fl : List Flight) : Int := loftE (collF bs es r t ph gy pl) (flightsFault fl) es fl
theorem exec_Check (v u gv fv : Value) (bs : List Blob) (es : List Entry) (r t ph : Int) (pl : ByteArray) (gy : List ByteArray) (fl : List Flight) (w : World) (h : RBl w v bs) (g : RE w u es) (hg : RT w gv gy) (hfl : RF w fv fl) (hpl : pl.size ≤ 140737488351232) (hgl : gy.length ≤ 8388608) :
 Calls Tryz.prog 27 #[.agg #[v, u, .int .i64 r, .int .i64 t, .int .i64 ph, gv, .string pl, fv]] w fun e w' => e = .returned (.int .i64 (loftF bs es r t ph gy pl fl)) ∧ Below w.heap.size w w' :=
 exec_Check' v u gv fv bs es r t ph pl gy fl w h g hg hfl _ _ (fun w h g hg => collect_Check v u gv bs es r t ph pl gy w h g hg hpl hgl) (fun w h => flight_Check fv fl w h)
theorem OwnedLoft.reads {bs : List Blob} {es : List Entry} {r t ph : Int} {gy : List ByteArray} {pl : ByteArray} {fl : List Flight} {w : World} {v u gv fv : Value} (h : RBl w v bs) (g : RE w u es) (hg : RT w gv gy) (hfl : RF w fv fl) {e : Ending} {w' : World} (ho : OwnedLoft bs es r t ph gy pl fl w e w') :
 ∃ v1 v2 v3 v4, e = .returned (.agg #[v1, v2, .int .i64 r, .int .i64 t, .int .i64 ph, v3, .string pl, v4]) ∧ RBl w' v1 bs ∧ RE w' v2 es ∧ RT w' v3 gy ∧ RF w' v4 fl ∧ Below w.heap.size w w' := by
 obtain ⟨v1, v2, v3, v4, rfl, o1, o2, o3, o4, hb⟩ := ho
 have hf1 := fit_B h
 have hf2 := fit_E g
 have hf4 := fit_F hfl
 have hG := hg
 obtain ⟨_, _, _, -, -, hre, -⟩ := h
 obtain ⟨_, _, _, -, -, hre2, -⟩ := g
 obtain ⟨_, _, _, -, -, hre3, -⟩ := hg
 obtain ⟨_, _, _, -, -, hre4, -⟩ := hfl
 exact ⟨v1, v2, v3, v4, rfl, o1.toR hre hf1, o2.toR hre2 hf2, reads_str o3 (rt_bound hG) (rt_sizes hG), o4.toR hre4 hf4, hb⟩
end Go.Proofs.YtpkpgehiplhkpaaGreat
