/-
  Lofts: exec.Check, exec.Copy and the reference's; sameLoft; a loft as an argument; what an Upto bound gives of a collector and of a loft. (Lof, Lfc, Lfw, BulkC, BulkL in one.)
-/
import Derived.Test.YtpcnhldlfmdlhaaGreatDoorSxChc
import Derived.Test.YtpcnhldlfmdlhaaGreatDoorSxFlx
import Derived.Deep.RegionHeld3
import Derived.Test.YtpcnhldlfmdlhaaGreatDoorSxCnx
import Derived.Test.YtpcnhldlfmdlhaaGreatDoorSxStC
import Derived.Test.YtpcnhldlfmdlhaaGreatDoorSxOpC
import Derived.Test.YtpcnhldlfmdlhaaGreatDoorSxBulk
namespace Go.Proofs.YtpcnhldlfmdlhaaGreatDoor
open Go.RowKit Go.Maps

/-- A key is made and is there. -/
def clash (es : List Entry) (fl : List Flight) : Prop := ∃ f ∈ fl, ∃ x ∈ es, x.key = f.key
open Classical in
/-- What is wrong with a loft. -/
noncomputable def loftE (c f : Int) (es : List Entry) (fl : List Flight) : Int := if c ≠ 0 then c else if f ≠ 0 then f else if clash es fl then 12 else 0
theorem loft_c {c f : Int} {es : List Entry} {fl : List Flight} (h : c ≠ 0) : loftE c f es fl = c := if_pos h
theorem loft_f {c f : Int} {es : List Entry} {fl : List Flight} (h : c = 0) (h2 : f ≠ 0) : loftE c f es fl = f := by unfold loftE; rw [if_neg (by simp [h]), if_pos h2]
theorem loft_bad {c f : Int} {es : List Entry} {fl : List Flight} (h : c = 0) (h2 : f = 0) (h3 : clash es fl) : loftE c f es fl = 12 := by unfold loftE; rw [if_neg (by simp [h]), if_neg (by simp [h2]), if_pos h3]
theorem loft_ok {c f : Int} {es : List Entry} {fl : List Flight} (h : c = 0) (h2 : f = 0) (h3 : ¬ clash es fl) : loftE c f es fl = 0 := by unfold loftE; rw [if_neg (by simp [h]), if_neg (by simp [h2]), if_neg h3]
theorem atKey_in {α : Type} {f : α → ByteArray} {d : ByteArray} : ∀ {l : List α}, atKey f d l < l.length ↔ ∃ x ∈ l, f x = d
  | [] => by simp [atKey]
  | x :: l => by
    rw [atKey]
    split
    · rename_i h
      exact ⟨fun _ => ⟨x, List.mem_cons_self, key_eq.1 h⟩, fun _ => by simp⟩
    · rename_i h
      have ih := atKey_in (f := f) (d := d) (l := l)
      rw [List.length_cons, Nat.add_lt_add_iff_right, ih]
      constructor
      · rintro ⟨y, hy, he⟩
        exact ⟨y, List.mem_cons_of_mem _ hy, he⟩
      · rintro ⟨y, hy, he⟩
        rcases List.mem_cons.1 hy with rfl | hy
        · exact absurd (key_eq.2 he) h
        · exact ⟨y, hy, he⟩
theorem box8f {w : World} {b : Nat} {c0 c1 c2 c3 c4 c5 c6 c7 : Value} {T : TypeId} (h : w.heap[b]? = some (.cells #[c0, c1, c2, c3, c4, c5, c6, c7] T (0, 0))) :
    w.cell? ⟨b, 0, none⟩ = some c0 ∧ w.cell? ⟨b, 1, none⟩ = some c1 ∧ w.cell? ⟨b, 2, none⟩ = some c2 ∧ w.cell? ⟨b, 3, none⟩ = some c3 ∧ w.cell? ⟨b, 4, none⟩ = some c4 ∧ w.cell? ⟨b, 5, none⟩ = some c5 ∧ w.cell? ⟨b, 6, none⟩ = some c6 ∧ w.cell? ⟨b, 7, none⟩ = some c7 :=
  ⟨cell_of_row _ _ 0 _ _ _ h, cell_of_row _ _ 1 _ _ _ h, cell_of_row _ _ 2 _ _ _ h, cell_of_row _ _ 3 _ _ _ h, cell_of_row _ _ 4 _ _ _ h, cell_of_row _ _ 5 _ _ _ h, cell_of_row _ _ 6 _ _ _ h, cell_of_row _ _ 7 _ _ _ h⟩
theorem findE_cases (es : List Entry) (d : ByteArray) : (findE (fun x : Entry => x.key) d es = 0 ∧ ∃ x ∈ es, x.key = d) ∨ (findE (fun x : Entry => x.key) d es = 5 ∧ ¬ ∃ x ∈ es, x.key = d) := by
  have hle := atKey_le (fun x : Entry => x.key) d es
  unfold findE
  split
  · rename_i h
    exact .inr ⟨rfl, fun h2 => by have := (atKey_in (f := fun x : Entry => x.key)).2 h2; omega⟩
  · rename_i h
    exact .inl ⟨rfl, (atKey_in (f := fun x : Entry => x.key)).1 (by omega)⟩

set_option maxRecDepth 100000 in
set_option maxHeartbeats 4000000 in
theorem exec_Check' (v u gv fv : Value) (bs : List Blob) (es : List Entry) (r t ph : Int) (pl : ByteArray) (gy : List ByteArray) (fl : List Flight) (w : World) (h : RBl w v bs) (g : RE w u es) (hg : RT w gv gy) (hfl : RF w fv fl) (c f : Int)
    (hcc : ∀ w, RBl w v bs → RE w u es → RT w gv gy → Calls Tryz.prog 16 #[.agg #[v, u, .int .i64 r, .int .i64 t], .agg #[.int .i64 ph, gv, .string pl]] w fun e w' => e = .returned (.int .i64 c) ∧ Below w.heap.size w w')
    (hfc : ∀ w, RF w fv fl → Calls Tryz.prog 17 #[fv] w fun e w' => e = .returned (.int .i64 f) ∧ Below w.heap.size w w') :
    Calls Tryz.prog 9 #[.agg #[v, u, .int .i64 r, .int .i64 t, .int .i64 ph, gv, .string pl, fv]] w fun e w' => e = .returned (.int .i64 (loftE c f es fl)) ∧ Below w.heap.size w w' := by
  replace hcc := hid hcc
  replace hfc := hid hfc
  have hR := hid h
  have hE := hid g
  have hG := hid hg
  have hF := hid hfl
  have e1 := hid (@loft_c c f es fl)
  have e2 := hid (@loft_f c f es fl)
  have e3 := hid (@loft_bad c f es fl)
  have e4 := hid (@loft_ok c f es fl)
  generalize loftE c f es fl = z at *
  obtain ⟨a, cc, rfl, -⟩ := h
  obtain ⟨a2, c2, rfl, -⟩ := g
  obtain ⟨ga, gc, rfl, -⟩ := hg
  obtain ⟨fa, fc, rfl, hlc, hcm, hre, -, hat⟩ := hfl
  unfold maxLen at hcm
  replace hat := hid hat
  obtain ⟨w1, hw1⟩ : ∃ w1 : World, w1 = w.alloc (Obj.cells #[.slice a bs.length cc, .slice a2 es.length c2, .int .i64 r, .int .i64 t, .int .i64 ph, .slice ga gy.length gc, .string pl, .slice fa fl.length fc] 31) := ⟨_, rfl⟩
  have hb1 := hid (show Below w.heap.size w w1 by rw [hw1]; exact b_alloc (Below.refl _ _) _)
  have hq1 := hid (show w1.heap[w.heap.size]? = some (.cells #[.slice a bs.length cc, .slice a2 es.length c2, .int .i64 r, .int .i64 t, .int .i64 ph, .slice ga gy.length gc, .string pl, .slice fa fl.length fc] 31 (0, 0)) by rw [hw1]; exact heap_alloc_new w _)
  obtain ⟨x0, x1, x2, x3, x4, x5, x6, x7⟩ := box8f hq1.out
  go_enter Tryz.func9, Tryz.ntmps9
  go_wp2_with fail
  rw [← hw1]
  clear hw1
  ((with_reducible refine (hcc.out _ (hR.out.mono EBlob.stable hb1.out) (hE.out.mono EEntry.stable hb1.out) (hG.out.mono EStr.stable hb1.out)).mono ?_); rintro e w2 ⟨rfl, b2⟩)
  have hq2 := hid (stays b2 hq1.out)
  have hb2 := hid (b_call hb1.out b2)
  clear b2 hq1 hb1 x0 x1 x2 x3 x4 x5 x6 x7
  obtain ⟨x0, x1, x2, x3, x4, x5, x6, x7⟩ := box8f hq2.out
  by_cases hc : c = 0
  · replace e2 := hid (e2.out hc)
    replace e3 := hid (e3.out hc)
    replace e4 := hid (e4.out hc)
    subst hc
    clear e1
    go_wp2_with fail
    ((with_reducible refine (hfc.out _ (hF.out.mono EFlight.stable hb2.out)).mono ?_); rintro e w3 ⟨rfl, b3⟩)
    have hq3 := hid (stays b3 hq2.out)
    have hb3 := hid (b_call hb2.out b3)
    clear b3 hq2 hb2 x0 x1 x2 x3 x4 x5 x6 x7
    obtain ⟨x0, x1, x2, x3, x4, x5, x6, x7⟩ := box8f hq3.out
    by_cases hf : f = 0
    · replace e3 := hid (e3.out hf)
      replace e4 := hid (e4.out hf)
      subst hf
      clear e2
      go_wp2_with fail
      clear x0 x1 x2 x3 x4 x5 x6 x7
      go_loopw [6, 7, 8, 26] (fun _ _ _ i wr => ∃ k : Nat, k ≤ fl.length ∧ i = .int .i64 (k : Int) ∧ Hid (∀ j y, j < k → fl[j]? = some y → ¬ ∃ x ∈ es, x.key = y.key) ∧ Hid (Below w3.heap.size w3 wr)) (fun _ _ _ i _ => fl.length - (intOf i).toNat)
      case atStart => exact ⟨0, by omega, rfl, hid (fun j y hj => by omega), hid (Below.refl _ _)⟩
      case round =>
        obtain ⟨k, hk, rfl, hall, hbr⟩ := hrel
        have hbk := hid (b_call hb3.out hbr.out)
        have hsB := hbr.out.size
        have hqr := hid (stays hbr.out hq3.out)
        by_cases hlt : k < fl.length
        · have hn : fl[k]? = some fl[k] := List.getElem?_eq_getElem hlt
          generalize fl[k] = y at *
          obtain ⟨bb, off, rfl, hbb, pv, k0, k1, k2, rp, -⟩ := hat.out k _ hn
          have c0 := cell_stays hbk.out hbb k0
          have c1 := cell_stays hbk.out hbb k1
          have c2' := cell_stays hbk.out hbb k2
          have hbw : bb < wr.heap.size := Nat.lt_of_lt_of_le hbb hbk.out.size
          obtain ⟨xa, xc, rfl, -⟩ := rp
          have hb4 := hid (hbr.out.alloc hsB (Obj.cells #[.string y.key, .int .i64 y.leader, .slice xa y.waiters.length xc] 42))
          have hq4 := hid (stays hb4.out hq3.out)
          have hqb := hid (heap_alloc_new wr (Obj.cells #[.string y.key, .int .i64 y.leader, .slice xa y.waiters.length xc] 42))
          have hfi := hid (index_Find _ es y.key (wr.alloc (Obj.cells #[.string y.key, .int .i64 y.leader, .slice xa y.waiters.length xc] 42)) (hE.out.mono EEntry.stable (b_call hb3.out hb4.out)))
          have hbad := hid (fun h => e3.out ⟨y, List.mem_of_getElem? hn, h⟩)
          have hnx := hid (fun (h : ¬ ∃ x ∈ es, x.key = y.key) j y' (hj : j < k + 1) (hy : fl[j]? = some y') => (show ¬ ∃ x ∈ es, x.key = y'.key from by
            by_cases e : j = k
            · subst e
              rw [hn] at hy
              cases hy
              exact h
            · exact hall.out j y' (by omega) hy))
          obtain ⟨x0, x1, x2, x3, x4, x5, x6, x7⟩ := box8f hqr.out
          clear k0 k1 k2 hn hall
          rcases findE_cases es y.key with ⟨hz, hex⟩ | ⟨hz, hex⟩
          · rw [hz] at hfi
            have hr := hid (hbad.out hex)
            clear hbad hnx hex hz
            have hS := And.intro (box8f hq4.out).2.1 (box3f hqb.out).1
            go_wp2_with fail
            generalize wr.alloc (Obj.cells #[.string y.key, .int .i64 y.leader, .slice xa y.waiters.length xc] 42) = W5 at *
            ((with_reducible refine hfi.out.mono ?_); rintro e w5 ⟨rfl, b5⟩)
            have hb5 := hid (b_call (b_call hb3.out hb4.out) b5)
            clear b5
            go_wp2_with fail
            go_ret
            exact ⟨ret_i hr.out.symm, hb5.out⟩
          · rw [hz] at hfi
            have hr := hid (hnx.out hex)
            clear hbad hnx hex hz
            have hS := And.intro (box8f hq4.out).2.1 (box3f hqb.out).1
            go_wp2_with fail
            generalize wr.alloc (Obj.cells #[.string y.key, .int .i64 y.leader, .slice xa y.waiters.length xc] 42) = W5 at *
            ((with_reducible refine hfi.out.mono ?_); rintro e w5 ⟨rfl, b5⟩)
            have hb5 := hid (b_call hb4.out b5)
            clear b5
            go_wp2_with fail
            go_roundw
            case rel => exact ⟨k + 1, by omega, by go_num, hr, hb5⟩
            case measure => simp [intOf]; omega
        · obtain rfl : k = fl.length := by omega
          have hr := hid (e4.out (fun ⟨y, hy, hex⟩ => by
            obtain ⟨j, hj⟩ := List.mem_iff_getElem?.1 hy
            exact hall.out j y (List.getElem?_eq_some_iff.1 hj).1 hj hex))
          clear hall
          go_wp2_with fail
          go_ret
          exact ⟨ret_i hr.out.symm, hbk.out⟩
    · have hf' : (f != 0) = true := by simp [hf]
      have hd := hid (e2.out hf)
      replace hf := hid hf
      clear e2 e3 e4
      go_wp2_with fail
      go_ret
      exact ⟨ret_i hd.out.symm, hb3.out⟩
  · have hc' : (c != 0) = true := by simp [hc]
    have hd := hid (e1.out hc)
    replace hc := hid hc
    clear e1 e2 e3 e4
    go_wp2_with fail
    go_ret
    exact ⟨ret_i hd.out.symm, hb2.out⟩

set_option maxRecDepth 100000 in
set_option maxHeartbeats 4000000 in
theorem ref_LoftFault' (v u gv fv : Value) (bs : List Blob) (es : List Entry) (r t ph : Int) (pl : ByteArray) (gy : List ByteArray) (fl : List Flight) (w : World) (h : RBl w v bs) (g : RE w u es) (hg : RT w gv gy) (hfl : RF w fv fl) (c f : Int)
    (hcc : ∀ w, RBl w v bs → RE w u es → RT w gv gy → Calls Tryz.prog 20 #[.agg #[v, u, .int .i64 r, .int .i64 t], .agg #[.int .i64 ph, gv, .string pl]] w fun e w' => e = .returned (.int .i64 c) ∧ Below w.heap.size w w')
    (hfc : ∀ w, RF w fv fl → Calls Tryz.prog 21 #[fv] w fun e w' => e = .returned (.int .i64 f) ∧ Below w.heap.size w w') :
    Calls Tryz.prog 13 #[.agg #[v, u, .int .i64 r, .int .i64 t, .int .i64 ph, gv, .string pl, fv]] w fun e w' => e = .returned (.int .i64 (loftE c f es fl)) ∧ Below w.heap.size w w' := by
  replace hcc := hid hcc
  replace hfc := hid hfc
  have hR := hid h
  have hE := hid g
  have hG := hid hg
  have hF := hid hfl
  have e1 := hid (@loft_c c f es fl)
  have e2 := hid (@loft_f c f es fl)
  have e3 := hid (@loft_bad c f es fl)
  have e4 := hid (@loft_ok c f es fl)
  generalize loftE c f es fl = z at *
  obtain ⟨a, cc, rfl, -⟩ := h
  obtain ⟨a2, c2, rfl, hlc, hcm, hre, -, hat⟩ := g
  obtain ⟨ga, gc, rfl, -⟩ := hg
  obtain ⟨fa, fc, rfl, -⟩ := hfl
  unfold maxLen at hcm
  replace hat := hid hat
  obtain ⟨w1, hw1⟩ : ∃ w1 : World, w1 = w.alloc (Obj.cells #[.slice a bs.length cc, .slice a2 es.length c2, .int .i64 r, .int .i64 t, .int .i64 ph, .slice ga gy.length gc, .string pl, .slice fa fl.length fc] 31) := ⟨_, rfl⟩
  have hb1 := hid (show Below w.heap.size w w1 by rw [hw1]; exact b_alloc (Below.refl _ _) _)
  have hq1 := hid (show w1.heap[w.heap.size]? = some (.cells #[.slice a bs.length cc, .slice a2 es.length c2, .int .i64 r, .int .i64 t, .int .i64 ph, .slice ga gy.length gc, .string pl, .slice fa fl.length fc] 31 (0, 0)) by rw [hw1]; exact heap_alloc_new w _)
  obtain ⟨x0, x1, x2, x3, x4, x5, x6, x7⟩ := box8f hq1.out
  go_enter Tryz.func13, Tryz.ntmps13
  go_wp2_with fail
  rw [← hw1]
  clear hw1
  ((with_reducible refine (hcc.out _ (hR.out.mono EBlob.stable hb1.out) (hE.out.mono EEntry.stable hb1.out) (hG.out.mono EStr.stable hb1.out)).mono ?_); rintro e w2 ⟨rfl, b2⟩)
  have hq2 := hid (stays b2 hq1.out)
  have hb2 := hid (b_call hb1.out b2)
  clear b2 hq1 hb1 x0 x1 x2 x3 x4 x5 x6 x7
  obtain ⟨x0, x1, x2, x3, x4, x5, x6, x7⟩ := box8f hq2.out
  by_cases hc : c = 0
  · replace e2 := hid (e2.out hc)
    replace e3 := hid (e3.out hc)
    replace e4 := hid (e4.out hc)
    subst hc
    clear e1
    go_wp2_with fail
    ((with_reducible refine (hfc.out _ (hF.out.mono EFlight.stable hb2.out)).mono ?_); rintro e w3 ⟨rfl, b3⟩)
    have hq3 := hid (stays b3 hq2.out)
    have hb3 := hid (b_call hb2.out b3)
    clear b3 hq2 hb2 x0 x1 x2 x3 x4 x5 x6 x7
    obtain ⟨x0, x1, x2, x3, x4, x5, x6, x7⟩ := box8f hq3.out
    by_cases hf : f = 0
    · replace e3 := hid (e3.out hf)
      replace e4 := hid (e4.out hf)
      subst hf
      clear e2
      go_wp2_with fail
      clear x0 x1 x2 x3 x4 x5 x6 x7
      go_loopw [6, 25] (fun _ i wr => ∃ k : Nat, k ≤ es.length ∧ i = .int .i64 (k : Int) ∧ Hid (∀ j y, j < k → es[j]? = some y → ¬ ∃ x ∈ fl, x.key = y.key) ∧ Hid (Below w3.heap.size w3 wr)) (fun _ i _ => es.length - (intOf i).toNat)
      case atStart => exact ⟨0, by omega, rfl, hid (fun j y hj => by omega), hid (Below.refl _ _)⟩
      case round =>
        obtain ⟨k, hk, rfl, hall, hbr⟩ := hrel
        have hbk := hid (b_call hb3.out hbr.out)
        have hsB := hbr.out.size
        by_cases hlt : k < es.length
        · have hn : es[k]? = some es[k] := List.getElem?_eq_getElem hlt
          generalize es[k] = y at *
          obtain ⟨bb, off, rfl, hbb, pv, k0, k1, k2, k3, rp, -⟩ := hat.out k _ hn
          have c0 := cell_stays hbk.out hbb k0
          have c1 := cell_stays hbk.out hbb k1
          have c2' := cell_stays hbk.out hbb k2
          have c3 := cell_stays hbk.out hbb k3
          have hbw : bb < wr.heap.size := Nat.lt_of_lt_of_le hbb hbk.out.size
          obtain ⟨xa, xc, rfl, -⟩ := rp
          have hb4 := hid (hbr.out.alloc hsB (Obj.cells #[.string y.key, .slice xa y.parts.length xc, .int .i64 y.pins, .int .i64 y.stamp] 57))
          have hq4 := hid (stays hb4.out hq3.out)
          have hqb := hid (heap_alloc_new wr (Obj.cells #[.string y.key, .slice xa y.parts.length xc, .int .i64 y.pins, .int .i64 y.stamp] 57))
          have hfi := hid (fun W (h : Below w3.heap.size w3 W) => ref_FlightAt _ fl y.key W (hF.out.mono EFlight.stable (b_call hb3.out h)))
          have hin := atKey_in (f := fun x : Flight => x.key) (d := y.key) (l := fl)
          have hbad := hid (fun (h : ∃ x ∈ fl, x.key = y.key) => e3.out (by obtain ⟨x, hx, he⟩ := h; exact ⟨x, hx, y, List.mem_of_getElem? hn, he.symm⟩))
          have hnx := hid (fun (h : ¬ ∃ x ∈ fl, x.key = y.key) j y' (hj : j < k + 1) (hy : es[j]? = some y') => (show ¬ ∃ x ∈ fl, x.key = y'.key from by
            by_cases e : j = k
            · subst e
              rw [hn] at hy
              cases hy
              exact h
            · exact hall.out j y' (by omega) hy))
          clear k0 k1 k2 k3 hn hall
          generalize atKey (fun x : Flight => x.key) y.key fl = i at *
          by_cases hi : i < fl.length
          · have hr := hid (hbad.out (hin.1 hi))
            have d1 : decide ((i : Int) < (fl.length : Int)) = true := decide_eq_true (by omega)
            have d2 : decide (i < fl.length) = true := decide_eq_true hi
            clear hbad hnx hin
            replace hi := hid hi
            have hS := And.intro (box8f hq4.out).2.2.2.2.2.2.2 (box4f hqb.out).1
            go_wp2_with fail
            generalize wr.alloc (Obj.cells #[.string y.key, .slice xa y.parts.length xc, .int .i64 y.pins, .int .i64 y.stamp] 57) = W5 at *
            go_region_held3 (fun w' => w'.cell? ⟨w.heap.size, 7, none⟩ = some (.slice fa fl.length fc) ∧ w'.cell? ⟨wr.heap.size, 0, none⟩ = some (.string y.key))
              (first | exact hS | go_keep | fail)
              ((first
                | ((with_reducible refine (hfi.out _ hb4.out.drew).mono ?_)
                   rintro e w6 ⟨rfl, rfl⟩)
                | fail))
            go_wp2_with fail
            go_ret
            exact ⟨ret_i hr.out.symm, (b_call hb3.out hb4.out).drew⟩
          · have hr := hid (hnx.out (fun h => hi (hin.2 h)))
            have d1 : decide ((i : Int) < (fl.length : Int)) = false := decide_eq_false (by omega)
            have d2 : decide (i < fl.length) = false := decide_eq_false hi
            have hb9 := hid hb4.out.drew
            clear hbad hnx hin
            replace hi := hid hi
            have hS := And.intro (box8f hq4.out).2.2.2.2.2.2.2 (box4f hqb.out).1
            go_wp2_with fail
            generalize wr.alloc (Obj.cells #[.string y.key, .slice xa y.parts.length xc, .int .i64 y.pins, .int .i64 y.stamp] 57) = W5 at *
            go_region_held3 (fun w' => w'.cell? ⟨w.heap.size, 7, none⟩ = some (.slice fa fl.length fc) ∧ w'.cell? ⟨wr.heap.size, 0, none⟩ = some (.string y.key))
              (first | exact hS | go_keep | fail)
              ((first
                | ((with_reducible refine (hfi.out _ hb4.out.drew).mono ?_)
                   rintro e w6 ⟨rfl, rfl⟩)
                | fail))
            go_wp2_with fail
            go_roundw
            case rel => exact ⟨k + 1, by omega, by go_num, hr, hb9⟩
            case measure => simp [intOf]; omega
        · obtain rfl : k = es.length := by omega
          have hr := hid (e4.out (fun ⟨x, hx, y, hy, he⟩ => by
            obtain ⟨j, hj⟩ := List.mem_iff_getElem?.1 hy
            exact hall.out j y (List.getElem?_eq_some_iff.1 hj).1 hj ⟨x, hx, he.symm⟩))
          clear hall
          go_wp2_with fail
          go_ret
          exact ⟨ret_i hr.out.symm, hbk.out⟩
    · have hf' : (f != 0) = true := by simp [hf]
      have hd := hid (e2.out hf)
      replace hf := hid hf
      clear e2 e3 e4
      go_wp2_with fail
      go_ret
      exact ⟨ret_i hd.out.symm, hb3.out⟩
  · have hc' : (c != 0) = true := by simp [hc]
    have hd := hid (e1.out hc)
    replace hc := hid hc
    clear e1 e2 e3 e4
    go_wp2_with fail
    go_ret
    exact ⟨ret_i hd.out.symm, hb2.out⟩
end Go.Proofs.YtpcnhldlfmdlhaaGreatDoor

namespace Go.Proofs.YtpcnhldlfmdlhaaGreatDoor
open Go.RowKit Go.Maps


/-- A loft that the call has made: its rows are the call's own. -/
def OwnedLoft (bs : List Blob) (es : List Entry) (r t ph : Int) (gy : List ByteArray) (pl : ByteArray) (fl : List Flight) (w : World) (e : Ending) (w' : World) : Prop :=
  ∃ v1 v2 v3 v4, e = .returned (.agg #[v1, v2, .int .i64 r, .int .i64 t, .int .i64 ph, v3, .string pl, v4]) ∧ OBlob w' w.heap.size v1 bs ∧ OEntry w' w.heap.size v2 es ∧ OS 9 1 cStr w' w.heap.size v3 gy ∧ OFlight w' w.heap.size v4 fl ∧ Below w.heap.size w w'

end Go.Proofs.YtpcnhldlfmdlhaaGreatDoor

namespace Go.Proofs.YtpcnhldlfmdlhaaGreatDoor
open Go.RowKit Go.Deep Go.ChangeShapes Go.WideShapes

structure Loft where
  store : Store
  coll : Coll
  flights : List Flight
def VLoft (w : World) (cs : List Value) (x : Loft) : Prop :=
  ∃ bv ev gv fv, cs = [bv, ev, .int .i64 x.store.room, .int .i64 x.store.clock, .int .i64 x.coll.phase, gv, .string x.coll.place, fv] ∧ RBl w bv x.store.blobs ∧ RE w ev x.store.entries ∧ RT w gv x.coll.grey ∧ RF w fv x.flights ∧
    x.coll.place.size ≤ 140737488351232 ∧ (Lit.int .i64 x.store.room).wf = true ∧ (Lit.int .i64 x.store.clock).wf = true ∧ (Lit.int .i64 x.coll.phase).wf = true
theorem opens_loft {P : Program} {t : TypeId} {f0 f1 f2 : Field} (ht : P.underlying t = some (.struct #[f0, f1, f2]))
    (ho : f0.offset = 0 ∧ f1.offset = 4 ∧ f2.offset = 7) (hc : P.cellsOf t = 8) (hs : P.cellsOf f0.type = 4 ∧ P.cellsOf f1.type = 3 ∧ P.cellsOf f2.type = 1)
    (h0 : Opens P f0.type VStore) (h1 : Opens P f1.type VColl) (h2 : Opens P f2.type (VSl 3 48 EFlight)) : Opens P t VLoft := by
  intro H enc w n cs x h hw
  obtain ⟨y0, y1, y2, n', rfl, hl, g0, g1, g2⟩ := trod_struct3 ht h
  rw [ho.1, hs.1] at g0
  rw [ho.2.1, hs.2.1] at g1
  rw [ho.2.2, hs.2.2] at g2
  rw [hc] at hl
  match cs, hl with
  | [c0, c1, c2, c3, c4, c5, c6, c7], _ =>
    simp only [List.drop_zero, List.drop_succ_cons, List.take_succ_cons, List.take_zero] at g0 g1 g2
    have hww : ∀ m, m ∈ DataW.weightsEach P [f0.type, f1.type, f2.type] [y0.1, y1.1, y2.1] → m ≤ reachBytes := fun m hm => hw m (by rw [DataW.weights, ht]; exact hm)
    simp only [DataW.weightsEach, List.append_nil, List.mem_append] at hww
    obtain ⟨a0, bv, ev, e0, rb, re, w0, w1⟩ := h0 H enc w n' _ _ g0 (fun m hm => hww m (.inl hm))
    obtain ⟨a1, gv, e1, rg, sp, w2⟩ := h1 H enc w n' _ _ g1 (fun m hm => hww m (.inr (.inl hm)))
    obtain ⟨a2, fv, e2, rf⟩ := h2 H enc w n' _ _ g2 (fun m hm => hww m (.inr (.inr hm)))
    simp only [List.cons.injEq, and_true] at e0 e1 e2
    obtain ⟨rfl, rfl, rfl, rfl⟩ := e0
    obtain ⟨rfl, rfl, rfl⟩ := e1
    subst e2
    exact ⟨⟨a0, a1, a2⟩, _, _, _, _, rfl, rb, re, rg, rf, sp, w0, w1, w2⟩
end Go.Proofs.YtpcnhldlfmdlhaaGreatDoor

namespace Go.Proofs.YtpcnhldlfmdlhaaGreatDoor
open Go.RowKit
/-- What is wrong with a loft. -/
noncomputable def loftF (bs : List Blob) (es : List Entry) (r t ph : Int) (gy : List ByteArray) (pl : ByteArray) (fl : List Flight) : Int := loftE (collF bs es r t ph gy pl) (flightsFault fl) es fl
theorem exec_Check (v u gv fv : Value) (bs : List Blob) (es : List Entry) (r t ph : Int) (pl : ByteArray) (gy : List ByteArray) (fl : List Flight) (w : World) (h : RBl w v bs) (g : RE w u es) (hg : RT w gv gy) (hfl : RF w fv fl) (hpl : pl.size ≤ 140737488351232) (hgl : gy.length ≤ 8388608) :
    Calls Tryz.prog 9 #[.agg #[v, u, .int .i64 r, .int .i64 t, .int .i64 ph, gv, .string pl, fv]] w fun e w' => e = .returned (.int .i64 (loftF bs es r t ph gy pl fl)) ∧ Below w.heap.size w w' :=
  exec_Check' v u gv fv bs es r t ph pl gy fl w h g hg hfl _ _ (fun w h g hg => collect_Check v u gv bs es r t ph pl gy w h g hg hpl hgl) (fun w h => flight_Check fv fl w h)
theorem ref_LoftFault (v u gv fv : Value) (bs : List Blob) (es : List Entry) (r t ph : Int) (pl : ByteArray) (gy : List ByteArray) (fl : List Flight) (w : World) (h : RBl w v bs) (g : RE w u es) (hg : RT w gv gy) (hfl : RF w fv fl) (hpl : pl.size ≤ 140737488351232) (hgl : gy.length ≤ 8388608) :
    Calls Tryz.prog 13 #[.agg #[v, u, .int .i64 r, .int .i64 t, .int .i64 ph, gv, .string pl, fv]] w fun e w' => e = .returned (.int .i64 (loftF bs es r t ph gy pl fl)) ∧ Below w.heap.size w w' :=
  ref_LoftFault' v u gv fv bs es r t ph pl gy fl w h g hg hfl _ _ (fun w h g hg => ref_CollectFault v u gv bs es r t ph pl gy w h g hg hpl hgl) (fun w h => ref_FlightsFault fv fl w h)
theorem OwnedLoft.reads {bs : List Blob} {es : List Entry} {r t ph : Int} {gy : List ByteArray} {pl : ByteArray} {fl : List Flight} {w : World} {v u gv fv : Value} (h : RBl w v bs) (g : RE w u es) (hg : RT w gv gy) (hfl : RF w fv fl) {e : Ending} {w' : World} (ho : OwnedLoft bs es r t ph gy pl fl w e w') :
    ∃ v1 v2 v3 v4, e = .returned (.agg #[v1, v2, .int .i64 r, .int .i64 t, .int .i64 ph, v3, .string pl, v4]) ∧ RBl w' v1 bs ∧ RE w' v2 es ∧ RT w' v3 gy ∧ RF w' v4 fl ∧ Below w.heap.size w w' := by
  obtain ⟨v1, v2, v3, v4, rfl, o1, o2, o3, o4, hb⟩ := ho
  have hf1 := fit_B h
  have hf2 := fit_E g
  have hf4 := fit_F hfl
  have hG := hg
  obtain ⟨_, _, _, -, -, hre, -⟩ := h
  obtain ⟨_, _, _, -, -, hre2, -⟩ := g
  obtain ⟨_, _, _, -, -, hre3, -⟩ := hg
  obtain ⟨_, _, _, -, -, hre4, -⟩ := hfl
  exact ⟨v1, v2, v3, v4, rfl, o1.toR hre hf1, o2.toR hre2 hf2, reads_str o3 (rt_bound hG) (rt_sizes hG), o4.toR hre4 hf4, hb⟩

end Go.Proofs.YtpcnhldlfmdlhaaGreatDoor

namespace Go.Proofs.YtpcnhldlfmdlhaaGreatDoor
open Go.RowKit Go.Deep Go.ChangeShapes Go.WideShapes

theorem bulk_coll {H : Type} {enc : TypeId × Value → H} {P : Program} {w : World} {t eb : TypeId} {f0 f1 f2 : Field} {cs : Array Value} {x : Coll} {d : DataW H} {ps : List MemPlace} (ht : P.underlying t = some (.struct #[f0, f1, f2]))
    (ho : f1.offset = 1) (hs : P.cellsOf f1.type = 1) (hb : P.underlying f1.type = some (.slice eb))
    (hx : VColl w cs.toList x) (h : DataW.Trod enc P w 0 (fun _ => true) true t (.agg cs) d ps) : x.grey.length ≤ Rows.uptoBulk d := by
  obtain ⟨n, hn⟩ := h
  obtain ⟨gv, hcs, hg, -⟩ := hx
  have hcc : (Value.agg cs).cells.toList = [.int .i64 x.phase, gv, .string x.place] := by
    rw [← hcs]
    rfl
  rw [hcc] at hn
  obtain ⟨xs, n2, _, hD, hl2, hlen2, hf⟩ := DataW.trod_struct ht hn
  match xs, hlen2 with
  | [y0, y1, y2], _ =>
    have q1 := hf 1 f1 rfl
    rw [ho, hs] at q1
    obtain ⟨ga, gc, rfl, -⟩ := hg
    have h0 := bulk_slice (d := y1.1) (ps := y1.2) hb ⟨n2, q1⟩
    simp only [Prod.mk.injEq] at hD
    rw [hD.1]
    simp only [List.map_cons, List.map_nil, Rows.uptoBulk, Rows.uptoBulkAll]
    omega
end Go.Proofs.YtpcnhldlfmdlhaaGreatDoor

namespace Go.Proofs.YtpcnhldlfmdlhaaGreatDoor
open Go.RowKit Go.Deep Go.ChangeShapes Go.WideShapes

theorem bulk_loft {H : Type} {enc : TypeId × Value → H} {P : Program} {w : World} {t eb : TypeId} {f0 f1 f2 k0 k1 k2 : Field} {cs : Array Value} {x : Loft} {d : DataW H} {ps : List MemPlace} (ht : P.underlying t = some (.struct #[f0, f1, f2]))
    (ho : f1.offset = 4) (hs : P.cellsOf f1.type = 3) (ht' : P.underlying f1.type = some (.struct #[k0, k1, k2])) (ho' : k1.offset = 1) (hs' : P.cellsOf k1.type = 1) (hb : P.underlying k1.type = some (.slice eb))
    (hx : VLoft w cs.toList x) (h : DataW.Trod enc P w 0 (fun _ => true) true t (.agg cs) d ps) : x.coll.grey.length ≤ Rows.uptoBulk d := by
  obtain ⟨n, hn⟩ := h
  obtain ⟨bv, ev, gv, fv, hcs, -, -, hg, -, hpl, -, -, hw⟩ := hx
  have hcc : (Value.agg cs).cells.toList = [bv, ev, .int .i64 x.store.room, .int .i64 x.store.clock, .int .i64 x.coll.phase, gv, .string x.coll.place, fv] := by
    rw [← hcs]
    rfl
  rw [hcc] at hn
  obtain ⟨xs, n2, _, hD, hl2, hlen2, hf⟩ := DataW.trod_struct ht hn
  match xs, hlen2 with
  | [y0, y1, y2], _ =>
    have q1 := hf 1 f1 rfl
    rw [ho, hs] at q1
    have h0 := bulk_coll (cs := #[.int .i64 x.coll.phase, gv, .string x.coll.place]) (x := x.coll) (d := y1.1) (ps := y1.2) ht' ho' hs' hb ⟨gv, rfl, hg, hpl, hw⟩ ⟨n2, q1⟩
    simp only [Prod.mk.injEq] at hD
    rw [hD.1]
    simp only [List.map_cons, List.map_nil, Rows.uptoBulk, Rows.uptoBulkAll]
    omega
end Go.Proofs.YtpcnhldlfmdlhaaGreatDoor
