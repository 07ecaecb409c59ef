/-
  evict.Waste and the reference's Wasted: what they answer.
-/
import Derived.Test.YtojebioolflbkaaGreatRtW
import Derived.Test.YtojebioolflbkaaGreatCoL
import Derived.Test.YtojebioolflbkaaGreatShelf
import Derived.OwnWalk
import Derived.IntWalk
namespace Go.Proofs.YtojebioolflbkaaGreat
open Go.RowKit Go.Maps

open Classical in
/-- All that digests come to. -/
noncomputable def comesOf (l : List Blob) (ds : List ByteArray) : List ByteArray := if h : ∃ L, Comes l ds L then Classical.choose h else []
theorem Comes.eq {l : List Blob} {ds L : List ByteArray} (h : Comes l ds L) : L = comesOf l ds := by
  have hx : ∃ L, Comes l ds L := ⟨L, h⟩
  unfold comesOf
  rw [dif_pos hx]
  exact h.only (Classical.choose_spec hx)
/-- All that a store comes to. -/
noncomputable def allOf (bs : List Blob) (es : List Entry) : List ByteArray := comesOf bs (rootsL bs es)
def AllPost (bs : List Blob) (L : List ByteArray) (w : World) (e : Ending) (w' : World) : Prop :=
  ∃ v, e = .returned v ∧ L.length ≤ bs.length ∧ RT w' v L ∧ OS 9 1 cStr w' w.heap.size v L ∧ Below w.heap.size w w'
theorem FromPost.all {l : List Blob} {ds : List ByteArray} {w w' : World} {e : Ending} (h : FromPost l ds w e w') : AllPost l (comesOf l ds) w e w' := by
  obtain ⟨v, L, h1, h2, h3, -, h5, h6, h7⟩ := h
  obtain rfl := h2.eq
  exact ⟨v, h1, h3, h5, h6, h7⟩
theorem FromPost.comes {l : List Blob} {ds : List ByteArray} {w w' : World} {e : Ending} (h : FromPost l ds w e w') : Comes l ds (comesOf l ds) := by
  obtain ⟨v, L, h1, h2, -⟩ := h
  obtain rfl := h2.eq
  exact h2
/-- The digests of blobs that are not among texts. -/
def wasteIn (L : List ByteArray) (bs : List Blob) : List ByteArray := (bs.filter (fun x => !isIn x.digest L)).map (·.digest)
theorem waste_yes {L : List ByteArray} {bs : List Blob} {j : Nat} {x : Blob} (h : bs.take (j + 1) = bs.take j ++ [x]) (hp : isIn x.digest L = false) : wasteIn L (bs.take (j + 1)) = wasteIn L (bs.take j) ++ [x.digest] := by
  unfold wasteIn
  rw [h, List.filter_append]
  simp [hp]
theorem waste_no {L : List ByteArray} {bs : List Blob} {j : Nat} {x : Blob} (h : bs.take (j + 1) = bs.take j ++ [x]) (hp : isIn x.digest L = true) : wasteIn L (bs.take (j + 1)) = wasteIn L (bs.take j) := by
  unfold wasteIn
  rw [h, List.filter_append]
  simp [hp]
theorem waste_len (L : List ByteArray) (bs : List Blob) : (wasteIn L bs).length ≤ bs.length := by
  unfold wasteIn
  rw [List.length_map]
  exact List.length_filter_le _ _
theorem waste_size {L : List ByteArray} {bs : List Blob} (hb : ∀ x ∈ bs, FitBlob x) : ∀ x ∈ wasteIn L bs, x.size ≤ 140737488351232 := fun x hx => by
  obtain ⟨y, hy, rfl⟩ := List.mem_map.1 hx
  exact (hb y (List.mem_filter.1 hy).1).1.1
def WastePost (z : Int) (W : List ByteArray) (w : World) (e : Ending) (w' : World) : Prop :=
  ∃ v, e = .returned (.tuple #[v, .int .i64 z]) ∧ RT w' v (if z = 0 then W else []) ∧ Below w.heap.size w w'

theorem wst_no {z : Int} {W : List ByteArray} {w w' : World} (h : z ≠ 0) (hb : Below w.heap.size w w') : WastePost z W w (.returned (.tuple #[.slice none 0 0, .int .i64 z])) w' := ⟨_, rfl, by rw [if_neg h]; exact RS.nil, hb⟩
theorem wst_ok {W : List ByteArray} {v : Value} {w w' : World} (h : RT w' v W) (hb : Below w.heap.size w w') : WastePost 0 W w (.returned (.tuple #[v, .int .i64 0])) w' := ⟨_, rfl, by rw [if_pos rfl]; exact h, hb⟩
theorem getD_at {l : List ByteArray} {j : Nat} (h : j < l.length) : l.getD j ByteArray.empty = l[j] := by rw [List.getD_eq_getElem?_getD, List.getElem?_eq_getElem h]; rfl
theorem containsS_isIn (l : List ByteArray) (s : ByteArray) : Lib.containsS l s = isIn s l := by
  rw [Bool.eq_iff_iff, isIn_iff]
  exact Lib.containsS_iff l s
theorem slices_Contains_str (v : Value) (l : List ByteArray) (s : ByteArray) (w : World) (h : RT w v l) :
    Calls Tryz.prog 50 #[v, .string s] w fun e w' => e = .returned (.bool (isIn s l)) ∧ w' = w := by
  have hb := rt_bound h
  have hT := h
  obtain ⟨a, c, rfl, -, -, -, hno, hat⟩ := h
  cases hl : l with
  | nil =>
    refine (Tryz.slices_Contains_string_empty a c s w).mono ?_
    rintro e w' ⟨rfl, rfl⟩
    exact ⟨rfl, rfl⟩
  | cons x l' =>
    rw [← hl]
    have h0 : l[0]? = some x := by rw [hl]; rfl
    obtain ⟨b, off, rfl, -⟩ := hat 0 x h0
    have hc : ∀ j, j < l.length → w.cell? ⟨b, off + j, none⟩ = some (.string (l.getD j ByteArray.empty)) := fun j hj => by
      obtain ⟨b', off', hab, -, he⟩ := hat j l[j] (List.getElem?_eq_getElem hj)
      simp only [Option.some.injEq, Addr.mk.injEq, and_true] at hab
      obtain ⟨rfl, rfl⟩ := hab
      rw [getD_at hj]
      have := he.1
      rwa [Nat.mul_one] at this
    refine (Tryz.slices_Contains_string b off l.length c l s w (Nat.le_refl _) (by omega) hc).mono ?_
    rintro e w' ⟨rfl, rfl⟩
    rw [List.take_length, containsS_isIn]
    exact ⟨rfl, rfl⟩

set_option maxRecDepth 100000 in
set_option maxHeartbeats 4000000 in
theorem evict_Waste' (v u : Value) (bs : List Blob) (es : List Entry) (r t : Int) (w : World) (h : RBl w v bs) (g : RE w u es) (z : Int) (L : List ByteArray)
    (hch : ∀ w, RBl w v bs → RE w u es → Calls Tryz.prog 35 #[.agg #[v, u, .int .i64 r, .int .i64 t]] w fun e w' => e = .returned (.int .i64 z) ∧ Below w.heap.size w w')
    (hal : z = 0 → ∀ w, RBl w v bs → RE w u es → Calls Tryz.prog 49 #[.agg #[v, u, .int .i64 r, .int .i64 t]] w (AllPost bs L w)) :
    Calls Tryz.prog 18 #[.agg #[v, u, .int .i64 r, .int .i64 t]] w (WastePost z (wasteIn L bs) w) := by
  obtain ⟨i0, ii0, hz0, hz1, hz2⟩ := info_parts info_str
  unfold AllPost at hal
  replace hch := hid hch
  replace hal := hid hal
  have hR := hid h
  have hE := hid g
  have hws := hid (waste_size (L := L) (fit_B h))
  obtain ⟨a, c, rfl, hlc, hcm, hre, -, hat⟩ := h
  obtain ⟨a2, c2, rfl, -⟩ := g
  unfold maxLen at hcm
  replace hat := hid hat
  obtain ⟨w1, hw1⟩ : ∃ w1 : World, w1 = w.alloc (Obj.cells #[.slice a bs.length c, .slice a2 es.length c2, .int .i64 r, .int .i64 t] 25) := ⟨_, rfl⟩
  have hb1 := hid (show Below w.heap.size w w1 by rw [hw1]; exact b_alloc (Below.refl _ _) _)
  have hq1 := hid (show w1.heap[w.heap.size]? = some (.cells #[.slice a bs.length c, .slice a2 es.length c2, .int .i64 r, .int .i64 t] 25 (0, 0)) by rw [hw1]; exact heap_alloc_new w _)
  obtain ⟨x0, x1, x2, x3⟩ := box4f hq1.out
  go_enter Tryz.func18, Tryz.ntmps18
  go_wp2_with fail
  rw [← hw1]
  clear hw1
  ((with_reducible refine (hch.out _ (hR.out.mono EBlob.stable hb1.out) (hE.out.mono EEntry.stable hb1.out)).mono ?_); rintro e w2 ⟨rfl, b2⟩)
  have hq2 := hid (stays b2 hq1.out)
  have hb2 := hid (b_call hb1.out b2)
  clear b2 hq1 hb1 x0 x1 x2 x3
  by_cases hz : z = 0
  · subst hz
    replace hal := hid (hal.out rfl)
    clear hch
    obtain ⟨x0, x1, x2, x3⟩ := box4f hq2.out
    go_wp2_with fail
    ((with_reducible refine (hal.out _ (hR.out.mono EBlob.stable hb2.out) (hE.out.mono EEntry.stable hb2.out)).mono ?_); rintro e w3 ⟨vL, rfl, hLl, rL, -, b3⟩)
    have hq3 := hid (stays b3 hq2.out)
    have hb3 := hid (b_call hb2.out b3)
    have hown0 : Hid (OS 9 1 cStr w3 w3.heap.size (.slice none 0 0) (wasteIn L (bs.take 0))) := hid OS.nil
    obtain ⟨la, lc, rfl, -⟩ := id rL
    replace rL := hid rL
    clear b3 hq2 hb2 x0 x1 x2 x3 hal
    obtain ⟨x0, x1, x2, x3⟩ := box4f hq3.out
    go_wp2_with fail
    clear x0 x1 x2 x3
    go_loopw [6, 8, 19] (fun o _ i wr => ∃ k : Nat, k ≤ bs.length ∧ i = .int .i64 (k : Int) ∧ Hid (OS 9 1 cStr wr w3.heap.size o (wasteIn L (bs.take k))) ∧ Hid (Below w3.heap.size w3 wr)) (fun _ _ i _ => bs.length - (intOf i).toNat)
    case atStart => exact ⟨0, by omega, rfl, hown0, hid (Below.refl _ _)⟩
    case round =>
      obtain ⟨k, hk, rfl, hown, hbr⟩ := hrel
      have hbk := hid (b_call hb3.out hbr.out)
      have hsB := hbr.out.size
      by_cases hlt2 : k < bs.length
      · have hn : bs[k]? = some bs[k] := List.getElem?_eq_getElem hlt2
        have hyes := hid (waste_yes (L := L) (List.take_succ_eq_append_getElem hlt2))
        have hno := hid (waste_no (L := L) (List.take_succ_eq_append_getElem hlt2))
        generalize bs[k] = x at *
        obtain ⟨bb, off, rfl, hbb, pv, k0, k1, k2, k3, rp, s0, -⟩ := hat.out k _ hn
        have c0 := cell_stays hbk.out hbb k0
        have c1 := cell_stays hbk.out hbb k1
        have c2' := cell_stays hbk.out hbb k2
        have c3 := cell_stays hbk.out hbb k3
        have hbw : bb < wr.heap.size := Nat.lt_of_lt_of_le hbb hbk.out.size
        obtain ⟨xa, xc, rfl, -⟩ := rp
        have hhk := waste_len L (bs.take k)
        rw [List.length_take] at hhk
        have hown1 := hid (OS.alloc hown.out (Obj.cells #[.string x.digest, .slice xa x.data.length xc, .int .i64 x.pins, .bool x.mark] 61))
        have hb1 := hid (hbr.out.alloc hsB (Obj.cells #[.string x.digest, .slice xa x.data.length xc, .int .i64 x.pins, .bool x.mark] 61))
        have hqb := hid (heap_alloc_new wr (Obj.cells #[.string x.digest, .slice xa x.data.length xc, .int .i64 x.pins, .bool x.mark] 61))
        have hwl : wr.heap.size < (wr.alloc (Obj.cells #[.string x.digest, .slice xa x.data.length xc, .int .i64 x.pins, .bool x.mark] 61)).heap.size := by simp
        have hcon := slices_Contains_str _ L x.digest (wr.alloc (Obj.cells #[.string x.digest, .slice xa x.data.length xc, .int .i64 x.pins, .bool x.mark] 61)) (rL.out.mono EStr.stable hb1.out)
        clear k0 k1 k2 k3 hn hown hbr
        cases hi : isIn x.digest L with
        | true =>
          rw [hi] at hcon
          replace hno := hid (hno.out hi)
          rw [← hno.out] at hown1
          clear hno hyes
          replace hcon := hid hcon
          go_wp2_with fail
          ((with_reducible refine hcon.out.mono ?_); rintro e w4 ⟨rfl, rfl⟩)
          go_wp2_with fail
          go_roundw
          case rel => exact ⟨k + 1, by omega, by go_num, hown1, hb1⟩
          case measure => simp [intOf]; omega
        | false =>
          rw [hi] at hcon
          replace hyes := hid (hyes.out hi)
          clear hno
          replace hcon := hid hcon
          go_wp2_with fail
          ((with_reducible refine hcon.out.mono ?_); rintro e w4 ⟨rfl, rfl⟩)
          have hrow := row_one (s := 1) (bs := 16) (cells := cStr) (wr.alloc (Obj.cells #[.string x.digest, .slice xa x.data.length xc, .int .i64 x.pins, .bool x.mark] 61)) 9 x.digest #[.string x.digest] (wr.heap.size + 1) (by simp) rfl (by decide)
          go_wp2_with (at_builtin; go_must (refine wpL_append flat_rstr rfl (.tmp 28) (.tmp 31) 26 rfl 9 i0 _ Tryz.underlying26 ii0 hz0 hz1 hz2 rfl w3.heap.size _ _ rfl (OS.alloc hown1.out _) _ [x.digest] rfl hrow ?c1 ?c2 ?c3 ?_))
          case c1 => simp only [List.length_cons, List.length_nil]; omega
          case c2 => simp only [List.length_cons, List.length_nil, maxLen]; omega
          case c3 => simp; omega
          intro v8 w8 ho8 hg8
          have hbr8 := hid ((hb1.out.alloc (by simp; omega) (Obj.cells #[.string x.digest] 9)).grown hg8 (by simp; omega) (OS.block hown1.out))
          rw [← hyes.out] at ho8
          replace ho8 := hid ho8
          clear hg8 hrow
          go_wp2_with fail
          go_roundw
          case rel => exact ⟨k + 1, by omega, by go_num, ho8, hbr8⟩
          case measure => simp [intOf]; omega
      · obtain rfl : k = bs.length := by omega
        rw [List.take_length] at hown
        have hwl := waste_len L bs
        have rT := hid (reads_str hown.out (by omega) hws.out)
        clear hown hbr
        go_wp2_with fail
        go_ret2
        exact wst_ok rT.out hbk.out
  · have ht : (z != 0) = true := by simp [hz]
    clear hal hch
    go_wp2_with fail
    go_ret2
    exact wst_no hz hb2.out

set_option maxRecDepth 100000 in
set_option maxHeartbeats 4000000 in
theorem ref_Wasted' (v u : Value) (bs : List Blob) (es : List Entry) (r t : Int) (w : World) (h : RBl w v bs) (g : RE w u es) (z : Int) (L : List ByteArray)
    (hch : ∀ w, RBl w v bs → RE w u es → Calls Tryz.prog 42 #[.agg #[v, u, .int .i64 r, .int .i64 t]] w fun e w' => e = .returned (.int .i64 z) ∧ Below w.heap.size w w')
    (hal : z = 0 → ∀ w, RBl w v bs → RE w u es → Calls Tryz.prog 52 #[.agg #[v, u, .int .i64 r, .int .i64 t]] w (AllPost bs L w)) :
    Calls Tryz.prog 19 #[.agg #[v, u, .int .i64 r, .int .i64 t]] w (WastePost z (wasteIn L bs) w) := by
  obtain ⟨i0, ii0, hz0, hz1, hz2⟩ := info_parts info_str
  unfold AllPost at hal
  replace hch := hid hch
  replace hal := hid hal
  have hR := hid h
  have hE := hid g
  have hws := hid (waste_size (L := L) (fit_B h))
  obtain ⟨a, c, rfl, hlc, hcm, hre, -, hat⟩ := h
  obtain ⟨a2, c2, rfl, -⟩ := g
  unfold maxLen at hcm
  replace hat := hid hat
  obtain ⟨w1, hw1⟩ : ∃ w1 : World, w1 = w.alloc (Obj.cells #[.slice a bs.length c, .slice a2 es.length c2, .int .i64 r, .int .i64 t] 25) := ⟨_, rfl⟩
  have hb1 := hid (show Below w.heap.size w w1 by rw [hw1]; exact b_alloc (Below.refl _ _) _)
  have hq1 := hid (show w1.heap[w.heap.size]? = some (.cells #[.slice a bs.length c, .slice a2 es.length c2, .int .i64 r, .int .i64 t] 25 (0, 0)) by rw [hw1]; exact heap_alloc_new w _)
  obtain ⟨x0, x1, x2, x3⟩ := box4f hq1.out
  go_enter Tryz.func19, Tryz.ntmps19
  go_wp2_with fail
  rw [← hw1]
  clear hw1
  ((with_reducible refine (hch.out _ (hR.out.mono EBlob.stable hb1.out) (hE.out.mono EEntry.stable hb1.out)).mono ?_); rintro e w2 ⟨rfl, b2⟩)
  have hq2 := hid (stays b2 hq1.out)
  have hb2 := hid (b_call hb1.out b2)
  clear b2 hq1 hb1 x0 x1 x2 x3
  by_cases hz : z = 0
  · subst hz
    replace hal := hid (hal.out rfl)
    have hown0 : Hid (OS 9 1 cStr w2 w2.heap.size (.slice none 0 0) (wasteIn L (bs.take 0))) := hid OS.nil
    clear hch
    obtain ⟨x0, x1, x2, x3⟩ := box4f hq2.out
    go_wp2_with fail
    clear x0 x1 x2 x3
    have hl2 := heap_lt hq2.out
    go_loopw [5, 7, 16] (fun o _ i wr => ∃ k : Nat, k ≤ bs.length ∧ i = .int .i64 (k : Int) ∧ Hid (OS 9 1 cStr wr w2.heap.size o (wasteIn L (bs.take k))) ∧ Hid (Below w2.heap.size w2 wr)) (fun _ _ i _ => bs.length - (intOf i).toNat)
    case atStart => exact ⟨0, by omega, rfl, hown0, hid (Below.refl _ _)⟩
    case round =>
      obtain ⟨k, hk, rfl, hown, hbr⟩ := hrel
      have hbk := hid (b_call hb2.out hbr.out)
      have hsB := hbr.out.size
      by_cases hlt2 : k < bs.length
      · have hn : bs[k]? = some bs[k] := List.getElem?_eq_getElem hlt2
        have hyes := hid (waste_yes (L := L) (List.take_succ_eq_append_getElem hlt2))
        have hno := hid (waste_no (L := L) (List.take_succ_eq_append_getElem hlt2))
        generalize bs[k] = x at *
        obtain ⟨bb, off, rfl, hbb, pv, k0, k1, k2, k3, rp, s0, -⟩ := hat.out k _ hn
        have c0 := cell_stays hbk.out hbb k0
        have c1 := cell_stays hbk.out hbb k1
        have c2' := cell_stays hbk.out hbb k2
        have c3 := cell_stays hbk.out hbb k3
        have hbw : bb < wr.heap.size := Nat.lt_of_lt_of_le hbb hbk.out.size
        obtain ⟨xa, xc, rfl, -⟩ := rp
        have hhk := waste_len L (bs.take k)
        rw [List.length_take] at hhk
        have hown1 := hid (OS.alloc hown.out (Obj.cells #[.string x.digest, .slice xa x.data.length xc, .int .i64 x.pins, .bool x.mark] 61))
        have hb1 := hid (hbr.out.alloc hsB (Obj.cells #[.string x.digest, .slice xa x.data.length xc, .int .i64 x.pins, .bool x.mark] 61))
        have hqb := hid (heap_alloc_new wr (Obj.cells #[.string x.digest, .slice xa x.data.length xc, .int .i64 x.pins, .bool x.mark] 61))
        have hwl : wr.heap.size < (wr.alloc (Obj.cells #[.string x.digest, .slice xa x.data.length xc, .int .i64 x.pins, .bool x.mark] 61)).heap.size := by simp
        have hq5 := hid (stays hb1.out hq2.out)
        have hba := hid (b_alloc (Below.refl wr.heap.size wr) (Obj.cells #[.string x.digest, .slice xa x.data.length xc, .int .i64 x.pins, .bool x.mark] 61))
        have hcon := hid (fun x' W (h : RT W x' L) => ref_holds x' L x.digest W h)
        have hb5 := hid (b_call hb2.out hb1.out)
        clear k0 k1 k2 k3 hn hown hbr
        cases hi : isIn x.digest L with
        | true =>
          rw [hi] at hcon
          replace hno := hid (hno.out hi)
          clear hyes
          go_wp2_with fail
          generalize wr.alloc (Obj.cells #[.string x.digest, .slice xa x.data.length xc, .int .i64 x.pins, .bool x.mark] 61) = W5 at *
          have hqb2 := hqb.out
          have hS := And.intro (box4f hq5.out) (box4f hqb2).1
          go_region_held3 (fun w' => (w'.cell? ⟨w.heap.size, 0, none⟩ = some (.slice (some ⟨bb, off, none⟩) bs.length c) ∧ w'.cell? ⟨w.heap.size, 1, none⟩ = some (.slice a2 es.length c2) ∧ w'.cell? ⟨w.heap.size, 2, none⟩ = some (.int .i64 r) ∧ w'.cell? ⟨w.heap.size, 3, none⟩ = some (.int .i64 t)) ∧ w'.cell? ⟨wr.heap.size, 0, none⟩ = some (.string x.digest))
            (first | exact hS2 | exact hS | go_keep | fail)
            ((first
              | ((with_reducible refine (hal.out W5.drew (hR.out.mono EBlob.stable hb5.out.drew) (hE.out.mono EEntry.stable hb5.out.drew)).mono ?_)
                 rintro e w6 ⟨v6, rfl, -, r6, -, b6⟩
                 have hq6 := stays b6 (heap_drewn hq5.out)
                 have hqb6 := stays b6 (heap_drewn hqb2)
                 have hb6 : Below w2.heap.size w2 w6 := b_call hb1.out.drew b6
                 have hown6 := OS.below (OS.drew hown1.out) b6
                 have hS2 := And.intro (box4f hq6) (box4f hqb6).1)
              | ((with_reducible refine (hcon.out _ _ r6).mono ?_)
                 rintro e w7 ⟨rfl, rfl⟩)
              | fail))
          obtain ⟨y0, y1, y2, y3⟩ := box4f hqb6
          have hs6 := hb6.size
          replace hown6 := hid hown6
          replace hb6 := hid hb6
          clear hS hS2 b6 r6
          have hown7 := hown6.out
          rw [← hno.out] at hown7
          replace hown7 := hid hown7
          clear hno
          go_wp2_with fail
          go_roundw
          case rel => exact ⟨k + 1, by omega, by go_num, hown7, hb6⟩
          case measure => simp [intOf]; omega
        | false =>
          rw [hi] at hcon
          replace hyes := hid (hyes.out hi)
          clear hno
          go_wp2_with fail
          generalize wr.alloc (Obj.cells #[.string x.digest, .slice xa x.data.length xc, .int .i64 x.pins, .bool x.mark] 61) = W5 at *
          have hqb2 := hqb.out
          have hS := And.intro (box4f hq5.out) (box4f hqb2).1
          go_region_held3 (fun w' => (w'.cell? ⟨w.heap.size, 0, none⟩ = some (.slice (some ⟨bb, off, none⟩) bs.length c) ∧ w'.cell? ⟨w.heap.size, 1, none⟩ = some (.slice a2 es.length c2) ∧ w'.cell? ⟨w.heap.size, 2, none⟩ = some (.int .i64 r) ∧ w'.cell? ⟨w.heap.size, 3, none⟩ = some (.int .i64 t)) ∧ w'.cell? ⟨wr.heap.size, 0, none⟩ = some (.string x.digest))
            (first | exact hS2 | exact hS | go_keep | fail)
            ((first
              | ((with_reducible refine (hal.out W5.drew (hR.out.mono EBlob.stable hb5.out.drew) (hE.out.mono EEntry.stable hb5.out.drew)).mono ?_)
                 rintro e w6 ⟨v6, rfl, -, r6, -, b6⟩
                 have hq6 := stays b6 (heap_drewn hq5.out)
                 have hqb6 := stays b6 (heap_drewn hqb2)
                 have hb6 : Below w2.heap.size w2 w6 := b_call hb1.out.drew b6
                 have hown6 := OS.below (OS.drew hown1.out) b6
                 have hS2 := And.intro (box4f hq6) (box4f hqb6).1)
              | ((with_reducible refine (hcon.out _ _ r6).mono ?_)
                 rintro e w7 ⟨rfl, rfl⟩)
              | fail))
          obtain ⟨y0, y1, y2, y3⟩ := box4f hqb6
          have hs6 := hb6.size
          replace hown6 := hid hown6
          replace hb6 := hid hb6
          clear hS hS2 b6 r6
          have hrow := row_one (s := 1) (bs := 16) (cells := cStr) w6 9 x.digest #[.string x.digest] w6.heap.size (by simp) rfl (by decide)
          go_wp2_with (at_builtin; go_must (refine wpL_append flat_rstr rfl (.tmp 26) (.tmp 29) 26 rfl 9 i0 _ Tryz.underlying26 ii0 hz0 hz1 hz2 rfl w2.heap.size _ _ rfl (OS.alloc hown6.out _) _ [x.digest] rfl hrow ?c1 ?c2 ?c3 ?_))
          case c1 => simp only [List.length_cons, List.length_nil]; omega
          case c2 => simp only [List.length_cons, List.length_nil, maxLen]; omega
          case c3 => simp; omega
          intro v8 w8 ho8 hg8
          have hbr8 := hid ((hb6.out.alloc (by omega) (Obj.cells #[.string x.digest] 9)).grown hg8 (by simp; omega) (OS.block hown6.out))
          rw [← hyes.out] at ho8
          replace ho8 := hid ho8
          clear hg8 hrow
          go_wp2_with fail
          go_roundw
          case rel => exact ⟨k + 1, by omega, by go_num, ho8, hbr8⟩
          case measure => simp [intOf]; omega
      · obtain rfl : k = bs.length := by omega
        rw [List.take_length] at hown
        have hwl := waste_len L bs
        have rT := hid (reads_str hown.out (by omega) hws.out)
        clear hown hbr
        go_wp2_with fail
        go_ret2
        exact wst_ok rT.out hbk.out
  · have ht : (z != 0) = true := by simp [hz]
    clear hal hch
    go_wp2_with fail
    go_ret2
    exact wst_no hz hb2.out
end Go.Proofs.YtojebioolflbkaaGreat
