import Derived.Test.YtpkpgehiplhkpaaGreatTzKB
import Derived.Test.YtpkpgehiplhkpaaGreatTzShb
import Derived.Handy
namespace Go.Proofs.YtpkpgehiplhkpaaGreat
open Go.RowKit
theorem qtzst_1 {P : Prop} (h : P := by
 go_enter Tryz.func50, Tryz.ntmps50
 go_wp2_with fail
 rw [← hw1]
 clear hw1
 have hS := box4f hq1.out
 go_region_held3 (fun w' => w'.cell? ⟨w.heap.size, 0, none⟩ = some (.slice a bs.length c) ∧ w'.cell? ⟨w.heap.size, 1, none⟩ = some (.slice a2 es.length c2) ∧ w'.cell? ⟨w.heap.size, 2, none⟩ = some (.int .i64 r) ∧ w'.cell? ⟨w.heap.size, 3, none⟩ = some (.int .i64 t))
  (first | go_keep | exact hS4 | exact hS3 | exact hS2 | exact hS | fail)
  ((first
    | ((with_reducible refine (f1.out w1.drew (hR.out.mono EBlob.stable (hb1.out.drew))).mono ?_)
       rintro e w2 ⟨rfl, b2⟩
       have hb2 : Below w.heap.size w w2 := b_call hb1.out.drew b2
       have hq2 := (b2.block w.heap.size hl1).trans hq1.out
       have hS2 := box4f hq2)
    | ((with_reducible refine (f2.out w2 (hE.out.mono EEntry.stable hb2)).mono ?_)
       rintro e w3 ⟨rfl, b3⟩
       have hb3 : Below w.heap.size w w3 := b_call hb2 b3
       have hq3 := (b3.block w.heap.size (Array.getElem?_eq_some_iff.1 hq2).1).trans hq2
       have hS3 := box4f hq3)
    | ((with_reducible refine (f3.out w3 (hR.out.mono EBlob.stable hb3)).mono ?_)
       rintro e w4 ⟨rfl, b4⟩
       have hb4 : Below w.heap.size w w4 := b_call hb3 b4
       have hq4 := (b4.block w.heap.size (Array.getElem?_eq_some_iff.1 hq3).1).trans hq3
       have hS4 := box4f hq4)
    | fail))
 replace hb4 := hid hb4
 replace hq4 := hid hq4
 obtain ⟨x0, x1, x2, x3⟩ := hS4
 clear hS hS2 hS3 hb2 hb3 hq2 hq3 b2 b3 b4 hb1 hq1 hl1 f1 f2 f3
 go_wp2_with fail
 go_rounds 4
 all_goals
  go_ret
  exact ⟨ret_i hz.out.symm, hb4.out⟩) : P := h
def thereOne (l : List Blob) (p : Part) : Int := match l[atKey (·.digest) p.digest l]? with | none => 5 | some b => if (b.data.length : Int) = p.size then 0 else 4
def thereFault (l : List Blob) : List Part → Int
 | [] => 0
 | p :: r => if thereOne l p = 0 then thereFault l r else thereOne l p
theorem there_step {l : List Blob} {ps : List Part} {k : Nat} {p : Part} {z : Int} (h : z = thereFault l (ps.drop k)) (hp : ps[k]? = some p) (h0 : thereOne l p = 0) : z = thereFault l (ps.drop (k + 1)) := by
 obtain ⟨hk, rfl⟩ := List.getElem?_eq_some_iff.1 hp
 rw [h, List.drop_eq_getElem_cons hk, thereFault, if_pos h0]
theorem there_stop {l : List Blob} {ps : List Part} {k : Nat} {p : Part} {z n : Int} (h : z = thereFault l (ps.drop k)) (hp : ps[k]? = some p) (h0 : thereOne l p = n) (hn : n ≠ 0) : z = n := by
 obtain ⟨hk, rfl⟩ := List.getElem?_eq_some_iff.1 hp
 rw [h, List.drop_eq_getElem_cons hk, thereFault, if_neg (by rw [h0]; exact hn), h0]
theorem there_end {l : List Blob} {ps : List Part} {z : Int} (h : z = thereFault l (ps.drop ps.length)) : z = 0 := by rw [h, List.drop_length]; rfl
set_option maxRecDepth 100000 in
set_option maxHeartbeats 1000000 in
theorem store_have (v u : Value) (l : List Blob) (ps : List Part) (w : World) (h : RBl w v l) (g : RP w u ps) :
 Calls Tryz.prog 106 #[v, u] w fun e w' => e = .returned (.int .i64 (thereFault l ps)) ∧ Below w.heap.size w w' := by
 have hR := hid h
 obtain ⟨a, c, rfl, hlc, hcm, hre, hno, hat⟩ := h
 obtain ⟨a2, c2, rfl, glc, gcm, gre, gno, gat⟩ := g
 unfold maxLen at hcm gcm
 clear hno gno
 replace hat := hid hat
 replace gat := hid gat
 have hz0 : thereFault l ps = thereFault l (ps.drop 0) := rfl
 generalize thereFault l ps = z at *
 replace hz0 := hid hz0
 go_enter Tryz.func106, Tryz.ntmps106
 go_wp2_with fail
 go_loopw [6, 7, 8, 11] (fun _ _ _ i wr => ∃ (k : Nat), k ≤ ps.length ∧ i = .int .i64 (k : Int) ∧ Hid (z = thereFault l (ps.drop k)) ∧ Hid (Below w.heap.size w wr)) (fun _ _ _ i _ => ps.length - (intOf i).toNat)
 case atStart => exact ⟨0, by omega, rfl, hz0, hid (Below.refl _ _)⟩
 obtain ⟨k, hk, rfl, hz, hb⟩ := hrel
 by_cases hlt : k < ps.length
 · have hx : ps[k]? = some ps[k] := List.getElem?_eq_getElem hlt
   generalize ps[k] = p at hx
   obtain ⟨bp, op, rfl, hbp, hep⟩ := gat.out k _ hx
   obtain ⟨c0, c1, c2, -⟩ := EPart.stable _ _ _ _ _ hb.out hbp hep
   have hstep := hid (fun h0 => there_step hz.out hx h0)
   have hstop := hid (fun (n : Int) (h0 : thereOne l p = n) (hn : n ≠ 0) => there_stop hz.out hx h0 hn)
   have hone := hid (show thereOne l p = match l[atKey (·.digest) p.digest l]? with | none => 5 | some b => if (b.data.length : Int) = p.size then 0 else 4 from rfl)
   have hle := atKey_le (fun x : Blob => x.digest) p.digest l
   have hfi : findI (fun x : Blob => x.digest) p.digest l = if atKey (fun x : Blob => x.digest) p.digest l = l.length then 0 else (atKey (fun x : Blob => x.digest) p.digest l : Int) := rfl
   have hfe : findE (fun x : Blob => x.digest) p.digest l = if atKey (fun x : Blob => x.digest) p.digest l = l.length then 5 else 0 := rfl
   have hF := fun w g => blob_Find (.slice a l.length c) l p.digest w g
   generalize atKey (fun x : Blob => x.digest) p.digest l = i at *
   generalize findI (fun x : Blob => x.digest) p.digest l = fi at *
   generalize findE (fun x : Blob => x.digest) p.digest l = fe at *
   replace hF := hid hF
   have hba := hid (b_alloc (Below.refl _ wr) (Obj.cells #[.string p.name, .string p.digest, .int .i64 p.size] 67))
   have hq1 := hid (heap_alloc_new wr (Obj.cells #[.string p.name, .string p.digest, .int .i64 p.size] 67))
   have hsz1 : wr.heap.size < (wr.alloc (Obj.cells #[.string p.name, .string p.digest, .int .i64 p.size] 67)).heap.size := by simp
   clear hx hz hep
   by_cases hi : i = l.length
   · rw [if_pos hi] at hfi hfe
     subst hfi hfe
     have hz5 := hid (hstop.out 5 (by rw [hone.out, List.getElem?_eq_none (by omega)]) (by decide))
     clear hstep hstop hone hq1 hsz1
     replace hi := hid hi
     go_wp2_with fail
     ((with_reducible refine (hF.out _ (hR.out.mono EBlob.stable (b_alloc hb.out _))).mono ?_); rintro e w1 ⟨rfl, b1⟩)
     have hb1 := hid (b_call (b_alloc hb.out _) b1)
     clear b1
     go_wp2_with fail
     go_ret
     exact ⟨ret_i hz5.out.symm, hb1.out⟩
   rw [if_neg hi] at hfi hfe
   subst hfi hfe
   have hx : l[i]? = some l[i] := List.getElem?_eq_getElem (by omega)
   generalize l[i] = x at hx
   obtain ⟨bb, off, rfl, hbb, he⟩ := hat.out _ _ hx
   rw [hx] at hone
   have hilt : i < l.length := by omega
   have hi0 : (0 : Int) ≤ (i : Int) := by omega
   have hi1 : (i : Int) < (l.length : Int) := by omega
   clear hx hi
   go_wp2_with fail
   ((with_reducible refine (hF.out _ (hR.out.mono EBlob.stable (b_alloc hb.out _))).mono ?_); rintro e w1 ⟨rfl, b1⟩)
   have hq2 := (b1.block wr.heap.size hsz1).trans hq1.out
   obtain ⟨x0, x1, x2, -⟩ := box3f hq2
   have hb1 := hid (b_call (b_alloc hb.out _) b1)
   obtain ⟨dv, d0, d1, d2, d3, rdv, okx⟩ := EBlob.stable _ _ _ _ _ hb1.out hbb he
   obtain ⟨da, dc, rfl, -⟩ := id rdv
   clear b1 hq1 hq2 hsz1 he rdv okx hF hba c0 c1 c2
   by_cases hs : (x.data.length : Int) = p.size
   · have tt : ((x.data.length : Int) != p.size) = false := by simp [hs]
     have hn := hid (hstep.out (by rw [hone.out]; exact if_pos hs))
     clear hstep hstop hone hs
     go_wp2_with fail
     go_quiet (fail)
     go_wp2_with fail
     go_roundw
     case rel => exact ⟨k + 1, by omega, by go_num, hn, hid (below_drewN hb1.out _)⟩
     case measure => simp [intOf]; omega
   have tt : ((x.data.length : Int) != p.size) = true := by simp [hs]
   have hz4 := hid (hstop.out 4 (by rw [hone.out]; exact if_neg hs) (by decide))
   clear hstep hstop hone hs
   go_wp2_with fail
   go_quiet (fail)
   go_wp2_with fail
   go_ret
   exact ⟨ret_i hz4.out.symm, below_drewN hb1.out _⟩
 obtain rfl : k = ps.length := by omega
 have hr0 := hid (there_end hz.out)
 clear hz
 go_wp2_with fail
 go_ret
 exact ⟨ret_i hr0.out.symm, hb.out⟩
def entsFault (bs : List Blob) (t : Int) : List Entry → Int
 | [] => 0
 | x :: r => if t < x.stamp ∨ thereFault bs x.parts ≠ 0 then 12 else entsFault bs t r
theorem ents_step {bs : List Blob} {t z : Int} {es : List Entry} {k : Nat} {x : Entry} (h : z = entsFault bs t (es.drop k)) (hx : es[k]? = some x) (h1 : ¬ t < x.stamp) (h2 : thereFault bs x.parts = 0) : z = entsFault bs t (es.drop (k + 1)) := by
 obtain ⟨hk, rfl⟩ := List.getElem?_eq_some_iff.1 hx
 rw [h, List.drop_eq_getElem_cons hk, entsFault, if_neg (fun g => g.elim (fun g => h1 g) (fun g => g h2))]
theorem ents_stop {bs : List Blob} {t z : Int} {es : List Entry} {k : Nat} {x : Entry} (h : z = entsFault bs t (es.drop k)) (hx : es[k]? = some x) (h1 : t < x.stamp ∨ thereFault bs x.parts ≠ 0) : z = 12 := by
 obtain ⟨hk, rfl⟩ := List.getElem?_eq_some_iff.1 hx
 rw [h, List.drop_eq_getElem_cons hk, entsFault, if_pos h1]
theorem ents_end {bs : List Blob} {t z : Int} {es : List Entry} (h : z = entsFault bs t (es.drop es.length)) : z = 0 := by rw [h, List.drop_length]; rfl
def badClock (t : Int) : Prop := t < 0 ∨ 1099511627776 < t
instance (t : Int) : Decidable (badClock t) := inferInstanceAs (Decidable (t < 0 ∨ 1099511627776 < t))
def roomFault (bs : List Blob) (r : Int) : Int := if r < 0 ∨ 4000 < r then 4 else if r < used bs then 7 else 0
def storeFault (bs : List Blob) (es : List Entry) (r t : Int) : Int :=
 if blobsFault bs ≠ 0 then blobsFault bs else if entriesFault es ≠ 0 then entriesFault es else if roomFault bs r ≠ 0 then roomFault bs r else if badClock t then 4 else entsFault bs t es
instance (a b : Int) : Decidable (inRoom a b) := by unfold inRoom; infer_instance
def fitsV (bs : List Blob) (r : Int) : Int := if inRoom r 0 then (if lackV bs r 0 = 0 then 0 else 7) else 4
theorem room_Fits_any (v : Value) (l : List Blob) (r : Int) (w : World) (h : RBl w v l) :
 Calls Tryz.prog 105 #[v, .int .i64 r, .int .i64 0] w fun e w' => e = .returned (.int .i64 (fitsV l r)) ∧ Below w.heap.size w w' := by
 unfold fitsV
 by_cases hr : inRoom r 0
 · rw [if_pos hr]
   obtain ⟨h1, h2, h3, h4⟩ := hr
   by_cases hp : lackV l r 0 = 0
   · rw [if_pos hp]; exact room_Fits_yes v l r 0 w h h1 h2 h3 h4 hp
   rw [if_neg hp]; exact room_Fits v l r 0 w h h1 h2 h3 h4 (by have := lackV_nonneg l r 0; omega)
 rw [if_neg hr]
 refine (room_Fits_no v r 0 w hr).mono ?_
 rintro e w' ⟨rfl, rfl⟩
 exact ⟨rfl, Below.refl _ _⟩
theorem wrap64_in' {n : Int} (h0 : -9223372036854775808 ≤ n) (h1 : n ≤ 9223372036854775807) : wrap64 n = n := by unfold wrap64; omega
theorem used_small : ∀ (l : List Blob) (n : Int), (∀ x ∈ l, x.data.length ≤ 300) → 0 ≤ n → n + 300 * (l.length : Int) ≤ 1000000 →
 0 ≤ l.foldl (fun n b => wrap64 (n + (b.data.length : Int))) n ∧ l.foldl (fun n b => wrap64 (n + (b.data.length : Int))) n ≤ 1000000
 | [], n, _, h0, h1 => by simp at h1 ⊢; omega
 | x :: l, n, hx, h0, h1 => by
   have h3 := hx x (List.mem_cons_self ..)
   simp only [List.length_cons] at h1
   rw [List.foldl_cons, wrap64_in' (by omega) (by omega)]
   exact used_small l _ (fun y hy => hx y (List.mem_cons_of_mem _ hy)) (by omega) (by omega)
theorem used_of {bs : List Blob} (h : blobsFault bs = 0) : 0 ≤ used bs ∧ used bs ≤ 1000000 := by
 unfold blobsFault at h
 split at h
 · cases h
 refine used_small bs 0 (fun x hx => ?_) (Int.le_refl _) (by omega)
 obtain ⟨w.heap.size, hq⟩ := fault_all h x hx
 unfold blobFault at hq
 split at hq
 · rename_i h1; exact (blobErr_zero h1).2.1
 rename_i h1; exact absurd hq h1
theorem fits_room {bs : List Blob} {r : Int} (h : blobsFault bs = 0) : fitsV bs r = roomFault bs r := by
 obtain ⟨u0, u1⟩ := used_of h
 unfold fitsV roomFault
 by_cases hr : r < 0 ∨ 4000 < r
 · rw [if_pos hr, if_neg (by unfold inRoom; omega)]
 rw [if_neg hr, if_pos (by unfold inRoom; omega)]
 unfold lackV
 rw [wrap64_in' (n := used bs + 0) (by omega) (by omega), wrap64_in' (by omega) (by omega)]
 split <;> split <;> split <;> omega
section
variable {bs : List Blob} {es : List Entry} {r t : Int}
theorem st1 (h : blobsFault bs ≠ 0) : storeFault bs es r t = blobsFault bs := by unfold storeFault; rw [if_pos h]
theorem st2 (h : blobsFault bs = 0) (h2 : entriesFault es ≠ 0) : storeFault bs es r t = entriesFault es := by unfold storeFault; rw [if_neg (not_not_intro h), if_pos h2]
theorem st3 (h : blobsFault bs = 0) (h2 : entriesFault es = 0) (h3 : roomFault bs r ≠ 0) : storeFault bs es r t = roomFault bs r := by unfold storeFault; rw [if_neg (not_not_intro h), if_neg (not_not_intro h2), if_pos h3]
theorem st4 (h : blobsFault bs = 0) (h2 : entriesFault es = 0) (h3 : roomFault bs r = 0) (h4 : badClock t) : storeFault bs es r t = 4 := by unfold storeFault; rw [if_neg (not_not_intro h), if_neg (not_not_intro h2), if_neg (not_not_intro h3), if_pos h4]
theorem st5 (h : blobsFault bs = 0) (h2 : entriesFault es = 0) (h3 : roomFault bs r = 0) (h4 : ¬ badClock t) : storeFault bs es r t = entsFault bs t (es.drop 0) := by unfold storeFault; rw [if_neg (not_not_intro h), if_neg (not_not_intro h2), if_neg (not_not_intro h3), if_neg h4]; rfl
end
theorem box4f {w : World} {b : Nat} {c0 c1 c2 c3 : Value} {T : TypeId} (h : w.heap[b]? = some (.cells #[c0, c1, c2, c3] T (0, 0))) : w.cell? ⟨b, 0, none⟩ = some c0 ∧ w.cell? ⟨b, 1, none⟩ = some c1 ∧ w.cell? ⟨b, 2, none⟩ = some c2 ∧ w.cell? ⟨b, 3, none⟩ = some c3 :=
 ⟨cell_of_row _ _ 0 _ _ _ h, cell_of_row _ _ 1 _ _ _ h, cell_of_row _ _ 2 _ _ _ h, cell_of_row _ _ 3 _ _ _ h⟩
set_option maxRecDepth 100000 in
set_option maxHeartbeats 4000000 in
theorem store_Check' (v u : Value) (bs : List Blob) (es : List Entry) (r t : Int) (w : World) (h : RBl w v bs) (g : RE w u es) (z z1 z2 z3 : Int)
 (f1 : ∀ w, RBl w v bs → Calls Tryz.prog 103 #[v] w fun e w' => e = .returned (.int .i64 z1) ∧ Below w.heap.size w w')
 (f2 : ∀ w, RE w u es → Calls Tryz.prog 104 #[u] w fun e w' => e = .returned (.int .i64 z2) ∧ Below w.heap.size w w')
 (f3 : ∀ w, RBl w v bs → Calls Tryz.prog 105 #[v, .int .i64 r, .int .i64 0] w fun e w' => e = .returned (.int .i64 z3) ∧ Below w.heap.size w w')
 (r1 : z1 ≠ 0 → z = z1) (r2 : z1 = 0 → z2 ≠ 0 → z = z2) (r3 : z1 = 0 → z2 = 0 → z3 ≠ 0 → z = z3) (r4 : z1 = 0 → z2 = 0 → z3 = 0 → badClock t → z = 4) (r5 : z1 = 0 → z2 = 0 → z3 = 0 → ¬ badClock t → z = entsFault bs t (es.drop 0)) :
 Calls Tryz.prog 50 #[.agg #[v, u, .int .i64 r, .int .i64 t]] w fun e w' => e = .returned (.int .i64 z) ∧ Below w.heap.size w w' := by
 replace f1 := hid f1
 replace f2 := hid f2
 replace f3 := hid f3
 have hR := hid h
 have hE := hid g
 obtain ⟨a, c, rfl, -⟩ := h
 obtain ⟨a2, c2, rfl, glc, gcm, gre, gno, gat⟩ := g
 unfold maxLen at gcm
 clear gno
 replace gat := hid gat
 obtain ⟨w1, hw1⟩ : ∃ w1 : World, w1 = w.alloc (Obj.cells #[.slice a bs.length c, .slice a2 es.length c2, .int .i64 r, .int .i64 t] 29) := ⟨_, rfl⟩
 have hb1 := hid (show Below w.heap.size w w1 by rw [hw1]; exact b_alloc (Below.refl _ _) _)
 have hq1 := hid (show w1.heap[w.heap.size]? = some (.cells #[.slice a bs.length c, .slice a2 es.length c2, .int .i64 r, .int .i64 t] 29 (0, 0)) by rw [hw1]; exact heap_alloc_new w _)
 have hl1 := (Array.getElem?_eq_some_iff.1 hq1.out).1
 have i0 : ∀ w, (Instr.index 178 (.agg #[.int .i64 z1, .int .i64 z2, .int .i64 z3]) (.int .i64 0)).run Tryz.prog w = .ok (.int .i64 z1) w := fun _ => by kernel_rfl
 have i1 : ∀ w, (Instr.index 178 (.agg #[.int .i64 z1, .int .i64 z2, .int .i64 z3]) (.int .i64 1)).run Tryz.prog w = .ok (.int .i64 z2) w := fun _ => by kernel_rfl
 have i2 : ∀ w, (Instr.index 178 (.agg #[.int .i64 z1, .int .i64 z2, .int .i64 z3]) (.int .i64 2)).run Tryz.prog w = .ok (.int .i64 z3) w := fun _ => by kernel_rfl
 by_cases h1 : z1 = 0
 · by_cases h2 : z2 = 0
   · by_cases h3 : z3 = 0
     · by_cases h4 : badClock t
       · have hz := hid (r4 h1 h2 h3 h4)
         subst h1 h2 h3
         clear r1 r2 r3 r4 r5
         unfold badClock at h4
         by_cases h5 : t < 0
         · have d1 : decide (t < 0) = true := by simp; omega
           clear h4 h5
           exact qtzst_1
         have d1 : decide (t < 0) = false := by simp; omega
         have d2 : decide (1099511627776 < t) = true := by simp; omega
         clear h4 h5
         exact qtzst_1
       have hz := hid (r5 h1 h2 h3 h4)
       subst h1 h2 h3
       clear r1 r2 r3 r4 r5
       unfold badClock at h4
       have d1 : decide (t < 0) = false := by simp; omega
       have d2 : decide (1099511627776 < t) = false := by simp; omega
       clear h4
       go_enter Tryz.func50, Tryz.ntmps50
       go_wp2_with fail
       rw [← hw1]
       clear hw1
       have hS := box4f hq1.out
       go_region_held3 (fun w' => w'.cell? ⟨w.heap.size, 0, none⟩ = some (.slice a bs.length c) ∧ w'.cell? ⟨w.heap.size, 1, none⟩ = some (.slice a2 es.length c2) ∧ w'.cell? ⟨w.heap.size, 2, none⟩ = some (.int .i64 r) ∧ w'.cell? ⟨w.heap.size, 3, none⟩ = some (.int .i64 t))
        (first | go_keep | exact hS4 | exact hS3 | exact hS2 | exact hS | fail)
        ((first
          | ((with_reducible refine (f1.out w1.drew (hR.out.mono EBlob.stable (hb1.out.drew))).mono ?_)
             rintro e w2 ⟨rfl, b2⟩
             have hb2 : Below w.heap.size w w2 := b_call hb1.out.drew b2
             have hq2 := (b2.block w.heap.size hl1).trans hq1.out
             have hS2 := box4f hq2)
          | ((with_reducible refine (f2.out w2 (hE.out.mono EEntry.stable hb2)).mono ?_)
             rintro e w3 ⟨rfl, b3⟩
             have hb3 : Below w.heap.size w w3 := b_call hb2 b3
             have hq3 := (b3.block w.heap.size (Array.getElem?_eq_some_iff.1 hq2).1).trans hq2
             have hS3 := box4f hq3)
          | ((with_reducible refine (f3.out w3 (hR.out.mono EBlob.stable hb3)).mono ?_)
             rintro e w4 ⟨rfl, b4⟩
             have hb4 : Below w.heap.size w w4 := b_call hb3 b4
             have hq4 := (b4.block w.heap.size (Array.getElem?_eq_some_iff.1 hq3).1).trans hq3
             have hS4 := box4f hq4)
          | fail))
       replace hb4 := hid hb4
       replace hq4 := hid hq4
       obtain ⟨x0, x1, x2, x3⟩ := hS4
       clear hS hS2 hS3 hb2 hb3 hq2 hq3 b2 b3 b4 hb1 hq1 hl1 f1 f2 f3
       go_wp2_with fail
       go_rounds 4
       go_loopw [6, 37] (fun _ i wr => ∃ (k : Nat), k ≤ es.length ∧ i = .int .i64 (k : Int) ∧ Hid (z = entsFault bs t (es.drop k)) ∧ Hid (Below w.heap.size w wr) ∧ Hid (wr.heap[w.heap.size]? = some (.cells #[.slice a bs.length c, .slice a2 es.length c2, .int .i64 r, .int .i64 t] 29 (0, 0)))) (fun _ i _ => es.length - (intOf i).toNat)
       case atStart => exact ⟨0, by omega, rfl, hz, hb4, hq4⟩
       obtain ⟨k, hk, rfl, hzk, hb, hqr⟩ := hrel
       by_cases hlt : k < es.length
       · have hx : es[k]? = some es[k] := List.getElem?_eq_getElem hlt
         generalize es[k] = x at hx
         obtain ⟨bp, op, rfl, hbp, hep⟩ := gat.out k _ hx
         obtain ⟨pv, c0, c1, c2', c3, rpv, -⟩ := EEntry.stable _ _ _ _ _ hb.out hbp hep
         obtain ⟨pa, pc, rfl, -⟩ := id rpv
         have hstep := hid (fun h1 h2 => ents_step hzk.out hx h1 h2)
         have hstop := hid (fun h1 => ents_stop hzk.out hx h1)
         have hlq := (Array.getElem?_eq_some_iff.1 hqr.out).1
         obtain ⟨wa, hwa⟩ : ∃ wa : World, wa = wr.alloc (Obj.cells #[.string x.key, .slice pa x.parts.length pc, .int .i64 x.pins, .int .i64 x.stamp] 62) := ⟨_, rfl⟩
         have hba := hid (show Below w.heap.size w wa by rw [hwa]; exact b_alloc hb.out _)
         have hqa := hid (show wa.heap[w.heap.size]? = some (.cells #[.slice a bs.length c, .slice (some ⟨bp, op, none⟩) es.length c2, .int .i64 r, .int .i64 t] 29 (0, 0)) by rw [hwa]; exact (heap_alloc_old wr _ hlq).trans hqr.out)
         have hqe := hid (show wa.heap[wr.heap.size]? = some (.cells #[.string x.key, .slice pa x.parts.length pc, .int .i64 x.pins, .int .i64 x.stamp] 62 (0, 0)) by rw [hwa]; exact heap_alloc_new wr _)
         have hpa := hid (show RP wa (.slice pa x.parts.length pc) x.parts by rw [hwa]; exact rpv.mono EPart.stable (b_alloc (Below.refl _ _) _))
         have ff := hid (fun w g g2 => store_have (.slice a bs.length c) (.slice pa x.parts.length pc) bs x.parts w g g2)
         obtain ⟨m0, m1, m2, m3⟩ := box4f hqr.out
         clear hx hep rpv hqr hb hqe
         subst hwa
         generalize thereFault bs x.parts = th at *
         by_cases hs : t < x.stamp
         · have tt : decide (t < x.stamp) = true := by simp [hs]
           have hz12 := hid (hstop.out (.inl hs))
           clear hstep hstop hs ff
           go_wp2_with fail
           go_ret
           exact ⟨ret_i hz12.out.symm, hba.out⟩
         have tt : decide (t < x.stamp) = false := by simp; omega
         have hs' := hid hs
         clear hs
         go_wp2_with fail
         ((with_reducible refine (ff.out _ (hR.out.mono EBlob.stable hba.out) hpa.out).mono ?_); rintro e w5 ⟨rfl, b5⟩)
         have hb5 := hid (b_call hba.out b5)
         have hq5 := hid ((b5.block w.heap.size (Array.getElem?_eq_some_iff.1 hqa.out).1).trans hqa.out)
         clear b5 hba hqa hpa ff m0 m1 m2 m3
         by_cases ht : th = 0
         · have t2 : (th != 0) = false := by simp [ht]
           have hn := hid (hstep.out hs'.out ht)
           clear hstep hstop ht
           go_wp2_with fail
           go_roundw
           case rel => exact ⟨k + 1, by omega, by go_num, hn, hb5, hq5⟩
           case measure => simp [intOf]; omega
         have t2 : (th != 0) = true := by simp [ht]
         have hz12 := hid (hstop.out (.inr ht))
         clear hstep hstop ht
         go_wp2_with fail
         go_ret
         exact ⟨ret_i hz12.out.symm, hb5.out⟩
       obtain rfl : k = es.length := by omega
       have hr0 := hid (ents_end hzk.out)
       clear hzk
       go_wp2_with fail
       go_ret
       exact ⟨ret_i hr0.out.symm, hb.out⟩
     have hz := hid (r3 h1 h2 h3)
     have t3 : (z3 != 0) = true := by simp [h3]
     subst h1 h2
     clear r1 r2 r3 r4 r5
     replace h3 := hid h3
     exact qtzst_1
   have hz := hid (r2 h1 h2)
   have t2 : (z2 != 0) = true := by simp [h2]
   subst h1
   clear r1 r2 r3 r4 r5
   replace h2 := hid h2
   exact qtzst_1
 have hz := hid (r1 h1)
 have t1 : (z1 != 0) = true := by simp [h1]
 clear r1 r2 r3 r4 r5
 replace h1 := hid h1
 exact qtzst_1
theorem store_Check (v u : Value) (bs : List Blob) (es : List Entry) (r t : Int) (w : World) (h : RBl w v bs) (g : RE w u es) :
 Calls Tryz.prog 50 #[.agg #[v, u, .int .i64 r, .int .i64 t]] w fun e w' => e = .returned (.int .i64 (storeFault bs es r t)) ∧ Below w.heap.size w w' :=
 store_Check' v u bs es r t w h g _ _ _ _ (fun w g => blob_Check v bs w g) (fun w g => index_Check u es w g) (fun w g => room_Fits_any v bs r w g) st1 st2
  (fun h1 h2 h3 => by rw [fits_room h1] at h3 ⊢; exact st3 h1 h2 h3) (fun h1 h2 h3 h4 => st4 h1 h2 (by rw [← fits_room h1]; exact h3) h4) (fun h1 h2 h3 h4 => st5 h1 h2 (by rw [← fits_room h1]; exact h3) h4)
end Go.Proofs.YtpkpgehiplhkpaaGreat
