/-
  stats.Lines: what it answers. Printed by gen_st.py.
-/
import Derived.Test.YtpcnhldlfmdlhaaGreatDoorSxStI
import Derived.Test.YtpcnhldlfmdlhaaGreatDoorSxStL
import Derived.Deep.RegionHeld3
namespace Go.Proofs.YtpcnhldlfmdlhaaGreatDoor
open Go.RowKit Go.Maps

theorem i64_foldl {α : Type} (f : α → Int) : ∀ (l : List α) (n : Int), I64 n → I64 (l.foldl (fun n x => wrap64 (n + f x)) n)
  | [], _, h => h
  | x :: l, n, _ => i64_foldl f l _ (show I64 (wrap64 (n + f x)) by unfold I64 wrap64; omega)
theorem used_i64 (l : List Blob) : I64 (used l) := i64_foldl (fun x : Blob => (x.data.length : Int)) l 0 ⟨by decide, by decide⟩
theorem waits_i64 (l : List Flight) : I64 (waits l) := i64_foldl (fun x : Flight => (x.waiters.length : Int)) l 0 ⟨by decide, by decide⟩
def phB (ph : Int) : ByteArray := if ph = 0 then ⟨#[105, 100, 108, 101]⟩ else if ph = 1 then ⟨#[109, 97, 114, 107, 105, 110, 103]⟩ else ⟨#[115, 119, 101, 101, 112]⟩
theorem phB_size (ph : Int) : (phB ph).size ≤ 7 := by
  unfold phB
  split
  · decide
  · split <;> decide
theorem say_size {s : ByteArray} {n m : Int} (h : s.size ≤ 20) (hn : I64 n) (hm : I64 m) : (sayB s n m).size ≤ 67 := by
  have n1 := numB_size hn
  have n2 := numB_size hm
  unfold sayB
  simp only [ByteArray.size_append]
  have e1 : (⟨#[32]⟩ : ByteArray).size = 1 := rfl
  have e2 : (⟨#[32, 111, 102, 32]⟩ : ByteArray).size = 4 := rfl
  omega
/-- The lines of a loft. -/
def linesL (ph : Int) (b u e f n g : Int) (r : Int) : List ByteArray :=
  [sayB ⟨#[98, 108, 111, 98, 115]⟩ b 24, sayB ⟨#[98, 121, 116, 101, 115]⟩ u r, sayB ⟨#[101, 110, 116, 114, 105, 101, 115]⟩ e 10, (sayB ⟨#[102, 108, 105, 103, 104, 116, 115]⟩ f 6 ++ ⟨#[44, 32, 119, 97, 105, 116, 105, 110, 103, 32]⟩) ++ numB n, ((⟨#[99, 111, 108, 108, 101, 99, 116, 111, 114, 32]⟩ ++ phB ph) ++ ⟨#[32]⟩) ++ numB g]
def LnPost (z : Int) (L : List ByteArray) (w : World) (e : Ending) (w' : World) : Prop := ∃ v, e = .returned (.tuple #[v, .int .i64 z]) ∧ RT w' v (if z = 0 then L else []) ∧ Below w.heap.size w w'
theorem ln_no {z : Int} {L : List ByteArray} {w w' : World} (hz : z ≠ 0) (hb : Below w.heap.size w w') : LnPost z L w (.returned (.tuple #[.slice none 0 0, .int .i64 z])) w' :=
  ⟨_, rfl, by rw [if_neg hz]; exact RS.nil, hb⟩
theorem ln_ok {L : List ByteArray} {w W : World} {s0 s1 s2 s3 s4 : ByteArray} {k : Nat} (hk : k = W.heap.size) (hL : [s0, s1, s2, s3, s4] = L) (h0 : s0.size ≤ 1000) (h1 : s1.size ≤ 1000) (h2 : s2.size ≤ 1000) (h3 : s3.size ≤ 1000) (h4 : s4.size ≤ 1000) (hb : Below w.heap.size w W) :
    LnPost 0 L w (.returned (.tuple #[.slice (some ⟨k, 0, none⟩) 5 5, .int .i64 0])) (W.alloc (.cells #[.string s0, .string s1, .string s2, .string s3, .string s4] 9)) := by
  subst hL hk
  refine ⟨_, rfl, ?_, b_alloc hb _⟩
  rw [if_pos rfl]
  refine ⟨_, _, rfl, by simp, by simp [maxLen], by simp, fun h => by simp at h, fun j x hj => ⟨W.heap.size, 0, rfl, by simp, ?_⟩⟩
  have hc : ∀ o, (W.alloc (.cells #[.string s0, .string s1, .string s2, .string s3, .string s4] 9)).cell? ⟨W.heap.size, o, none⟩ = #[Value.string s0, .string s1, .string s2, .string s3, .string s4][o]? := fun o => cell_of_row _ _ _ _ _ _ (heap_alloc_new W _)
  rcases j with _ | _ | _ | _ | _ | j
  · cases hj; exact ⟨hc _, by omega⟩
  · cases hj; exact ⟨hc _, by omega⟩
  · cases hj; exact ⟨hc _, by omega⟩
  · cases hj; exact ⟨hc _, by omega⟩
  · cases hj; exact ⟨hc _, by omega⟩
  · simp at hj
theorem phB_0 : phB 0 = ⟨#[105, 100, 108, 101]⟩ := rfl
theorem phB_1 : phB 1 = ⟨#[109, 97, 114, 107, 105, 110, 103]⟩ := rfl
theorem phB_2 : phB 2 = ⟨#[115, 119, 101, 101, 112]⟩ := rfl
theorem l3_size {n m : Int} (hn : I64 n) (hm : I64 m) : ((sayB ⟨#[102, 108, 105, 103, 104, 116, 115]⟩ n 6 ++ ⟨#[44, 32, 119, 97, 105, 116, 105, 110, 103, 32]⟩) ++ numB m).size ≤ 1000 := by
  have n1 := say_size (s := ⟨#[102, 108, 105, 103, 104, 116, 115]⟩) (by decide) hn (m := 6) ⟨by decide, by decide⟩
  have n2 := numB_size hm
  simp only [ByteArray.size_append]
  have e1 : (⟨#[44, 32, 119, 97, 105, 116, 105, 110, 103, 32]⟩ : ByteArray).size = 10 := rfl
  omega
theorem l4_size {ph m : Int} (hm : I64 m) : (((⟨#[99, 111, 108, 108, 101, 99, 116, 111, 114, 32]⟩ ++ phB ph) ++ ⟨#[32]⟩) ++ numB m).size ≤ 1000 := by
  have n1 := phB_size ph
  have n2 := numB_size hm
  simp only [ByteArray.size_append]
  have e1 : (⟨#[32]⟩ : ByteArray).size = 1 := rfl
  have e2 : (⟨#[99, 111, 108, 108, 101, 99, 116, 111, 114, 32]⟩ : ByteArray).size = 10 := rfl
  omega
theorem l0_size {s : ByteArray} {n m : Int} (h : s.size ≤ 20) (hn : I64 n) (hm : I64 m) : (sayB s n m).size ≤ 1000 := Nat.le_trans (say_size h hn hm) (by decide)

set_option maxRecDepth 100000 in
set_option maxHeartbeats 8000000 in
theorem stats_Lines' (v u gv fv : Value) (bs : List Blob) (es : List Entry) (r t ph : Int) (pl : ByteArray) (gy : List ByteArray) (fl : List Flight) (w : World) (h : RBl w v bs) (g : RE w u es) (hg : RT w gv gy) (hfl : RF w fv fl) (z : Int) (hr : I64 r) (ht : Pow10 w) (hph : z = 0 → ph = 0 ∨ ph = 1 ∨ ph = 2)
    (hcnt : ∀ w, RBl w v bs → RE w u es → RT w gv gy → RF w fv fl → Calls Tryz.prog 4 #[.agg #[v, u, .int .i64 r, .int .i64 t, .int .i64 ph, gv, .string pl, fv]] w (CntPost z bs es fl w)) :
    Calls Tryz.prog 5 #[.agg #[v, u, .int .i64 r, .int .i64 t, .int .i64 ph, gv, .string pl, fv]] w (LnPost z (linesL ph bs.length (used bs) es.length fl.length (waits fl) gy.length r) w) := by
  unfold CntPost at hcnt
  have i1 : I64 (bs.length : Int) := i64_nat (by obtain ⟨_, _, _, _, _, hre, _⟩ := h; omega)
  have i3 : I64 (es.length : Int) := i64_nat (by obtain ⟨_, _, _, _, _, hre, _⟩ := g; omega)
  have i4 : I64 (fl.length : Int) := i64_nat (by obtain ⟨_, _, _, _, _, hre, _⟩ := hfl; omega)
  have i5 : I64 (gy.length : Int) := i64_nat (by obtain ⟨_, _, _, _, _, hre, _⟩ := hg; omega)
  have i2 := used_i64 bs
  have i6 := waits_i64 fl
  have hR := hid h
  have hE := hid g
  have hG := hid hg
  have hF := hid hfl
  obtain ⟨a, c, rfl, -⟩ := h
  obtain ⟨a2, c2, rfl, -⟩ := g
  obtain ⟨ga, gc, rfl, -⟩ := hg
  obtain ⟨fa, fc, rfl, -⟩ := hfl
  obtain ⟨w1, hw1⟩ : ∃ w1 : World, w1 = w.alloc (Obj.cells #[.slice a bs.length c, .slice a2 es.length c2, .int .i64 r, .int .i64 t, .int .i64 ph, .slice ga gy.length gc, .string pl, .slice fa fl.length fc] 31) := ⟨_, rfl⟩
  have hb1 := hid (show Below w.heap.size w w1 by rw [hw1]; exact b_alloc (Below.refl _ _) _)
  have hq1 := hid (show w1.heap[w.heap.size]? = some (.cells #[.slice a bs.length c, .slice a2 es.length c2, .int .i64 r, .int .i64 t, .int .i64 ph, .slice ga gy.length gc, .string pl, .slice fa fl.length fc] 31 (0, 0)) by rw [hw1]; exact heap_alloc_new w _)
  obtain ⟨x0, x1, x2, x3, x4, x5, x6, x7⟩ := box8f hq1.out
  by_cases hz : z = 0
  · subst hz
    simp only [cz_0] at hcnt
    replace hcnt := hid hcnt
    replace hph := hid (hph rfl)
    have g1 := hid (fun w (ht : Pow10 w) => stats_say ⟨#[98, 108, 111, 98, 115]⟩ bs.length 24 i1 ⟨by decide, by decide⟩ (by decide) w ht)
    have g2 := hid (fun w (ht : Pow10 w) => stats_say ⟨#[98, 121, 116, 101, 115]⟩ (used bs) r i2 hr (by decide) w ht)
    have g3 := hid (fun w (ht : Pow10 w) => stats_say ⟨#[101, 110, 116, 114, 105, 101, 115]⟩ es.length 10 i3 ⟨by decide, by decide⟩ (by decide) w ht)
    have g4 := hid (fun w (ht : Pow10 w) => stats_say ⟨#[102, 108, 105, 103, 104, 116, 115]⟩ fl.length 6 i4 ⟨by decide, by decide⟩ (by decide) w ht)
    have g5 := hid (fun w (ht : Pow10 w) => itoa_any (waits fl) i6 w ht)
    have g6 := hid (fun w (ht : Pow10 w) => itoa_any gy.length i5 w ht)
    have n1 : (sayB ⟨#[102, 108, 105, 103, 104, 116, 115]⟩ fl.length 6).size ≤ 67 := say_size (by decide) i4 ⟨by decide, by decide⟩
    have n2 := numB_size i6
    have n3 := numB_size i5
    have k1 : ¬ 9223372036854775807 < (sayB ⟨#[102, 108, 105, 103, 104, 116, 115]⟩ fl.length 6).size + 10 := by omega
    have k2 : ¬ 9223372036854775807 < (sayB ⟨#[102, 108, 105, 103, 104, 116, 115]⟩ fl.length 6).size + 10 + (numB (waits fl)).size := by omega
    have k15 : ¬ 9223372036854775807 < 15 + (numB gy.length).size := by omega
    have k18 : ¬ 9223372036854775807 < 18 + (numB gy.length).size := by omega
    have k16 : ¬ 9223372036854775807 < 16 + (numB gy.length).size := by omega
    have hfin := hid (fun W k hk hb => ln_ok (w := w) (W := W) (k := k) hk (show [sayB ⟨#[98, 108, 111, 98, 115]⟩ bs.length 24, sayB ⟨#[98, 121, 116, 101, 115]⟩ (used bs) r, sayB ⟨#[101, 110, 116, 114, 105, 101, 115]⟩ es.length 10, (sayB ⟨#[102, 108, 105, 103, 104, 116, 115]⟩ fl.length 6 ++ ⟨#[44, 32, 119, 97, 105, 116, 105, 110, 103, 32]⟩) ++ numB (waits fl), ((⟨#[99, 111, 108, 108, 101, 99, 116, 111, 114, 32]⟩ ++ phB ph) ++ ⟨#[32]⟩) ++ numB gy.length] = linesL ph bs.length (used bs) es.length fl.length (waits fl) gy.length r from rfl) (l0_size (by decide) i1 ⟨by decide, by decide⟩) (l0_size (by decide) i2 hr) (l0_size (by decide) i3 ⟨by decide, by decide⟩) (l3_size i4 i6) (l4_size i5) hb)
    generalize linesL ph bs.length (used bs) es.length fl.length (waits fl) gy.length r = L at *
    generalize used bs = U at *
    generalize waits fl = N at *
    replace ht := hid ht
    clear i1 i2 i3 i4 i5 i6 hr
    go_enter Tryz.func5, Tryz.ntmps5
    go_wp2_with fail
    rw [← hw1]
    clear hw1
    ((with_reducible refine (hcnt.out _ (hR.out.mono EBlob.stable hb1.out) (hE.out.mono EEntry.stable hb1.out) (hG.out.mono EStr.stable hb1.out) (hF.out.mono EFlight.stable hb1.out)).mono ?_); rintro e w3 ⟨rfl, b3⟩)
    have hq3 := hid (stays b3 hq1.out)
    have hb3 := hid (b_call hb1.out b3)
    have tb3 := hid (tab_below (tab_below ht.out hb1.out) b3)
    clear b3 hq1 hb1 x0 x1 x2 x3 x4 x5 x6 x7 ht hcnt hR hE hG hF
    have ix0 : ∀ w, (Instr.index 46 (.agg #[.string ⟨#[105, 100, 108, 101]⟩, .string ⟨#[109, 97, 114, 107, 105, 110, 103]⟩, .string ⟨#[115, 119, 101, 101, 112]⟩]) (.int .i64 0)).run Tryz.prog w = .ok (.string ⟨#[105, 100, 108, 101]⟩) w := fun _ => by kernel_rfl
    have ix1 : ∀ w, (Instr.index 46 (.agg #[.string ⟨#[105, 100, 108, 101]⟩, .string ⟨#[109, 97, 114, 107, 105, 110, 103]⟩, .string ⟨#[115, 119, 101, 101, 112]⟩]) (.int .i64 1)).run Tryz.prog w = .ok (.string ⟨#[109, 97, 114, 107, 105, 110, 103]⟩) w := fun _ => by kernel_rfl
    have ix2 : ∀ w, (Instr.index 46 (.agg #[.string ⟨#[105, 100, 108, 101]⟩, .string ⟨#[109, 97, 114, 107, 105, 110, 103]⟩, .string ⟨#[115, 119, 101, 101, 112]⟩]) (.int .i64 2)).run Tryz.prog w = .ok (.string ⟨#[115, 119, 101, 101, 112]⟩) w := fun _ => by kernel_rfl
    have tb0 := hid (tab_below tb3.out (Below.refl _ _).drew)
    have hqd : Hid (w3.drew.heap[w.heap.size]? = some (.cells #[.slice a bs.length c, .slice a2 es.length c2, .int .i64 r, .int .i64 t, .int .i64 ph, .slice ga gy.length gc, .string pl, .slice fa fl.length fc] 31 (0, 0))) := hid hq3.out
    have hbd := hid hb3.out.drew
    have hS0 := And.intro (box8f hqd.out).2.2.1 (And.intro (box8f hqd.out).2.2.2.2.2.1 (box8f hqd.out).2.2.2.2.2.2.2)
    obtain ⟨x0, x1, x2, x3, x4, x5, x6, x7⟩ := box8f hq3.out
    have l3 := heap_lt hq3.out
    rcases hph.out with rfl | rfl | rfl
    all_goals
      simp only [phB_0, phB_1, phB_2] at hfin
      clear hph
      go_wp2_with fail
      clear x0 x1 x2 x3 x4 x5 x6 x7 l3
      go_region_held3 (fun w' => w'.cell? ⟨w.heap.size, 2, none⟩ = some (.int .i64 r) ∧ w'.cell? ⟨w.heap.size, 5, none⟩ = some (.slice ga gy.length gc) ∧ w'.cell? ⟨w.heap.size, 7, none⟩ = some (.slice fa fl.length fc))
        (first
          | with_reducible exact hS0
          | with_reducible exact hS1
          | with_reducible exact hS2
          | with_reducible exact hS3
          | with_reducible exact hS4
          | with_reducible exact hS5
          | with_reducible exact hS6
          | go_keep
          | fail)
        ((first
          | ((with_reducible refine (g1.out w3.drew tb0.out).mono ?_)
             rintro e v1 ⟨rfl, b9⟩
             have tb1 := hid (tab_below tb0.out b9)
             have hq_1 := hid (stays b9 hqd.out)
             have hb_1 := hid (b_call hbd.out b9)
             have hS1 := And.intro (box8f hq_1.out).2.2.1 (And.intro (box8f hq_1.out).2.2.2.2.2.1 (box8f hq_1.out).2.2.2.2.2.2.2)
             clear b9)
          | ((with_reducible refine (g2.out v1 tb1.out).mono ?_)
             rintro e v2 ⟨rfl, b9⟩
             have tb2 := hid (tab_below tb1.out b9)
             have hq_2 := hid (stays b9 hq_1.out)
             have hb_2 := hid (b_call hb_1.out b9)
             have hS2 := And.intro (box8f hq_2.out).2.2.1 (And.intro (box8f hq_2.out).2.2.2.2.2.1 (box8f hq_2.out).2.2.2.2.2.2.2)
             clear b9)
          | ((with_reducible refine (g3.out v2 tb2.out).mono ?_)
             rintro e v3 ⟨rfl, b9⟩
             have tb3 := hid (tab_below tb2.out b9)
             have hq_3 := hid (stays b9 hq_2.out)
             have hb_3 := hid (b_call hb_2.out b9)
             have hS3 := And.intro (box8f hq_3.out).2.2.1 (And.intro (box8f hq_3.out).2.2.2.2.2.1 (box8f hq_3.out).2.2.2.2.2.2.2)
             clear b9)
          | ((with_reducible refine (g4.out v3 tb3.out).mono ?_)
             rintro e v4 ⟨rfl, b9⟩
             have tb4 := hid (tab_below tb3.out b9)
             have hq_4 := hid (stays b9 hq_3.out)
             have hb_4 := hid (b_call hb_3.out b9)
             have hS4 := And.intro (box8f hq_4.out).2.2.1 (And.intro (box8f hq_4.out).2.2.2.2.2.1 (box8f hq_4.out).2.2.2.2.2.2.2)
             clear b9)
          | ((with_reducible refine (g5.out v4 tb4.out).mono ?_)
             rintro e v5 ⟨rfl, b9⟩
             have tb5 := hid (tab_below tb4.out b9)
             have hq_5 := hid (stays b9 hq_4.out)
             have hb_5 := hid (b_call hb_4.out b9)
             have hS5 := And.intro (box8f hq_5.out).2.2.1 (And.intro (box8f hq_5.out).2.2.2.2.2.1 (box8f hq_5.out).2.2.2.2.2.2.2)
             clear b9)
          | ((with_reducible refine (g6.out v5 tb5.out).mono ?_)
             rintro e v6 ⟨rfl, b9⟩
             have tb6 := hid (tab_below tb5.out b9)
             have hq_6 := hid (stays b9 hq_5.out)
             have hb_6 := hid (b_call hb_5.out b9)
             have hS6 := And.intro (box8f hq_6.out).2.2.1 (And.intro (box8f hq_6.out).2.2.2.2.2.1 (box8f hq_6.out).2.2.2.2.2.2.2)
             clear b9)
          | fail))
      all_goals
        go_wp2_with fail
        go_ret2
        exact hfin.out _ _ rfl hb_6.out
  · have hzt : (z != 0) = true := by simp [hz]
    simp only [cz_no hz] at hcnt
    replace hcnt := hid hcnt
    have hd := hid (fun W hb => ln_no (L := linesL ph bs.length (used bs) es.length fl.length (waits fl) gy.length r) (w := w) (w' := W) hz hb)
    generalize linesL ph bs.length (used bs) es.length fl.length (waits fl) gy.length r = L at *
    replace hz := hid hz
    clear hph i1 i2 i3 i4 i5 i6
    go_enter Tryz.func5, Tryz.ntmps5
    go_wp2_with fail
    rw [← hw1]
    clear hw1
    ((with_reducible refine (hcnt.out _ (hR.out.mono EBlob.stable hb1.out) (hE.out.mono EEntry.stable hb1.out) (hG.out.mono EStr.stable hb1.out) (hF.out.mono EFlight.stable hb1.out)).mono ?_); rintro e w3 ⟨rfl, b3⟩)
    have hb3 := hid (b_call hb1.out b3)
    clear b3
    go_wp2_with fail
    go_ret2
    exact hd.out _ hb3.out
end Go.Proofs.YtpcnhldlfmdlhaaGreatDoor
