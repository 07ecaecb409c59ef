/-
  StatsLines: what it answers. Printed by gen_st.py.
-/
import Derived.Test.YtpcnhldlfmdlhaaGreatDoorSxStJ
import Derived.Deep.RegionHeld3
import Derived.WideMake
import Derived.Carry
namespace Go.Proofs.YtpcnhldlfmdlhaaGreatDoor
open Go.RowKit Go.Maps

theorem push_set {α : Type} (l : Array α) (o o' : α) : (l.push o).setIfInBounds l.size o' = l.push o' := by
  apply Array.ext'
  simp
theorem run_mapNew {P : Program} (w : World) (mty kt et : TypeId) (clock : Nat) (es : Array MapEntry) (k : Int) (val : Value) (hm : P.underlying mty = some (.map kt et)) (hk : P.underlying kt = some (.int .i64))
    (hf : Instr.findNow (.int .i64) (.int .i64 k) es.toList 0 = some none) :
    (Instr.mapUpdate mty (.map (some w.heap.size)) (.int .i64 k) val).run P (w.alloc (.map es clock)) = .ok () (w.alloc (.map (es.push { key := .int .i64 k, val := val, born := clock }) (clock + 1))) := by
  have hb : (w.alloc (.map es clock)).heap[w.heap.size]? = some (.map es clock) := heap_alloc_new w _
  have hc : (Instr.checkKey false 10000 kt (.int .i64 k)).run P (w.alloc (.map es clock)) = .ok () (w.alloc (.map es clock)) := MapKept.run_checkKey (k := .int .i64 k) hk (by simp [MapKept.IsKey]) false 9999
  simp [Instr.mapUpdate, run_underlying hm, MapKept.run_getObj_map hb, hc, MapKept.run_findKey hk hf, MapKept.run_setObj_map _ hb, Result.andThen]
  show ({ w with heap := (w.heap.push _).setIfInBounds w.heap.size _ } : World) = { w with heap := w.heap.push _ }
  rw [push_set]
theorem run_mapAt {P : Program} (w : World) (mty kt et : TypeId) (clock : Nat) (es : Array MapEntry) (k : Int) (i : Nat) (val : Value) (hm : P.underlying mty = some (.map kt et)) (hk : P.underlying kt = some (.int .i64))
    (hf : Instr.findNow (.int .i64) (.int .i64 k) es.toList 0 = some (some (i, val))) :
    (Instr.lookup mty (.map (some w.heap.size)) (.int .i64 k) false).run P (w.alloc (.map es clock)) = .ok val (w.alloc (.map es clock)) := by
  have hb : (w.alloc (.map es clock)).heap[w.heap.size]? = some (.map es clock) := heap_alloc_new w _
  have hc : (Instr.checkKey es.isEmpty 10000 kt (.int .i64 k)).run P (w.alloc (.map es clock)) = .ok () (w.alloc (.map es clock)) := MapKept.run_checkKey (k := .int .i64 k) hk (by simp [MapKept.IsKey]) es.isEmpty 9999
  simp [Instr.lookup, run_underlying hm, MapKept.run_getObj_map hb, hc, MapKept.run_findKey hk hf, Result.andThen]
theorem cat3 (a b c : ByteArray) : (a ++ b) ++ c = a ++ (b ++ c) := by
  apply ByteArray.ext
  simp [Array.append_assoc]
theorem say_ref {s s2 o : ByteArray} {n m : Int} (h1 : s ++ ⟨#[32]⟩ = s2) (h2 : ⟨#[32, 111, 102, 32]⟩ ++ numB m = o) : sayB s n m = (s2 ++ numB n) ++ o := by
  unfold sayB
  rw [h1, cat3, h2]
def phR (ph : Int) : ByteArray := phB ph ++ ⟨#[32]⟩
theorem phR_0 : phR 0 = ⟨#[105, 100, 108, 101, 32]⟩ := rfl
theorem phR_1 : phR 1 = ⟨#[109, 97, 114, 107, 105, 110, 103, 32]⟩ := rfl
theorem phR_2 : phR 2 = ⟨#[115, 119, 101, 101, 112, 32]⟩ := rfl
theorem phR_size (ph : Int) : (phR ph).size ≤ 8 := by
  have := phB_size ph
  unfold phR
  simp only [ByteArray.size_append]
  have e1 : (⟨#[32]⟩ : ByteArray).size = 1 := rfl
  omega
theorem lines_ref (ph b u e f n g r : Int) : [(⟨#[98, 108, 111, 98, 115, 32]⟩ ++ numB b) ++ ⟨#[32, 111, 102, 32, 50, 52]⟩, ((⟨#[98, 121, 116, 101, 115, 32]⟩ ++ numB u) ++ ⟨#[32, 111, 102, 32]⟩) ++ numB r, (⟨#[101, 110, 116, 114, 105, 101, 115, 32]⟩ ++ numB e) ++ ⟨#[32, 111, 102, 32, 49, 48]⟩, ((⟨#[102, 108, 105, 103, 104, 116, 115, 32]⟩ ++ numB f) ++ ⟨#[32, 111, 102, 32, 54, 44, 32, 119, 97, 105, 116, 105, 110, 103, 32]⟩) ++ numB n, (⟨#[99, 111, 108, 108, 101, 99, 116, 111, 114, 32]⟩ ++ phR ph) ++ numB g] = linesL ph b u e f n g r := by
  have e0 : sayB ⟨#[98, 108, 111, 98, 115]⟩ b 24 = (⟨#[98, 108, 111, 98, 115, 32]⟩ ++ numB b) ++ ⟨#[32, 111, 102, 32, 50, 52]⟩ := say_ref rfl (by kernel_rfl)
  have e2 : sayB ⟨#[101, 110, 116, 114, 105, 101, 115]⟩ e 10 = (⟨#[101, 110, 116, 114, 105, 101, 115, 32]⟩ ++ numB e) ++ ⟨#[32, 111, 102, 32, 49, 48]⟩ := say_ref rfl (by kernel_rfl)
  have e3 : sayB ⟨#[102, 108, 105, 103, 104, 116, 115]⟩ f 6 = (⟨#[102, 108, 105, 103, 104, 116, 115, 32]⟩ ++ numB f) ++ ⟨#[32, 111, 102, 32, 54]⟩ := say_ref rfl (by kernel_rfl)
  unfold linesL
  rw [e0, e2, e3, cat3 _ _ (⟨#[44, 32, 119, 97, 105, 116, 105, 110, 103, 32]⟩ : ByteArray)]
  unfold sayB phR
  rw [cat3 ⟨#[99, 111, 108, 108, 101, 99, 116, 111, 114, 32]⟩]
  rfl
set_option maxRecDepth 100000 in
set_option maxHeartbeats 8000000 in
theorem ref_StatsLines' (v u gv fv : Value) (bs : List Blob) (es : List Entry) (r t ph : Int) (pl : ByteArray) (gy : List ByteArray) (fl : List Flight) (w : World) (h : RBl w v bs) (g : RE w u es) (hg : RT w gv gy) (hfl : RF w fv fl) (z : Int) (hr : I64 r) (ht : Pow10 w) (hph : z = 0 → ph = 0 ∨ ph = 1 ∨ ph = 2)
    (hcnt : ∀ w, RBl w v bs → RE w u es → RT w gv gy → RF w fv fl → Calls Tryz.prog 6 #[.agg #[v, u, .int .i64 r, .int .i64 t, .int .i64 ph, gv, .string pl, fv]] w (CntPost z bs es fl w)) :
    Calls Tryz.prog 7 #[.agg #[v, u, .int .i64 r, .int .i64 t, .int .i64 ph, gv, .string pl, fv]] w (LnPost z (linesL ph bs.length (used bs) es.length fl.length (waits fl) gy.length r) w) := by
  unfold CntPost at hcnt
  have i1 : I64 (bs.length : Int) := i64_nat (by obtain ⟨_, _, _, _, _, hre, _⟩ := h; omega)
  have i3 : I64 (es.length : Int) := i64_nat (by obtain ⟨_, _, _, _, _, hre, _⟩ := g; omega)
  have i4 : I64 (fl.length : Int) := i64_nat (by obtain ⟨_, _, _, _, _, hre, _⟩ := hfl; omega)
  have i5 : I64 (gy.length : Int) := i64_nat (by obtain ⟨_, _, _, _, _, hre, _⟩ := hg; omega)
  have i2 := used_i64 bs
  have i6 := waits_i64 fl
  have hR := hid h
  have hE := hid g
  have hG := hid hg
  have hF := hid hfl
  obtain ⟨a, c, rfl, -⟩ := h
  obtain ⟨a2, c2, rfl, -⟩ := g
  obtain ⟨ga, gc, rfl, -⟩ := hg
  obtain ⟨fa, fc, rfl, -⟩ := hfl
  obtain ⟨w1, hw1⟩ : ∃ w1 : World, w1 = w.alloc (Obj.cells #[.slice a bs.length c, .slice a2 es.length c2, .int .i64 r, .int .i64 t, .int .i64 ph, .slice ga gy.length gc, .string pl, .slice fa fl.length fc] 31) := ⟨_, rfl⟩
  have hb1 := hid (show Below w.heap.size w w1 by rw [hw1]; exact b_alloc (Below.refl _ _) _)
  have hq1 := hid (show w1.heap[w.heap.size]? = some (.cells #[.slice a bs.length c, .slice a2 es.length c2, .int .i64 r, .int .i64 t, .int .i64 ph, .slice ga gy.length gc, .string pl, .slice fa fl.length fc] 31 (0, 0)) by rw [hw1]; exact heap_alloc_new w _)
  obtain ⟨x0, x1, x2, x3, x4, x5, x6, x7⟩ := box8f hq1.out
  by_cases hz : z = 0
  · subst hz
    simp only [cz_0] at hcnt
    replace hcnt := hid hcnt
    replace hph := hid (hph rfl)
    have g1 := hid (fun w (ht : Pow10 w) => itoa_any bs.length i1 w ht)
    have g2 := hid (fun w (ht : Pow10 w) => itoa_any (used bs) i2 w ht)
    have g3 := hid (fun w (ht : Pow10 w) => itoa_any r hr w ht)
    have g4 := hid (fun w (ht : Pow10 w) => itoa_any es.length i3 w ht)
    have g5 := hid (fun w (ht : Pow10 w) => itoa_any fl.length i4 w ht)
    have g6 := hid (fun w (ht : Pow10 w) => itoa_any (waits fl) i6 w ht)
    have g7 := hid (fun w (ht : Pow10 w) => itoa_any gy.length i5 w ht)
    have n1 := numB_size i1
    have n2 := numB_size i2
    have n3 := numB_size hr
    have n4 := numB_size i3
    have n5 := numB_size i4
    have n6 := numB_size i6
    have n7 := numB_size i5
    have np := phR_size ph
    have k0 : ¬ 9223372036854775807 < 6 + (numB bs.length).size := by omega
    have k1 : ¬ 9223372036854775807 < 6 + (numB bs.length).size + 6 := by omega
    have k2 : ¬ 9223372036854775807 < 6 + (numB (used bs)).size := by omega
    have k3 : ¬ 9223372036854775807 < 6 + (numB (used bs)).size + 4 := by omega
    have k4 : ¬ 9223372036854775807 < 6 + (numB (used bs)).size + 4 + (numB r).size := by omega
    have k5 : ¬ 9223372036854775807 < 8 + (numB es.length).size := by omega
    have k6 : ¬ 9223372036854775807 < 8 + (numB es.length).size + 6 := by omega
    have k7 : ¬ 9223372036854775807 < 8 + (numB fl.length).size := by omega
    have k8 : ¬ 9223372036854775807 < 8 + (numB fl.length).size + 15 := by omega
    have k9 : ¬ 9223372036854775807 < 8 + (numB fl.length).size + 15 + (numB (waits fl)).size := by omega
    have k10 : ¬ 9223372036854775807 < 15 + (numB gy.length).size := by omega
    have k11 : ¬ 9223372036854775807 < 18 + (numB gy.length).size := by omega
    have k12 : ¬ 9223372036854775807 < 16 + (numB gy.length).size := by omega
    have hfin := hid (fun W k hk hb => ln_ok (w := w) (W := W) (k := k) hk (show [(⟨#[98, 108, 111, 98, 115, 32]⟩ ++ numB bs.length) ++ ⟨#[32, 111, 102, 32, 50, 52]⟩, ((⟨#[98, 121, 116, 101, 115, 32]⟩ ++ numB (used bs)) ++ ⟨#[32, 111, 102, 32]⟩) ++ numB r, (⟨#[101, 110, 116, 114, 105, 101, 115, 32]⟩ ++ numB es.length) ++ ⟨#[32, 111, 102, 32, 49, 48]⟩, ((⟨#[102, 108, 105, 103, 104, 116, 115, 32]⟩ ++ numB fl.length) ++ ⟨#[32, 111, 102, 32, 54, 44, 32, 119, 97, 105, 116, 105, 110, 103, 32]⟩) ++ numB (waits fl), (⟨#[99, 111, 108, 108, 101, 99, 116, 111, 114, 32]⟩ ++ phR ph) ++ numB gy.length] = linesL ph bs.length (used bs) es.length fl.length (waits fl) gy.length r from lines_ref ph bs.length (used bs) es.length fl.length (waits fl) gy.length r) (by simp only [ByteArray.size_append]; have e1 : (⟨#[98, 108, 111, 98, 115, 32]⟩ : ByteArray).size = 6 := rfl; have e2 : (⟨#[32, 111, 102, 32, 50, 52]⟩ : ByteArray).size = 6 := rfl; omega) (by simp only [ByteArray.size_append]; have e1 : (⟨#[98, 121, 116, 101, 115, 32]⟩ : ByteArray).size = 6 := rfl; have e2 : (⟨#[32, 111, 102, 32]⟩ : ByteArray).size = 4 := rfl; omega) (by simp only [ByteArray.size_append]; have e1 : (⟨#[101, 110, 116, 114, 105, 101, 115, 32]⟩ : ByteArray).size = 8 := rfl; have e2 : (⟨#[32, 111, 102, 32, 49, 48]⟩ : ByteArray).size = 6 := rfl; omega) (by simp only [ByteArray.size_append]; have e1 : (⟨#[102, 108, 105, 103, 104, 116, 115, 32]⟩ : ByteArray).size = 8 := rfl; have e2 : (⟨#[32, 111, 102, 32, 54, 44, 32, 119, 97, 105, 116, 105, 110, 103, 32]⟩ : ByteArray).size = 15 := rfl; omega) (by simp only [ByteArray.size_append]; have e1 : (⟨#[99, 111, 108, 108, 101, 99, 116, 111, 114, 32]⟩ : ByteArray).size = 10 := rfl; omega) hb)
    generalize linesL ph bs.length (used bs) es.length fl.length (waits fl) gy.length r = L at *
    generalize used bs = U at *
    generalize waits fl = N at *
    replace ht := hid ht
    clear i1 i2 i3 i4 i5 i6 hr
    go_enter Tryz.func7, Tryz.ntmps7
    go_wp2_with fail
    rw [← hw1]
    clear hw1
    ((with_reducible refine (hcnt.out _ (hR.out.mono EBlob.stable hb1.out) (hE.out.mono EEntry.stable hb1.out) (hG.out.mono EStr.stable hb1.out) (hF.out.mono EFlight.stable hb1.out)).mono ?_); rintro e w3 ⟨rfl, b3⟩)
    have hq3 := hid (stays b3 hq1.out)
    have hb3 := hid (b_call hb1.out b3)
    have tb3 := hid (tab_below (tab_below ht.out hb1.out) b3)
    clear b3 hq1 hb1 x0 x1 x2 x3 x4 x5 x6 x7 ht hcnt hR hE hG hF
    have mm0 := run_makeMap (P := Tryz.prog) 47 w3
    have mu0 : (Instr.mapUpdate 47 (.map (some w3.heap.size)) (.int .i64 0) (.string ⟨#[105, 100, 108, 101, 32]⟩)).run Tryz.prog (w3.alloc (.map #[] 0)) = .ok () (w3.alloc (.map #[{ key := .int .i64 0, val := .string ⟨#[105, 100, 108, 101, 32]⟩, born := 0 }] 1)) := run_mapNew w3 _ _ _ 0 #[] 0 _ Tryz.underlying47 Tryz.underlying3 rfl
    have mu1 : (Instr.mapUpdate 47 (.map (some w3.heap.size)) (.int .i64 1) (.string ⟨#[109, 97, 114, 107, 105, 110, 103, 32]⟩)).run Tryz.prog (w3.alloc (.map #[{ key := .int .i64 0, val := .string ⟨#[105, 100, 108, 101, 32]⟩, born := 0 }] 1)) = .ok () (w3.alloc (.map #[{ key := .int .i64 0, val := .string ⟨#[105, 100, 108, 101, 32]⟩, born := 0 }, { key := .int .i64 1, val := .string ⟨#[109, 97, 114, 107, 105, 110, 103, 32]⟩, born := 1 }] 2)) := run_mapNew w3 _ _ _ 1 #[{ key := .int .i64 0, val := .string ⟨#[105, 100, 108, 101, 32]⟩, born := 0 }] 1 _ Tryz.underlying47 Tryz.underlying3 rfl
    have mu2 : (Instr.mapUpdate 47 (.map (some w3.heap.size)) (.int .i64 2) (.string ⟨#[115, 119, 101, 101, 112, 32]⟩)).run Tryz.prog (w3.alloc (.map #[{ key := .int .i64 0, val := .string ⟨#[105, 100, 108, 101, 32]⟩, born := 0 }, { key := .int .i64 1, val := .string ⟨#[109, 97, 114, 107, 105, 110, 103, 32]⟩, born := 1 }] 2)) = .ok () (w3.alloc (.map #[{ key := .int .i64 0, val := .string ⟨#[105, 100, 108, 101, 32]⟩, born := 0 }, { key := .int .i64 1, val := .string ⟨#[109, 97, 114, 107, 105, 110, 103, 32]⟩, born := 1 }, { key := .int .i64 2, val := .string ⟨#[115, 119, 101, 101, 112, 32]⟩, born := 2 }] 3)) := run_mapNew w3 _ _ _ 2 #[{ key := .int .i64 0, val := .string ⟨#[105, 100, 108, 101, 32]⟩, born := 0 }, { key := .int .i64 1, val := .string ⟨#[109, 97, 114, 107, 105, 110, 103, 32]⟩, born := 1 }] 2 _ Tryz.underlying47 Tryz.underlying3 rfl
    have ml0 : (Instr.lookup 47 (.map (some w3.heap.size)) (.int .i64 0) false).run Tryz.prog (w3.alloc (.map #[{ key := .int .i64 0, val := .string ⟨#[105, 100, 108, 101, 32]⟩, born := 0 }, { key := .int .i64 1, val := .string ⟨#[109, 97, 114, 107, 105, 110, 103, 32]⟩, born := 1 }, { key := .int .i64 2, val := .string ⟨#[115, 119, 101, 101, 112, 32]⟩, born := 2 }] 3)) = .ok (.string ⟨#[105, 100, 108, 101, 32]⟩) (w3.alloc (.map #[{ key := .int .i64 0, val := .string ⟨#[105, 100, 108, 101, 32]⟩, born := 0 }, { key := .int .i64 1, val := .string ⟨#[109, 97, 114, 107, 105, 110, 103, 32]⟩, born := 1 }, { key := .int .i64 2, val := .string ⟨#[115, 119, 101, 101, 112, 32]⟩, born := 2 }] 3)) := run_mapAt w3 _ _ _ 3 #[{ key := .int .i64 0, val := .string ⟨#[105, 100, 108, 101, 32]⟩, born := 0 }, { key := .int .i64 1, val := .string ⟨#[109, 97, 114, 107, 105, 110, 103, 32]⟩, born := 1 }, { key := .int .i64 2, val := .string ⟨#[115, 119, 101, 101, 112, 32]⟩, born := 2 }] 0 0 _ Tryz.underlying47 Tryz.underlying3 rfl
    have ml1 : (Instr.lookup 47 (.map (some w3.heap.size)) (.int .i64 1) false).run Tryz.prog (w3.alloc (.map #[{ key := .int .i64 0, val := .string ⟨#[105, 100, 108, 101, 32]⟩, born := 0 }, { key := .int .i64 1, val := .string ⟨#[109, 97, 114, 107, 105, 110, 103, 32]⟩, born := 1 }, { key := .int .i64 2, val := .string ⟨#[115, 119, 101, 101, 112, 32]⟩, born := 2 }] 3)) = .ok (.string ⟨#[109, 97, 114, 107, 105, 110, 103, 32]⟩) (w3.alloc (.map #[{ key := .int .i64 0, val := .string ⟨#[105, 100, 108, 101, 32]⟩, born := 0 }, { key := .int .i64 1, val := .string ⟨#[109, 97, 114, 107, 105, 110, 103, 32]⟩, born := 1 }, { key := .int .i64 2, val := .string ⟨#[115, 119, 101, 101, 112, 32]⟩, born := 2 }] 3)) := run_mapAt w3 _ _ _ 3 #[{ key := .int .i64 0, val := .string ⟨#[105, 100, 108, 101, 32]⟩, born := 0 }, { key := .int .i64 1, val := .string ⟨#[109, 97, 114, 107, 105, 110, 103, 32]⟩, born := 1 }, { key := .int .i64 2, val := .string ⟨#[115, 119, 101, 101, 112, 32]⟩, born := 2 }] 1 1 _ Tryz.underlying47 Tryz.underlying3 rfl
    have ml2 : (Instr.lookup 47 (.map (some w3.heap.size)) (.int .i64 2) false).run Tryz.prog (w3.alloc (.map #[{ key := .int .i64 0, val := .string ⟨#[105, 100, 108, 101, 32]⟩, born := 0 }, { key := .int .i64 1, val := .string ⟨#[109, 97, 114, 107, 105, 110, 103, 32]⟩, born := 1 }, { key := .int .i64 2, val := .string ⟨#[115, 119, 101, 101, 112, 32]⟩, born := 2 }] 3)) = .ok (.string ⟨#[115, 119, 101, 101, 112, 32]⟩) (w3.alloc (.map #[{ key := .int .i64 0, val := .string ⟨#[105, 100, 108, 101, 32]⟩, born := 0 }, { key := .int .i64 1, val := .string ⟨#[109, 97, 114, 107, 105, 110, 103, 32]⟩, born := 1 }, { key := .int .i64 2, val := .string ⟨#[115, 119, 101, 101, 112, 32]⟩, born := 2 }] 3)) := run_mapAt w3 _ _ _ 3 #[{ key := .int .i64 0, val := .string ⟨#[105, 100, 108, 101, 32]⟩, born := 0 }, { key := .int .i64 1, val := .string ⟨#[109, 97, 114, 107, 105, 110, 103, 32]⟩, born := 1 }, { key := .int .i64 2, val := .string ⟨#[115, 119, 101, 101, 112, 32]⟩, born := 2 }] 2 2 _ Tryz.underlying47 Tryz.underlying3 rfl
    obtain ⟨w4, hw4⟩ : ∃ w4 : World, w4 = w3.alloc (.map #[{ key := .int .i64 0, val := .string ⟨#[105, 100, 108, 101, 32]⟩, born := 0 }, { key := .int .i64 1, val := .string ⟨#[109, 97, 114, 107, 105, 110, 103, 32]⟩, born := 1 }, { key := .int .i64 2, val := .string ⟨#[115, 119, 101, 101, 112, 32]⟩, born := 2 }] 3) := ⟨_, rfl⟩
    have hq4 : Hid (w4.heap[w.heap.size]? = some (.cells #[.slice a bs.length c, .slice a2 es.length c2, .int .i64 r, .int .i64 t, .int .i64 ph, .slice ga gy.length gc, .string pl, .slice fa fl.length fc] 31 (0, 0))) := hid (by rw [hw4]; exact hold hq3.out)
    have hb4 : Hid (Below w.heap.size w w4) := hid (by rw [hw4]; exact b_alloc hb3.out _)
    have tb4 : Hid (Pow10 w4) := hid (by rw [hw4]; exact tab_below tb3.out (b_alloc (Below.refl _ _) _))
    replace hw4 := hid hw4
    have tb0 := hid (tab_below tb4.out (Below.refl _ _).drew)
    have hqd : Hid (w4.drew.heap[w.heap.size]? = some (.cells #[.slice a bs.length c, .slice a2 es.length c2, .int .i64 r, .int .i64 t, .int .i64 ph, .slice ga gy.length gc, .string pl, .slice fa fl.length fc] 31 (0, 0))) := hid hq4.out
    have hbd := hid hb4.out.drew
    have hS0 := And.intro (box8f hqd.out).2.2.1 (And.intro (box8f hqd.out).2.2.2.2.2.1 (box8f hqd.out).2.2.2.2.2.2.2)
    obtain ⟨x0, x1, x2, x3, x4, x5, x6, x7⟩ := box8f hq3.out
    have l3 := heap_lt hq3.out
    rcases hph.out with rfl | rfl | rfl
    all_goals
      simp only [phR_0, phR_1, phR_2] at hfin
      clear hph
      go_wp2_with fail
      rw [← hw4.out]
      clear hw4 mm0 mu0 mu1 mu2 ml0 ml1 ml2
      clear x0 x1 x2 x3 x4 x5 x6 x7 l3
      go_region_held3 (fun w' => w'.cell? ⟨w.heap.size, 2, none⟩ = some (.int .i64 r) ∧ w'.cell? ⟨w.heap.size, 5, none⟩ = some (.slice ga gy.length gc) ∧ w'.cell? ⟨w.heap.size, 7, none⟩ = some (.slice fa fl.length fc))
        (first
          | with_reducible exact hS0
          | with_reducible exact hS1
          | with_reducible exact hS2
          | with_reducible exact hS3
          | with_reducible exact hS4
          | with_reducible exact hS5
          | with_reducible exact hS6
          | with_reducible exact hS7
          | go_keep
          | fail)
        ((first
          | ((with_reducible refine (g1.out w4.drew tb0.out).mono ?_)
             rintro e v1 ⟨rfl, b9⟩
             have tb1 := hid (tab_below tb0.out b9)
             have hq_1 := hid (stays b9 hqd.out)
             have hb_1 := hid (b_call hbd.out b9)
             have hS1 := And.intro (box8f hq_1.out).2.2.1 (And.intro (box8f hq_1.out).2.2.2.2.2.1 (box8f hq_1.out).2.2.2.2.2.2.2)
             clear b9)
          | ((with_reducible refine (g2.out v1 tb1.out).mono ?_)
             rintro e v2 ⟨rfl, b9⟩
             have tb2 := hid (tab_below tb1.out b9)
             have hq_2 := hid (stays b9 hq_1.out)
             have hb_2 := hid (b_call hb_1.out b9)
             have hS2 := And.intro (box8f hq_2.out).2.2.1 (And.intro (box8f hq_2.out).2.2.2.2.2.1 (box8f hq_2.out).2.2.2.2.2.2.2)
             clear b9)
          | ((with_reducible refine (g3.out v2 tb2.out).mono ?_)
             rintro e v3 ⟨rfl, b9⟩
             have tb3 := hid (tab_below tb2.out b9)
             have hq_3 := hid (stays b9 hq_2.out)
             have hb_3 := hid (b_call hb_2.out b9)
             have hS3 := And.intro (box8f hq_3.out).2.2.1 (And.intro (box8f hq_3.out).2.2.2.2.2.1 (box8f hq_3.out).2.2.2.2.2.2.2)
             clear b9)
          | ((with_reducible refine (g4.out v3 tb3.out).mono ?_)
             rintro e v4 ⟨rfl, b9⟩
             have tb4 := hid (tab_below tb3.out b9)
             have hq_4 := hid (stays b9 hq_3.out)
             have hb_4 := hid (b_call hb_3.out b9)
             have hS4 := And.intro (box8f hq_4.out).2.2.1 (And.intro (box8f hq_4.out).2.2.2.2.2.1 (box8f hq_4.out).2.2.2.2.2.2.2)
             clear b9)
          | ((with_reducible refine (g5.out v4 tb4.out).mono ?_)
             rintro e v5 ⟨rfl, b9⟩
             have tb5 := hid (tab_below tb4.out b9)
             have hq_5 := hid (stays b9 hq_4.out)
             have hb_5 := hid (b_call hb_4.out b9)
             have hS5 := And.intro (box8f hq_5.out).2.2.1 (And.intro (box8f hq_5.out).2.2.2.2.2.1 (box8f hq_5.out).2.2.2.2.2.2.2)
             clear b9)
          | ((with_reducible refine (g6.out v5 tb5.out).mono ?_)
             rintro e v6 ⟨rfl, b9⟩
             have tb6 := hid (tab_below tb5.out b9)
             have hq_6 := hid (stays b9 hq_5.out)
             have hb_6 := hid (b_call hb_5.out b9)
             have hS6 := And.intro (box8f hq_6.out).2.2.1 (And.intro (box8f hq_6.out).2.2.2.2.2.1 (box8f hq_6.out).2.2.2.2.2.2.2)
             clear b9)
          | ((with_reducible refine (g7.out v6 tb6.out).mono ?_)
             rintro e v7 ⟨rfl, b9⟩
             have tb7 := hid (tab_below tb6.out b9)
             have hq_7 := hid (stays b9 hq_6.out)
             have hb_7 := hid (b_call hb_6.out b9)
             have hS7 := And.intro (box8f hq_7.out).2.2.1 (And.intro (box8f hq_7.out).2.2.2.2.2.1 (box8f hq_7.out).2.2.2.2.2.2.2)
             clear b9)
          | fail))
      all_goals
        go_wp2_with fail
        go_ret2
        exact hfin.out _ _ rfl hb_7.out
  · have hzt : (z != 0) = true := by simp [hz]
    simp only [cz_no hz] at hcnt
    replace hcnt := hid hcnt
    have hd := hid (fun W hb => ln_no (L := linesL ph bs.length (used bs) es.length fl.length (waits fl) gy.length r) (w := w) (w' := W) hz hb)
    generalize linesL ph bs.length (used bs) es.length fl.length (waits fl) gy.length r = L at *
    replace hz := hid hz
    clear hph i1 i2 i3 i4 i5 i6
    go_enter Tryz.func7, Tryz.ntmps7
    go_wp2_with fail
    rw [← hw1]
    clear hw1
    ((with_reducible refine (hcnt.out _ (hR.out.mono EBlob.stable hb1.out) (hE.out.mono EEntry.stable hb1.out) (hG.out.mono EStr.stable hb1.out) (hF.out.mono EFlight.stable hb1.out)).mono ?_); rintro e w3 ⟨rfl, b3⟩)
    have hb3 := hid (b_call hb1.out b3)
    clear b3
    go_wp2_with fail
    go_ret2
    exact hd.out _ hb3.out
end Go.Proofs.YtpcnhldlfmdlhaaGreatDoor
