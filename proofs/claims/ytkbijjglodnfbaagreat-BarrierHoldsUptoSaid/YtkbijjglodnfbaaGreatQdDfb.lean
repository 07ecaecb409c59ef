/-
  slices.DeleteFunc on a row of blobs that the call owns.
-/
import Derived.Test.YtkbijjglodnfbaaGreatQdChc
import Derived.Test.YtkbijjglodnfbaaGreatQdOw3
import Derived.Test.YtkbijjglodnfbaaGreatQdMsL
namespace Go.Proofs.YtkbijjglodnfbaaGreat
open Go.RowKit

theorem OS.kt {α : Type} {e : TypeId} {s B : Nat} {cells : α → List Value} {w w' : World} {v : Value} {l : List α} (h : OS e s cells w B v l) (hk : KT w w') (he : e ≠ 80) : OS e s cells w' B v l := by
  obtain ⟨h1, h2⟩ := h
  exact ⟨h1, h2.imp id (fun ⟨g, cap, cur, hv, hB, hh, hr⟩ => ⟨g, cap, cur, hv, hB, hk _ _ _ _ hh he, hr⟩)⟩
theorem KT.grown {w w1 w' : World} {g : Nat} {cs : Array Value} {fr : Nat × Nat} (h : KT w w1) (hg : w1.heap[g]? = some (.cells cs 80 fr)) (hgr : w1.grownBy w' (some g)) : KT w w' := fun p cs' T fr' hp hT => by
  have h1 := h _ _ _ _ hp hT
  have hne := ne_type hg h1 (fun e => hT e.symm)
  exact (hgr.block p (heap_lt h1) (fun e => hne (by simpa using e))).trans h1

theorem put4B {w : World} {B g n cap i : Nat} {M : List (XR Blob)} {r y : XR Blob} (h : OS 80 4 (xc cBlob (·.data)) w B (.slice (some ⟨g, 0, none⟩) n cap) M) (hi : M[i]? = some y) :
    OS 80 4 (xc cBlob (·.data)) ((((w.setCell ⟨g, i * 4 + 0, none⟩ (.string r.x.digest)).setCell ⟨g, i * 4 + 1, none⟩ (.slice r.a r.x.data.length r.c)).setCell ⟨g, i * 4 + 2, none⟩ (.int .i64 r.x.pins)).setCell ⟨g, i * 4 + 3, none⟩ (.bool r.x.mark)) B (.slice (some ⟨g, 0, none⟩) n cap) (M.set i r) := by
  have hil := (List.getElem?_eq_some_iff.1 hi).1
  have h1 := OS.put (x' := ⟨{ y.x with digest := r.x.digest }, y.a, y.c⟩) (u := .string r.x.digest) h xcBlob_len hi (show 0 < 4 by decide) rfl
  have h2 := OS.put (x' := ⟨⟨r.x.digest, r.x.data, y.x.pins, y.x.mark⟩, r.a, r.c⟩) (u := .slice r.a r.x.data.length r.c) h1 xcBlob_len (List.getElem?_set_self hil) (show 1 < 4 by decide) rfl
  rw [List.set_set] at h2
  have h3 := OS.put (x' := ⟨⟨r.x.digest, r.x.data, r.x.pins, y.x.mark⟩, r.a, r.c⟩) (u := .int .i64 r.x.pins) h2 xcBlob_len (List.getElem?_set_self hil) (show 2 < 4 by decide) rfl
  rw [List.set_set] at h3
  have h4 := OS.put (x' := r) (u := .bool r.x.mark) h3 xcBlob_len (List.getElem?_set_self hil) (show 3 < 4 by decide) rfl
  rw [List.set_set] at h4
  exact h4
theorem filterX (q : Blob → Bool) (rs : List (XR Blob)) : (rs.filter (fun r => !q r.x)).map (·.x) = (rs.map (·.x)).filter (fun x => !q x) := by
  induction rs with
  | nil => rfl
  | cons r rs ih =>
    cases h : q r.x <;> simp [h, ih]

set_option maxRecDepth 100000 in
set_option maxHeartbeats 4000000 in
theorem deleteFunc_B (gf : Nat) (lb : Array Value) (q : Blob → Bool) (eg : ∀ args w, (callFunc gf args).run Tryz.prog w = .ok (.enter gf args) w) (v : Value) (l : List Blob) (B : Nat) (w : World) (h : OBlob w B v l) (hB : B ≤ w.heap.size) (hl : l.length * 56 ≤ 140737488351232) (hf : ∀ x ∈ l, FitBlob x)
    (hp : ∀ W x dv, Below B w W → KT w W → okBlob x → RB W dv x.data → Calls Tryz.prog gf (#[.agg #[.string x.digest, dv, .int .i64 x.pins, .bool x.mark]] ++ lb) W fun e w' => e = .returned (.bool (q x)) ∧ Below W.heap.size W w') :
    Calls Tryz.prog 124 #[v, .func (.func gf) #[] lb] w fun e w' => ∃ v', e = .returned v' ∧ OBlob w' B v' (l.filter (fun x => !q x)) ∧ Below B w w' ∧ KT w w' := by
  obtain ⟨i0, hi0, hz0, hz1, hz2⟩ := info_parts info_B
  have hrd := h.toR hl hf
  have hidx := hid (idxFunc_B gf lb q eg v l w hrd (fun W x dv hb ok rb => hp W x dv (hb.mono hB) (KT.of hb) ok rb))
  replace hp := hid hp
  replace hf := hid hf
  have hox := hid h
  obtain ⟨rs, rfl, hown, hcs⟩ := h
  rw [List.length_map] at hl
  rcases os_forms' hown with ⟨rfl, rfl⟩ | ⟨g, cap, rfl, hcap⟩
  · have h0 : idxOf q (([] : List (XR Blob)).map (·.x)) = -1 := rfl
    rw [h0] at hidx
    go_enter Tryz.func124, Tryz.ntmps124
    go_wp2_with fail
    ((with_reducible refine hidx.out.mono ?_); rintro e w1 ⟨rfl, b1⟩)
    have hb1 := hid (b1.mono hB)
    have hk1 := hid (KT.of b1)
    clear b1
    go_wp2_with fail
    go_ret
    exact ⟨_, rfl, OX.nil, hb1.out, hk1.out⟩
  · rcases idx_split q (rs.map (·.x)) with h1 | ⟨i, hi, h1, h2, h3⟩
    · rw [h1] at hidx
      have hfl := hid (filter_none h1)
      clear h1 hrd
      go_enter Tryz.func124, Tryz.ntmps124
      go_wp2_with fail
      ((with_reducible refine hidx.out.mono ?_); rintro e w1 ⟨rfl, b1⟩)
      have hb1 := hid (b1.mono hB)
      have ho1 := hid (OBlob.after hox.out b1)
      have hk1 := hid (KT.of b1)
      clear b1
      go_wp2_with fail
      go_ret
      exact ⟨_, rfl, by rw [hfl.out]; exact ho1.out, hb1.out, hk1.out⟩
    · rw [h1] at hidx
      have hi' : i < rs.length := by rw [List.length_map] at hi; exact hi
      have hD0 := hid (DelInv.start (q := fun r : XR Blob => q r.x) (l := rs) hi' (by simpa using h2) (fun j y hj hy => h3 j y.x hj (by rw [List.getElem?_map, hy]; rfl)))
      have hm1 : ((i : Int) == -1) = false := beq_eq_false_iff_ne.2 (by omega)
      clear h1 h2 h3 hrd hi hox
      go_enter Tryz.func124, Tryz.ntmps124
      go_wp2_with fail
      ((with_reducible refine hidx.out.mono ?_); rintro e w1 ⟨rfl, b1⟩)
      have hb1 := hid (b1.mono hB)
      have ho1 := hid (OS.below hown b1)
      have hk1 := hid (KT.of b1)
      replace hcs := hid hcs
      clear b1 hidx hown
      go_wp2_with fail
      go_loopw [5, 6, 7] (fun i5 j6 _ wr => ∃ (i j : Nat) (M : List (XR Blob)), i5 = .int .i64 (i : Int) ∧ j6 = .int .i64 (j : Int) ∧ Hid (DelInv (fun r : XR Blob => q r.x) rs M i j) ∧ Hid (OS 80 4 (xc cBlob (·.data)) wr B (.slice (some ⟨g, 0, none⟩) rs.length cap) M) ∧ Hid (KT w wr) ∧ Hid (Below B w wr)) (fun _ j6 _ _ => rs.length - (intOf j6).toNat)
      case atStart => exact ⟨i, i + 1, rs, rfl, by go_num, hD0, ho1, hk1, hb1⟩
      case round =>
        obtain ⟨i, j, M, rfl, rfl, hD, ho, hkr, hbr⟩ := hrel
        have hij := hD.out.lt
        have hjl := hD.out.le
        have hMl := hD.out.len
        obtain ⟨cur, hcur⟩ := OS.owns ho.out
        have hgB := OS.block ho.out g rfl
        by_cases hlt : j < rs.length
        · have hx : rs[j]? = some rs[j] := List.getElem?_eq_getElem hlt
          have hmem := List.getElem_mem hlt
          have hfx := hf.out _ (List.mem_map_of_mem hmem)
          have hcr := OS.kt (hcs.out _ hmem) hkr.out (by decide)
          generalize rs[j] = r at *
          have hxM : M[j]? = some r := hD.out.at_.trans hx
          have hxi : M[i]? = some M[i] := List.getElem?_eq_getElem (by omega)
          generalize M[i] = y at hxi
          have c0 := OS.cell (o := 0) ho.out xcBlob_len hxM rfl
          have c1 := OS.cell (o := 1) (u := .slice r.a r.x.data.length r.c) ho.out xcBlob_len hxM rfl
          have c2 := OS.cell (o := 2) ho.out xcBlob_len hxM rfl
          have c3 := OS.cell (o := 3) ho.out xcBlob_len hxM rfl
          simp only [Nat.add_zero] at c0
          have hsB : B ≤ wr.heap.size := Nat.le_trans hB hbr.out.size
          have hgl : g < wr.heap.size := heap_lt hcur
          have hwl : wr.heap.size < (wr.alloc (Obj.cells #[.string r.x.digest, .slice r.a r.x.data.length r.c, .int .i64 r.x.pins, .bool r.x.mark] 80)).heap.size := by simp
          have hba := hid (hbr.out.alloc hsB (Obj.cells #[.string r.x.digest, .slice r.a r.x.data.length r.c, .int .i64 r.x.pins, .bool r.x.mark] 80))
          have hka := hid (hkr.out.call (b_alloc (Below.refl _ _) (Obj.cells #[.string r.x.digest, .slice r.a r.x.data.length r.c, .int .i64 r.x.pins, .bool r.x.mark] 80)))
          have hoa := hid (OS.alloc ho.out (Obj.cells #[.string r.x.digest, .slice r.a r.x.data.length r.c, .int .i64 r.x.pins, .bool r.x.mark] 80))
          have hqa := hid (heap_alloc_new wr (Obj.cells #[.string r.x.digest, .slice r.a r.x.data.length r.c, .int .i64 r.x.pins, .bool r.x.mark] 80))
          have hcr2 : OS 5 1 cU8 wr B (.slice r.a r.x.data.length r.c) r.x.data := hcr
          have hcall := hp.out (wr.alloc (Obj.cells #[.string r.x.digest, .slice r.a r.x.data.length r.c, .int .i64 r.x.pins, .bool r.x.mark] 80)) r.x (.slice r.a r.x.data.length r.c) hba.out hka.out hfx.1 (reads_u8 (OS.alloc hcr2 _) (by have := hfx.2; omega))
          have hskip := hid (fun hq => hD.out.skip hx hq)
          have hkeep := hid (fun hq => hD.out.keep hx hq)
          have hj0 : (0 : Int) ≤ (j : Int) := by omega
          have hj1 : (j : Int) < (rs.length : Int) := by omega
          have hi0' : (0 : Int) ≤ (i : Int) := by omega
          have hi1 : (i : Int) < (rs.length : Int) := by omega
          clear hx hxM hcur hcr hcr2 hfx hmem
          cases hq : q r.x with
          | true =>
            rw [hq] at hcall
            replace hcall := hid hcall
            have hD2 := hid (hskip.out hq)
            clear hq hskip hkeep hxi
            go_wp2_with fail
            ((with_reducible refine hcall.out.mono ?_); rintro e w2 ⟨rfl, b2⟩)
            have ho2 := hid (OS.below hoa.out b2)
            have hk2 := hid (hka.out.call b2)
            have hb2 := hid (hba.out.trans (b2.mono (Nat.le_trans hsB (Nat.le_of_lt hwl))))
            clear b2
            go_wp2_with fail
            go_roundw
            case rel => exact ⟨i, j + 1, M, rfl, by go_num, hD2, ho2, hk2, hb2⟩
            case measure => simp [intOf]; omega
          | false =>
            rw [hq] at hcall
            replace hcall := hid hcall
            have hD2 := hid (hkeep.out hq)
            clear hq hskip hkeep
            go_wp2_with fail
            ((with_reducible refine hcall.out.mono ?_); rintro e w2 ⟨rfl, b2⟩)
            have ho2 := OS.below hoa.out b2
            have hq2 := stays b2 hqa.out
            obtain ⟨x0, x1, x2, x3⟩ := box4f hq2
            have hql := heap_lt hq2
            obtain ⟨cur2, hcur2⟩ := OS.owns ho2
            have d0 := OS.cell (o := 0) ho2 xcBlob_len hxi rfl
            have d1 := OS.cell (o := 1) (u := .slice y.a y.x.data.length y.c) ho2 xcBlob_len hxi rfl
            have d2 := OS.cell (o := 2) ho2 xcBlob_len hxi rfl
            have d3 := OS.cell (o := 3) ho2 xcBlob_len hxi rfl
            simp only [Nat.add_zero] at d0
            have f0 := frozen_heap hcur2 (i * 4)
            have f1 := frozen_heap hcur2 (i * 4 + 1)
            have f2 := frozen_heap hcur2 (i * 4 + 2)
            have f3 := frozen_heap hcur2 (i * 4 + 3)
            have hput := put4B (r := r) ho2 hxi
            simp only [Nat.add_zero] at hput
            replace hput := hid hput
            have hk2 := hid ((((((hka.out.call b2).set (o := i * 4) (u := .string r.x.digest) hcur2).set (o := i * 4 + 1) (u := .slice r.a r.x.data.length r.c) (set_cells hcur2)).set (o := i * 4 + 2) (u := .int .i64 r.x.pins) (set_cells (set_cells hcur2))).set (o := i * 4 + 3) (u := .bool r.x.mark) (set_cells (set_cells (set_cells hcur2)))))
            have hb2 := hid (((((hba.out.trans (b2.mono (Nat.le_trans hsB (Nat.le_of_lt hwl)))).setCell (p := ⟨g, i * 4, none⟩) hgB (.string r.x.digest)).setCell (p := ⟨g, i * 4 + 1, none⟩) hgB (.slice r.a r.x.data.length r.c)).setCell (p := ⟨g, i * 4 + 2, none⟩) hgB (.int .i64 r.x.pins)).setCell (p := ⟨g, i * 4 + 3, none⟩) hgB (.bool r.x.mark))
            clear b2 ho2 hcur2 hq2
            go_wp2_with fail
            go_roundw
            case rel => exact ⟨i + 1, j + 1, M.set i r, by go_num, by go_num, hD2, hput, hk2, hb2⟩
            case measure => simp [intOf]; omega
        · obtain rfl : j = rs.length := by omega
          have hdone := hid hD.out.done
          have hup := OS.upto (s := 4) (cells := xc cBlob (·.data)) xcBlob_len ho.out i (by omega)
          have hzv : ∀ w, (zeroValue 80).run Tryz.prog w = .ok (.agg #[.string ⟨#[]⟩, .slice none 0 0, .int .i64 0, .bool false]) w := fun w => by simp [zeroValue, typeInfo, hi0, hz0]
          obtain ⟨w3, hcl, ho3, hg3⟩ := clear_own (s := 4) (t := 22) (cells := xc cBlob (·.data)) Tryz.underlying22 hzv rfl (by simp [Value.cells, Value.oneCell']) hup (rs.length - i) (cap - i) (by omega) (by omega)
          rw [hdone.out] at ho3
          have hO3 := hid (show OBlob w3 B (.slice (some ⟨g, 0, none⟩) i cap) ((rs.map (·.x)).filter (fun x => !q x)) from ⟨_, filterX q rs, ho3, fun r hr => OS.apart hup (OS.kt (hcs.out r ((List.mem_filter.1 hr).1)) hkr.out (by decide)) (by decide) hg3⟩)
          have hk3 := hid (hkr.out.grown hcur hg3)
          have hb3 := hid (hbr.out.grown hg3 (by have := hbr.out.size; omega) (fun k hk => by simp at hk; omega))
          have hi0' : (0 : Int) ≤ (i : Int) := by omega
          have hi1 : (i : Int) ≤ (rs.length : Int) := by omega
          have hne : ¬ cap = i := by omega
          clear hzv hg3 hup ho hD hbr hi0 hz0 hz1 hz2 hcur ho3 hcs
          go_wp2_with fail
          go_ret
          exact ⟨_, rfl, hO3.out, hb3.out, hk3.out⟩
end Go.Proofs.YtkbijjglodnfbaaGreat
