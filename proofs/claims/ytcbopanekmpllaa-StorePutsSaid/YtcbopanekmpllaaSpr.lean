/-
  The reference's StorePut: what it answers. Printed by gen_sp.py.
-/
import Derived.Test.YtcbopanekmpllaaSpL
namespace Go.Proofs.Ytcbopanekmpllaa
open Go.RowKit

set_option maxRecDepth 100000 in
set_option maxHeartbeats 4000000 in
theorem ref_StorePut' (v u b : Value) (bs : List Blob) (es : List Entry) (r t : Int) (s : ByteArray) (ps : List Part) (w : World) (h : RBl w v bs) (g : RE w u es) (gp : RP w b ps) (z1 z2 z3 z4 e5 : Int) (L : List Entry)
    (f1 : ∀ w, RBl w v bs → RE w u es → Calls Try.prog 115 #[.agg #[v, u, .int .i64 r, .int .i64 t]] w fun e w' => e = .returned (.int .i64 z1) ∧ Below w.heap.size w w')
    (f2 : ∀ w, Calls Try.prog 63 #[.string s] w fun e w' => e = .returned (.int .i64 z2) ∧ Below w.heap.size w w')
    (f3 : ∀ w, RP w b ps → Calls Try.prog 129 #[b] w fun e w' => e = .returned (.int .i64 z3) ∧ Below w.heap.size w w')
    (f4 : ∀ w, RBl w v bs → RP w b ps → Calls Try.prog 130 #[v, b] w fun e w' => e = .returned (.int .i64 z4) ∧ Below w.heap.size w w')
    (f5 : z1 = 0 → ∀ v w, RE w v es → RP w b ps → Calls Try.prog 19 #[v, .agg #[.string s, b, .int .i64 0, .int .i64 (t + 1)]] w (EnRes e5 L w))
    (hc : z1 = 0 → 0 ≤ t ∧ t ≤ 1099511627776) :
    Calls Try.prog 43 #[.agg #[v, u, .int .i64 r, .int .i64 t], .string s, b] w (StRes (spE z1 z2 z3 z4 t e5) ⟨bs, L, r, t + 1⟩ w) := by
  replace f1 := hid f1
  replace f2 := hid f2
  replace f3 := hid f3
  replace f4 := hid f4
  have hR := hid h
  have hE := hid g
  have hP := hid gp
  have hf1 := hid (fit_B h)
  have hf2 := hid (fit_E g)
  obtain ⟨a, c, rfl, -, -, hre, -⟩ := h
  obtain ⟨a2, c2, rfl, -, -, hre2, -⟩ := g
  obtain ⟨pa, pc, rfl, -⟩ := gp
  unfold EnRes at f5
  obtain ⟨w1, hw1⟩ : ∃ w1 : World, w1 = (w.alloc (Obj.cells #[.slice a bs.length c, .slice a2 es.length c2, .int .i64 r, .int .i64 t] 49)).alloc (Obj.cells #[.slice none 0 0, .slice none 0 0, .int .i64 0, .int .i64 0] 49) := ⟨_, rfl⟩
  have hb1 := hid (show Below w.heap.size w w1 by rw [hw1]; exact b_alloc (b_alloc (Below.refl _ _) _) _)
  have hq1 := hid (show w1.heap[w.heap.size]? = some (Obj.cells #[.slice a bs.length c, .slice a2 es.length c2, .int .i64 r, .int .i64 t] 49 (0, 0)) by rw [hw1]; exact heap_alloc2_old w _ _)
  have hp1 := hid (show w1.heap[w.heap.size + 1]? = some (Obj.cells #[.slice none 0 0, .slice none 0 0, .int .i64 0, .int .i64 0] 49 (0, 0)) by rw [hw1]; exact heap_alloc2_new w _ _)
  by_cases h1 : z1 = 0
  · subst h1
    obtain ⟨hc0, hc1⟩ := hc rfl
    replace f5 := f5 rfl
    clear hc
    by_cases h2 : z2 = 0
    · subst h2
      by_cases h3 : z3 = 0
      · subst h3
        by_cases h4 : z4 = 0
        · subst h4
          cases ht : (t == 1099511627776) with
          | true =>
            have hd := hid (spE_5 (e := e5) ht)
            clear hc0 hc1 f5
            go_enter Try.func43, Try.ntmps43
            go_wp2_with fail
            rw [← hw1]
            clear hw1
            ((with_reducible refine (f1.out w1 (hR.out.mono EBlob.stable hb1.out) (hE.out.mono EEntry.stable hb1.out)).mono ?_); rintro e w2 ⟨rfl, b2⟩)
            have hb2 := hid (b_call hb1.out b2)
            have hq2 := hid (stays b2 hq1.out)
            have hp2 := hid (stays b2 hp1.out)
            clear b2 hb1 hq1 hp1
            obtain ⟨x0, x1, x2, x3⟩ := box4f hq2.out
            go_wp2_with fail
            ((with_reducible refine (f2.out w2).mono ?_); rintro e w3 ⟨rfl, b3⟩)
            have hb3 := hid (b_call hb2.out b3)
            have hq3 := hid (stays b3 hq2.out)
            have hp3 := hid (stays b3 hp2.out)
            clear b3 hb2 hq2 hp2 x0 x1 x2 x3
            obtain ⟨x0, x1, x2, x3⟩ := box4f hq3.out
            go_wp2_with fail
            ((with_reducible refine (f3.out w3 (hP.out.mono EPart.stable hb3.out)).mono ?_); rintro e w4 ⟨rfl, b4⟩)
            have hb4 := hid (b_call hb3.out b4)
            have hq4 := hid (stays b4 hq3.out)
            have hp4 := hid (stays b4 hp3.out)
            clear b4 hb3 hq3 hp3 x0 x1 x2 x3
            obtain ⟨x0, x1, x2, x3⟩ := box4f hq4.out
            go_wp2_with fail
            ((with_reducible refine (f4.out w4 (hR.out.mono EBlob.stable hb4.out) (hP.out.mono EPart.stable hb4.out)).mono ?_); rintro e w5 ⟨rfl, b5⟩)
            have hb5 := hid (b_call hb4.out b5)
            have hq5 := hid (stays b5 hq4.out)
            have hp5 := hid (stays b5 hp4.out)
            clear b5 hb4 hq4 hp4 x0 x1 x2 x3
            obtain ⟨x0, x1, x2, x3⟩ := box4f hq5.out
            go_wp2_with fail
            ((with_reducible refine (ref_StoreCopyO _ _ bs es r t w5 (hR.out.mono EBlob.stable hb5.out) (hE.out.mono EEntry.stable hb5.out)).mono ?_); rintro e w6 ⟨v6, u6, rfl, o1, o2, b6⟩)
            obtain ⟨av, cv, rfl⟩ := OX.lenOf o1
            obtain ⟨au, cu, rfl⟩ := OX.lenOf o2
            have rv6 := hid (o1.toR hre hf1.out)
            have hq6 := hid (stays b6 hq5.out)
            have hp6 := hid (stays b6 hp5.out)
            have hb6 := hid (b_call hb5.out b6)
            have hpl := heap_lt hp6.out
            have hql := heap_lt hq6.out
            clear o1 o2 b6 x0 x1 x2 x3 hq5 hp5 hb5
            obtain ⟨x0, x1, x2, x3⟩ := box4f hq6.out
            obtain ⟨y0, y1, y2, y3⟩ := box4f hp6.out
            have g0 := frozen_heap hp6.out 0
            have g1 := frozen_heap hp6.out 1
            have g2 := frozen_heap hp6.out 2
            have g3 := frozen_heap hp6.out 3
            go_wp2_with fail
            have hpB := box4_same (u0 := .slice none 0 0) (u1 := .slice none 0 0) (u2 := .int .i64 0) (u3 := .int .i64 0) hp6.out
            have hp9 := (heap_alloc_old _ (Obj.cells #[.slice av bs.length cv, .slice au es.length cu, .int .i64 r, .int .i64 t] 49) (heap_lt hpB)).trans hpB
            have hb9 := b_alloc (b_box4 hb6.out (q := w.heap.size + 1) (Nat.le_succ _) (.slice none 0 0) (.slice none 0 0) (.int .i64 0) (.int .i64 0)) (Obj.cells #[.slice av bs.length cv, .slice au es.length cu, .int .i64 r, .int .i64 t] 49)
            obtain ⟨m0, m1, m2, m3⟩ := box4f hp9
            unfold World.box4 at m0 m1 m2 m3 hb9
            (try simp only [Exit.inBlock, Exit.then])
            refine bodyPost_ret (by simp [results, Try.results43, go_sem, m0, m1, m2, m3]; try rfl) rfl ?_
            exact st_no hd.out (by decide) hb9
          | false =>
            have g5 : IntKind.i64.wrap (t + 1) = t + 1 := IntWalk.i64_in _ (by omega)
            by_cases h5 : e5 = 0
            · subst h5
              simp only [if_true] at f5
              replace f5 := hid f5
              have hd := hid (spE_6 (e := 0) ht)
              go_enter Try.func43, Try.ntmps43
              go_wp2_with fail
              rw [← hw1]
              clear hw1
              ((with_reducible refine (f1.out w1 (hR.out.mono EBlob.stable hb1.out) (hE.out.mono EEntry.stable hb1.out)).mono ?_); rintro e w2 ⟨rfl, b2⟩)
              have hb2 := hid (b_call hb1.out b2)
              have hq2 := hid (stays b2 hq1.out)
              have hp2 := hid (stays b2 hp1.out)
              clear b2 hb1 hq1 hp1
              obtain ⟨x0, x1, x2, x3⟩ := box4f hq2.out
              go_wp2_with fail
              ((with_reducible refine (f2.out w2).mono ?_); rintro e w3 ⟨rfl, b3⟩)
              have hb3 := hid (b_call hb2.out b3)
              have hq3 := hid (stays b3 hq2.out)
              have hp3 := hid (stays b3 hp2.out)
              clear b3 hb2 hq2 hp2 x0 x1 x2 x3
              obtain ⟨x0, x1, x2, x3⟩ := box4f hq3.out
              go_wp2_with fail
              ((with_reducible refine (f3.out w3 (hP.out.mono EPart.stable hb3.out)).mono ?_); rintro e w4 ⟨rfl, b4⟩)
              have hb4 := hid (b_call hb3.out b4)
              have hq4 := hid (stays b4 hq3.out)
              have hp4 := hid (stays b4 hp3.out)
              clear b4 hb3 hq3 hp3 x0 x1 x2 x3
              obtain ⟨x0, x1, x2, x3⟩ := box4f hq4.out
              go_wp2_with fail
              ((with_reducible refine (f4.out w4 (hR.out.mono EBlob.stable hb4.out) (hP.out.mono EPart.stable hb4.out)).mono ?_); rintro e w5 ⟨rfl, b5⟩)
              have hb5 := hid (b_call hb4.out b5)
              have hq5 := hid (stays b5 hq4.out)
              have hp5 := hid (stays b5 hp4.out)
              clear b5 hb4 hq4 hp4 x0 x1 x2 x3
              obtain ⟨x0, x1, x2, x3⟩ := box4f hq5.out
              go_wp2_with fail
              ((with_reducible refine (ref_StoreCopyO _ _ bs es r t w5 (hR.out.mono EBlob.stable hb5.out) (hE.out.mono EEntry.stable hb5.out)).mono ?_); rintro e w6 ⟨v6, u6, rfl, o1, o2, b6⟩)
              obtain ⟨av, cv, rfl⟩ := OX.lenOf o1
              obtain ⟨au, cu, rfl⟩ := OX.lenOf o2
              have rv6 := hid (o1.toR hre hf1.out)
              have hq6 := hid (stays b6 hq5.out)
              have hp6 := hid (stays b6 hp5.out)
              have hb6 := hid (b_call hb5.out b6)
              have hpl := heap_lt hp6.out
              have hql := heap_lt hq6.out
              clear o1 o2 b6 x0 x1 x2 x3 hq5 hp5 hb5
              obtain ⟨x0, x1, x2, x3⟩ := box4f hq6.out
              obtain ⟨y0, y1, y2, y3⟩ := box4f hp6.out
              have g0 := frozen_heap hp6.out 0
              have g1 := frozen_heap hp6.out 1
              have g2 := frozen_heap hp6.out 2
              have g3 := frozen_heap hp6.out 3
              go_wp2_with fail
              ((with_reducible refine (f5.out (.slice a2 es.length c2) _ (hE.out.mono EEntry.stable (b_alloc hb6.out (Obj.cells #[.slice av bs.length cv, .slice au es.length cu, .int .i64 r, .int .i64 (t + 1)] 49))) (hP.out.mono EPart.stable (b_alloc hb6.out (Obj.cells #[.slice av bs.length cv, .slice au es.length cu, .int .i64 r, .int .i64 (t + 1)] 49)))).mono ?_); rintro e w8 ⟨v8, rfl, r8, b8⟩)
              have hn8 := hid (stays b8 (heap_alloc_new w6 (Obj.cells #[.slice av bs.length cv, .slice au es.length cu, .int .i64 r, .int .i64 (t + 1)] 49)))
              have hp8 := hid (stays b8 ((heap_alloc_old w6 (Obj.cells #[.slice av bs.length cv, .slice au es.length cu, .int .i64 r, .int .i64 (t + 1)] 49) (heap_lt hp6.out)).trans hp6.out))
              have hb8 := hid (b_call (b_alloc hb6.out (Obj.cells #[.slice av bs.length cv, .slice au es.length cu, .int .i64 r, .int .i64 (t + 1)] 49)) b8)
              have rv8 := hid (rv6.out.mono EBlob.stable (b_call (b_alloc (Below.refl _ _) (Obj.cells #[.slice av bs.length cv, .slice au es.length cu, .int .i64 r, .int .i64 (t + 1)] 49)) b8))
              clear b8 x0 x1 x2 x3 y0 y1 y2 y3 g0 g1 g2 g3 hp6 hq6 hb6 rv6
              obtain ⟨y0, y1, y2, y3⟩ := box4f hp8.out
              have g0 := frozen_heap hp8.out 0
              have g1 := frozen_heap hp8.out 1
              have g2 := frozen_heap hp8.out 2
              have g3 := frozen_heap hp8.out 3
              obtain ⟨z0, z1', z2', z3'⟩ := box4f hn8.out
              have k1 := frozen_heap hn8.out 1
              have hpn : w6.heap.size ≠ w.heap.size + 1 := by omega
              obtain ⟨al, cl, rfl, -⟩ := id r8
              replace r8 := hid r8
              go_wp2_with fail
              have hpA := box_other (q := w6.heap.size) (o := 1) (u := (.slice al L.length cl)) hp8.out (Ne.symm hpn)
              have hsb : SBox w8 w6.heap.size := ⟨_, _, _, _, _, _, _, _, _, hn8.out⟩
              have hbox := (⟨_, _, _, _, _, _, _, _, hpA⟩ : ∃ a n c a' n' c' r t, (w8.setCell ⟨w6.heap.size, 1, none⟩ (.slice al L.length cl)).heap[w.heap.size + 1]? = some (.cells #[.slice a n c, .slice a' n' c', .int .i64 r, .int .i64 t] 49 (0, 0)))
              have rl9 := (rv8.out.write (fun _ _ _ => EBlob.write hsb)).box4 EBlob.writes hbox av bs.length cv al L.length cl r (t + 1)
              have re9 := (r8.out.write (fun _ _ _ => EEntry.write hsb)).box4 EEntry.writes hbox av bs.length cv al L.length cl r (t + 1)
              unfold World.box4 at rl9 re9
              have hp9 := box4_same (u0 := .slice av bs.length cv) (u1 := .slice al L.length cl) (u2 := .int .i64 r) (u3 := .int .i64 (t + 1)) hpA
              have hb9 := b_box4 (b_set hb8.out (p := ⟨w6.heap.size, 1, none⟩) (show w.heap.size ≤ w6.heap.size by omega) (.slice al L.length cl)) (q := w.heap.size + 1) (Nat.le_succ _) (.slice av bs.length cv) (.slice al L.length cl) (.int .i64 r) (.int .i64 (t + 1))
              obtain ⟨m0, m1, m2, m3⟩ := box4f hp9
              unfold World.box4 at m0 m1 m2 m3 hb9
              (try simp only [Exit.inBlock, Exit.then])
              refine bodyPost_ret (by simp [results, Try.results43, go_sem, m0, m1, m2, m3]; try rfl) rfl ?_
              exact st_ok hd.out rfl rl9 re9 hb9
            · have q5 : (e5 != 0) = true := by simp [h5]
              simp only [if_neg h5] at f5
              replace f5 := hid f5
              have hd := hid (spE_6 (e := e5) ht)
              have hz := hid h5
              clear h5
              go_enter Try.func43, Try.ntmps43
              go_wp2_with fail
              rw [← hw1]
              clear hw1
              ((with_reducible refine (f1.out w1 (hR.out.mono EBlob.stable hb1.out) (hE.out.mono EEntry.stable hb1.out)).mono ?_); rintro e w2 ⟨rfl, b2⟩)
              have hb2 := hid (b_call hb1.out b2)
              have hq2 := hid (stays b2 hq1.out)
              have hp2 := hid (stays b2 hp1.out)
              clear b2 hb1 hq1 hp1
              obtain ⟨x0, x1, x2, x3⟩ := box4f hq2.out
              go_wp2_with fail
              ((with_reducible refine (f2.out w2).mono ?_); rintro e w3 ⟨rfl, b3⟩)
              have hb3 := hid (b_call hb2.out b3)
              have hq3 := hid (stays b3 hq2.out)
              have hp3 := hid (stays b3 hp2.out)
              clear b3 hb2 hq2 hp2 x0 x1 x2 x3
              obtain ⟨x0, x1, x2, x3⟩ := box4f hq3.out
              go_wp2_with fail
              ((with_reducible refine (f3.out w3 (hP.out.mono EPart.stable hb3.out)).mono ?_); rintro e w4 ⟨rfl, b4⟩)
              have hb4 := hid (b_call hb3.out b4)
              have hq4 := hid (stays b4 hq3.out)
              have hp4 := hid (stays b4 hp3.out)
              clear b4 hb3 hq3 hp3 x0 x1 x2 x3
              obtain ⟨x0, x1, x2, x3⟩ := box4f hq4.out
              go_wp2_with fail
              ((with_reducible refine (f4.out w4 (hR.out.mono EBlob.stable hb4.out) (hP.out.mono EPart.stable hb4.out)).mono ?_); rintro e w5 ⟨rfl, b5⟩)
              have hb5 := hid (b_call hb4.out b5)
              have hq5 := hid (stays b5 hq4.out)
              have hp5 := hid (stays b5 hp4.out)
              clear b5 hb4 hq4 hp4 x0 x1 x2 x3
              obtain ⟨x0, x1, x2, x3⟩ := box4f hq5.out
              go_wp2_with fail
              ((with_reducible refine (ref_StoreCopyO _ _ bs es r t w5 (hR.out.mono EBlob.stable hb5.out) (hE.out.mono EEntry.stable hb5.out)).mono ?_); rintro e w6 ⟨v6, u6, rfl, o1, o2, b6⟩)
              obtain ⟨av, cv, rfl⟩ := OX.lenOf o1
              obtain ⟨au, cu, rfl⟩ := OX.lenOf o2
              have rv6 := hid (o1.toR hre hf1.out)
              have hq6 := hid (stays b6 hq5.out)
              have hp6 := hid (stays b6 hp5.out)
              have hb6 := hid (b_call hb5.out b6)
              have hpl := heap_lt hp6.out
              have hql := heap_lt hq6.out
              clear o1 o2 b6 x0 x1 x2 x3 hq5 hp5 hb5
              obtain ⟨x0, x1, x2, x3⟩ := box4f hq6.out
              obtain ⟨y0, y1, y2, y3⟩ := box4f hp6.out
              have g0 := frozen_heap hp6.out 0
              have g1 := frozen_heap hp6.out 1
              have g2 := frozen_heap hp6.out 2
              have g3 := frozen_heap hp6.out 3
              go_wp2_with fail
              ((with_reducible refine (f5.out (.slice a2 es.length c2) _ (hE.out.mono EEntry.stable (b_alloc hb6.out (Obj.cells #[.slice av bs.length cv, .slice au es.length cu, .int .i64 r, .int .i64 (t + 1)] 49))) (hP.out.mono EPart.stable (b_alloc hb6.out (Obj.cells #[.slice av bs.length cv, .slice au es.length cu, .int .i64 r, .int .i64 (t + 1)] 49)))).mono ?_); rintro e w8 ⟨v8, rfl, r8, b8⟩)
              have hn8 := hid (stays b8 (heap_alloc_new w6 (Obj.cells #[.slice av bs.length cv, .slice au es.length cu, .int .i64 r, .int .i64 (t + 1)] 49)))
              have hp8 := hid (stays b8 ((heap_alloc_old w6 (Obj.cells #[.slice av bs.length cv, .slice au es.length cu, .int .i64 r, .int .i64 (t + 1)] 49) (heap_lt hp6.out)).trans hp6.out))
              have hb8 := hid (b_call (b_alloc hb6.out (Obj.cells #[.slice av bs.length cv, .slice au es.length cu, .int .i64 r, .int .i64 (t + 1)] 49)) b8)
              have rv8 := hid (rv6.out.mono EBlob.stable (b_call (b_alloc (Below.refl _ _) (Obj.cells #[.slice av bs.length cv, .slice au es.length cu, .int .i64 r, .int .i64 (t + 1)] 49)) b8))
              clear b8 x0 x1 x2 x3 y0 y1 y2 y3 g0 g1 g2 g3 hp6 hq6 hb6 rv6
              obtain ⟨y0, y1, y2, y3⟩ := box4f hp8.out
              have g0 := frozen_heap hp8.out 0
              have g1 := frozen_heap hp8.out 1
              have g2 := frozen_heap hp8.out 2
              have g3 := frozen_heap hp8.out 3
              obtain ⟨z0, z1', z2', z3'⟩ := box4f hn8.out
              have k1 := frozen_heap hn8.out 1
              have hpn : w6.heap.size ≠ w.heap.size + 1 := by omega
              obtain ⟨al, cl, rfl, -⟩ := id r8
              replace r8 := hid r8
              go_wp2_with fail
              have hpA := box_other (q := w6.heap.size) (o := 1) (u := (.slice al 0 cl)) hp8.out (Ne.symm hpn)
              have hp9 := box4_same (u0 := .slice none 0 0) (u1 := .slice none 0 0) (u2 := .int .i64 0) (u3 := .int .i64 0) hpA
              have hb9 := b_box4 (b_set hb8.out (p := ⟨w6.heap.size, 1, none⟩) (show w.heap.size ≤ w6.heap.size by omega) (.slice al 0 cl)) (q := w.heap.size + 1) (Nat.le_succ _) (.slice none 0 0) (.slice none 0 0) (.int .i64 0) (.int .i64 0)
              obtain ⟨m0, m1, m2, m3⟩ := box4f hp9
              unfold World.box4 at m0 m1 m2 m3 hb9
              (try simp only [Exit.inBlock, Exit.then])
              refine bodyPost_ret (by simp [results, Try.results43, go_sem, m0, m1, m2, m3]; try rfl) rfl ?_
              exact st_no hd.out hz.out hb9
        · have q4 : (z4 != 0) = true := by simp [h4]
          have p4 : (z4 == 0) = false := by simp [h4]
          have hd := hid (spE_4 (t := t) (e := e5) h4)
          have hz := hid h4
          clear h4 hc0 hc1 f5
          go_enter Try.func43, Try.ntmps43
          go_wp2_with fail
          rw [← hw1]
          clear hw1
          ((with_reducible refine (f1.out w1 (hR.out.mono EBlob.stable hb1.out) (hE.out.mono EEntry.stable hb1.out)).mono ?_); rintro e w2 ⟨rfl, b2⟩)
          have hb2 := hid (b_call hb1.out b2)
          have hq2 := hid (stays b2 hq1.out)
          have hp2 := hid (stays b2 hp1.out)
          clear b2 hb1 hq1 hp1
          obtain ⟨x0, x1, x2, x3⟩ := box4f hq2.out
          go_wp2_with fail
          ((with_reducible refine (f2.out w2).mono ?_); rintro e w3 ⟨rfl, b3⟩)
          have hb3 := hid (b_call hb2.out b3)
          have hq3 := hid (stays b3 hq2.out)
          have hp3 := hid (stays b3 hp2.out)
          clear b3 hb2 hq2 hp2 x0 x1 x2 x3
          obtain ⟨x0, x1, x2, x3⟩ := box4f hq3.out
          go_wp2_with fail
          ((with_reducible refine (f3.out w3 (hP.out.mono EPart.stable hb3.out)).mono ?_); rintro e w4 ⟨rfl, b4⟩)
          have hb4 := hid (b_call hb3.out b4)
          have hq4 := hid (stays b4 hq3.out)
          have hp4 := hid (stays b4 hp3.out)
          clear b4 hb3 hq3 hp3 x0 x1 x2 x3
          obtain ⟨x0, x1, x2, x3⟩ := box4f hq4.out
          go_wp2_with fail
          ((with_reducible refine (f4.out w4 (hR.out.mono EBlob.stable hb4.out) (hP.out.mono EPart.stable hb4.out)).mono ?_); rintro e w5 ⟨rfl, b5⟩)
          have hb5 := hid (b_call hb4.out b5)
          have hq5 := hid (stays b5 hq4.out)
          have hp5 := hid (stays b5 hp4.out)
          clear b5 hb4 hq4 hp4 x0 x1 x2 x3
          obtain ⟨x0, x1, x2, x3⟩ := box4f hq5.out
          go_wp2_with fail
          ((with_reducible refine (ref_StoreCopyO _ _ bs es r t w5 (hR.out.mono EBlob.stable hb5.out) (hE.out.mono EEntry.stable hb5.out)).mono ?_); rintro e w6 ⟨v6, u6, rfl, o1, o2, b6⟩)
          obtain ⟨av, cv, rfl⟩ := OX.lenOf o1
          obtain ⟨au, cu, rfl⟩ := OX.lenOf o2
          have rv6 := hid (o1.toR hre hf1.out)
          have hq6 := hid (stays b6 hq5.out)
          have hp6 := hid (stays b6 hp5.out)
          have hb6 := hid (b_call hb5.out b6)
          have hpl := heap_lt hp6.out
          have hql := heap_lt hq6.out
          clear o1 o2 b6 x0 x1 x2 x3 hq5 hp5 hb5
          obtain ⟨x0, x1, x2, x3⟩ := box4f hq6.out
          obtain ⟨y0, y1, y2, y3⟩ := box4f hp6.out
          have g0 := frozen_heap hp6.out 0
          have g1 := frozen_heap hp6.out 1
          have g2 := frozen_heap hp6.out 2
          have g3 := frozen_heap hp6.out 3
          go_wp2_with fail
          have hpB := box4_same (u0 := .slice none 0 0) (u1 := .slice none 0 0) (u2 := .int .i64 0) (u3 := .int .i64 0) hp6.out
          have hp9 := (heap_alloc_old _ (Obj.cells #[.slice av bs.length cv, .slice au es.length cu, .int .i64 r, .int .i64 t] 49) (heap_lt hpB)).trans hpB
          have hb9 := b_alloc (b_box4 hb6.out (q := w.heap.size + 1) (Nat.le_succ _) (.slice none 0 0) (.slice none 0 0) (.int .i64 0) (.int .i64 0)) (Obj.cells #[.slice av bs.length cv, .slice au es.length cu, .int .i64 r, .int .i64 t] 49)
          obtain ⟨m0, m1, m2, m3⟩ := box4f hp9
          unfold World.box4 at m0 m1 m2 m3 hb9
          (try simp only [Exit.inBlock, Exit.then])
          refine bodyPost_ret (by simp [results, Try.results43, go_sem, m0, m1, m2, m3]; try rfl) rfl ?_
          exact st_no hd.out hz.out hb9
      · have q3 : (z3 != 0) = true := by simp [h3]
        have p3 : (z3 == 0) = false := by simp [h3]
        have hd := hid (spE_3 (z4 := z4) (t := t) (e := e5) h3)
        have hz := hid h3
        clear h3 hc0 hc1 f5
        go_enter Try.func43, Try.ntmps43
        go_wp2_with fail
        rw [← hw1]
        clear hw1
        ((with_reducible refine (f1.out w1 (hR.out.mono EBlob.stable hb1.out) (hE.out.mono EEntry.stable hb1.out)).mono ?_); rintro e w2 ⟨rfl, b2⟩)
        have hb2 := hid (b_call hb1.out b2)
        have hq2 := hid (stays b2 hq1.out)
        have hp2 := hid (stays b2 hp1.out)
        clear b2 hb1 hq1 hp1
        obtain ⟨x0, x1, x2, x3⟩ := box4f hq2.out
        go_wp2_with fail
        ((with_reducible refine (f2.out w2).mono ?_); rintro e w3 ⟨rfl, b3⟩)
        have hb3 := hid (b_call hb2.out b3)
        have hq3 := hid (stays b3 hq2.out)
        have hp3 := hid (stays b3 hp2.out)
        clear b3 hb2 hq2 hp2 x0 x1 x2 x3
        obtain ⟨x0, x1, x2, x3⟩ := box4f hq3.out
        go_wp2_with fail
        ((with_reducible refine (f3.out w3 (hP.out.mono EPart.stable hb3.out)).mono ?_); rintro e w4 ⟨rfl, b4⟩)
        have hb4 := hid (b_call hb3.out b4)
        have hq4 := hid (stays b4 hq3.out)
        have hp4 := hid (stays b4 hp3.out)
        clear b4 hb3 hq3 hp3 x0 x1 x2 x3
        obtain ⟨x0, x1, x2, x3⟩ := box4f hq4.out
        go_wp2_with fail
        ((with_reducible refine (ref_StoreCopyO _ _ bs es r t w4 (hR.out.mono EBlob.stable hb4.out) (hE.out.mono EEntry.stable hb4.out)).mono ?_); rintro e w6 ⟨v6, u6, rfl, o1, o2, b6⟩)
        obtain ⟨av, cv, rfl⟩ := OX.lenOf o1
        obtain ⟨au, cu, rfl⟩ := OX.lenOf o2
        have rv6 := hid (o1.toR hre hf1.out)
        have hq6 := hid (stays b6 hq4.out)
        have hp6 := hid (stays b6 hp4.out)
        have hb6 := hid (b_call hb4.out b6)
        have hpl := heap_lt hp6.out
        have hql := heap_lt hq6.out
        clear o1 o2 b6 x0 x1 x2 x3 hq4 hp4 hb4
        obtain ⟨x0, x1, x2, x3⟩ := box4f hq6.out
        obtain ⟨y0, y1, y2, y3⟩ := box4f hp6.out
        have g0 := frozen_heap hp6.out 0
        have g1 := frozen_heap hp6.out 1
        have g2 := frozen_heap hp6.out 2
        have g3 := frozen_heap hp6.out 3
        go_wp2_with fail
        have hpB := box4_same (u0 := .slice none 0 0) (u1 := .slice none 0 0) (u2 := .int .i64 0) (u3 := .int .i64 0) hp6.out
        have hp9 := (heap_alloc_old _ (Obj.cells #[.slice av bs.length cv, .slice au es.length cu, .int .i64 r, .int .i64 t] 49) (heap_lt hpB)).trans hpB
        have hb9 := b_alloc (b_box4 hb6.out (q := w.heap.size + 1) (Nat.le_succ _) (.slice none 0 0) (.slice none 0 0) (.int .i64 0) (.int .i64 0)) (Obj.cells #[.slice av bs.length cv, .slice au es.length cu, .int .i64 r, .int .i64 t] 49)
        obtain ⟨m0, m1, m2, m3⟩ := box4f hp9
        unfold World.box4 at m0 m1 m2 m3 hb9
        (try simp only [Exit.inBlock, Exit.then])
        refine bodyPost_ret (by simp [results, Try.results43, go_sem, m0, m1, m2, m3]; try rfl) rfl ?_
        exact st_no hd.out hz.out hb9
    · have q2 : (z2 != 0) = true := by simp [h2]
      have p2 : (z2 == 0) = false := by simp [h2]
      have hd := hid (spE_2 (z3 := z3) (z4 := z4) (t := t) (e := e5) h2)
      have hz := hid h2
      clear h2 hc0 hc1 f5
      go_enter Try.func43, Try.ntmps43
      go_wp2_with fail
      rw [← hw1]
      clear hw1
      ((with_reducible refine (f1.out w1 (hR.out.mono EBlob.stable hb1.out) (hE.out.mono EEntry.stable hb1.out)).mono ?_); rintro e w2 ⟨rfl, b2⟩)
      have hb2 := hid (b_call hb1.out b2)
      have hq2 := hid (stays b2 hq1.out)
      have hp2 := hid (stays b2 hp1.out)
      clear b2 hb1 hq1 hp1
      obtain ⟨x0, x1, x2, x3⟩ := box4f hq2.out
      go_wp2_with fail
      ((with_reducible refine (f2.out w2).mono ?_); rintro e w3 ⟨rfl, b3⟩)
      have hb3 := hid (b_call hb2.out b3)
      have hq3 := hid (stays b3 hq2.out)
      have hp3 := hid (stays b3 hp2.out)
      clear b3 hb2 hq2 hp2 x0 x1 x2 x3
      obtain ⟨x0, x1, x2, x3⟩ := box4f hq3.out
      go_wp2_with fail
      ((with_reducible refine (ref_StoreCopyO _ _ bs es r t w3 (hR.out.mono EBlob.stable hb3.out) (hE.out.mono EEntry.stable hb3.out)).mono ?_); rintro e w6 ⟨v6, u6, rfl, o1, o2, b6⟩)
      obtain ⟨av, cv, rfl⟩ := OX.lenOf o1
      obtain ⟨au, cu, rfl⟩ := OX.lenOf o2
      have rv6 := hid (o1.toR hre hf1.out)
      have hq6 := hid (stays b6 hq3.out)
      have hp6 := hid (stays b6 hp3.out)
      have hb6 := hid (b_call hb3.out b6)
      have hpl := heap_lt hp6.out
      have hql := heap_lt hq6.out
      clear o1 o2 b6 x0 x1 x2 x3 hq3 hp3 hb3
      obtain ⟨x0, x1, x2, x3⟩ := box4f hq6.out
      obtain ⟨y0, y1, y2, y3⟩ := box4f hp6.out
      have g0 := frozen_heap hp6.out 0
      have g1 := frozen_heap hp6.out 1
      have g2 := frozen_heap hp6.out 2
      have g3 := frozen_heap hp6.out 3
      go_wp2_with fail
      have hpB := box4_same (u0 := .slice none 0 0) (u1 := .slice none 0 0) (u2 := .int .i64 0) (u3 := .int .i64 0) hp6.out
      have hp9 := (heap_alloc_old _ (Obj.cells #[.slice av bs.length cv, .slice au es.length cu, .int .i64 r, .int .i64 t] 49) (heap_lt hpB)).trans hpB
      have hb9 := b_alloc (b_box4 hb6.out (q := w.heap.size + 1) (Nat.le_succ _) (.slice none 0 0) (.slice none 0 0) (.int .i64 0) (.int .i64 0)) (Obj.cells #[.slice av bs.length cv, .slice au es.length cu, .int .i64 r, .int .i64 t] 49)
      obtain ⟨m0, m1, m2, m3⟩ := box4f hp9
      unfold World.box4 at m0 m1 m2 m3 hb9
      (try simp only [Exit.inBlock, Exit.then])
      refine bodyPost_ret (by simp [results, Try.results43, go_sem, m0, m1, m2, m3]; try rfl) rfl ?_
      exact st_no hd.out hz.out hb9
  · have q1 : (z1 != 0) = true := by simp [h1]
    have p1 : (z1 == 0) = false := by simp [h1]
    have hd := hid (spE_1 (z2 := z2) (z3 := z3) (z4 := z4) (t := t) (e := e5) h1)
    have hz := hid h1
    clear h1 hc f5
    go_enter Try.func43, Try.ntmps43
    go_wp2_with fail
    rw [← hw1]
    clear hw1
    ((with_reducible refine (f1.out w1 (hR.out.mono EBlob.stable hb1.out) (hE.out.mono EEntry.stable hb1.out)).mono ?_); rintro e w2 ⟨rfl, b2⟩)
    have hb2 := hid (b_call hb1.out b2)
    have hq2 := hid (stays b2 hq1.out)
    have hp2 := hid (stays b2 hp1.out)
    clear b2 hb1 hq1 hp1
    obtain ⟨x0, x1, x2, x3⟩ := box4f hq2.out
    go_wp2_with fail
    ((with_reducible refine (ref_StoreCopyO _ _ bs es r t w2 (hR.out.mono EBlob.stable hb2.out) (hE.out.mono EEntry.stable hb2.out)).mono ?_); rintro e w6 ⟨v6, u6, rfl, o1, o2, b6⟩)
    obtain ⟨av, cv, rfl⟩ := OX.lenOf o1
    obtain ⟨au, cu, rfl⟩ := OX.lenOf o2
    have rv6 := hid (o1.toR hre hf1.out)
    have hq6 := hid (stays b6 hq2.out)
    have hp6 := hid (stays b6 hp2.out)
    have hb6 := hid (b_call hb2.out b6)
    have hpl := heap_lt hp6.out
    have hql := heap_lt hq6.out
    clear o1 o2 b6 x0 x1 x2 x3 hq2 hp2 hb2
    obtain ⟨x0, x1, x2, x3⟩ := box4f hq6.out
    obtain ⟨y0, y1, y2, y3⟩ := box4f hp6.out
    have g0 := frozen_heap hp6.out 0
    have g1 := frozen_heap hp6.out 1
    have g2 := frozen_heap hp6.out 2
    have g3 := frozen_heap hp6.out 3
    go_wp2_with fail
    have hpB := box4_same (u0 := .slice none 0 0) (u1 := .slice none 0 0) (u2 := .int .i64 0) (u3 := .int .i64 0) hp6.out
    have hp9 := (heap_alloc_old _ (Obj.cells #[.slice av bs.length cv, .slice au es.length cu, .int .i64 r, .int .i64 t] 49) (heap_lt hpB)).trans hpB
    have hb9 := b_alloc (b_box4 hb6.out (q := w.heap.size + 1) (Nat.le_succ _) (.slice none 0 0) (.slice none 0 0) (.int .i64 0) (.int .i64 0)) (Obj.cells #[.slice av bs.length cv, .slice au es.length cu, .int .i64 r, .int .i64 t] 49)
    obtain ⟨m0, m1, m2, m3⟩ := box4f hp9
    unfold World.box4 at m0 m1 m2 m3 hb9
    (try simp only [Exit.inBlock, Exit.then])
    refine bodyPost_ret (by simp [results, Try.results43, go_sem, m0, m1, m2, m3]; try rfl) rfl ?_
    exact st_no hd.out hz.out hb9
end Go.Proofs.Ytcbopanekmpllaa
