/-
  store.Put: what it answers. Printed by gen_sp.py.
-/
import Derived.Test.YtcbopanekmpllaaSpL
namespace Go.Proofs.Ytcbopanekmpllaa
open Go.RowKit

set_option maxRecDepth 100000 in
set_option maxHeartbeats 4000000 in
theorem store_Put' (v u b : Value) (bs : List Blob) (es : List Entry) (r t : Int) (s : ByteArray) (ps : List Part) (w : World) (h : RBl w v bs) (g : RE w u es) (gp : RP w b ps) (z1 z2 z3 z4 e5 : Int) (L : List Entry)
    (f1 : ∀ w, RBl w v bs → RE w u es → Calls Try.prog 111 #[.agg #[v, u, .int .i64 r, .int .i64 t]] w fun e w' => e = .returned (.int .i64 z1) ∧ Below w.heap.size w w')
    (f2 : ∀ w, Calls Try.prog 54 #[.string s] w fun e w' => e = .returned (.int .i64 z2) ∧ Below w.heap.size w w')
    (f3 : ∀ w, RP w b ps → Calls Try.prog 127 #[b] w fun e w' => e = .returned (.int .i64 z3) ∧ Below w.heap.size w w')
    (f4 : ∀ w, RBl w v bs → RP w b ps → Calls Try.prog 128 #[v, b] w fun e w' => e = .returned (.int .i64 z4) ∧ Below w.heap.size w w')
    (f5 : z1 = 0 → ∀ v w, RE w v es → RP w b ps → Calls Try.prog 18 #[v, .agg #[.string s, b, .int .i64 0, .int .i64 (t + 1)]] w (EnRes e5 L w))
    (hc : z1 = 0 → 0 ≤ t ∧ t ≤ 1099511627776) :
    Calls Try.prog 42 #[.agg #[v, u, .int .i64 r, .int .i64 t], .string s, b] w (StRes (spE z1 z2 z3 z4 t e5) ⟨bs, L, r, t + 1⟩ w) := by
  replace f1 := hid f1
  replace f2 := hid f2
  replace f3 := hid f3
  replace f4 := hid f4
  have hR := hid h
  have hE := hid g
  have hP := hid gp
  have hf1 := hid (fit_B h)
  have hf2 := hid (fit_E g)
  obtain ⟨a, c, rfl, -, -, hre, -⟩ := h
  obtain ⟨a2, c2, rfl, -, -, hre2, -⟩ := g
  obtain ⟨pa, pc, rfl, -⟩ := gp
  unfold EnRes at f5
  obtain ⟨w1, hw1⟩ : ∃ w1 : World, w1 = (w.alloc (Obj.cells #[.slice a bs.length c, .slice a2 es.length c2, .int .i64 r, .int .i64 t] 49)).alloc (Obj.cells #[.slice none 0 0, .slice none 0 0, .int .i64 0, .int .i64 0] 49) := ⟨_, rfl⟩
  have hb1 := hid (show Below w.heap.size w w1 by rw [hw1]; exact b_alloc (b_alloc (Below.refl _ _) _) _)
  have hq1 := hid (show w1.heap[w.heap.size]? = some (Obj.cells #[.slice a bs.length c, .slice a2 es.length c2, .int .i64 r, .int .i64 t] 49 (0, 0)) by rw [hw1]; exact heap_alloc2_old w _ _)
  have hp1 := hid (show w1.heap[w.heap.size + 1]? = some (Obj.cells #[.slice none 0 0, .slice none 0 0, .int .i64 0, .int .i64 0] 49 (0, 0)) by rw [hw1]; exact heap_alloc2_new w _ _)
  have i0 : ∀ w, (Instr.index 148 (.agg #[.int .i64 z1, .int .i64 z2, .int .i64 z3, .int .i64 z4]) (.int .i64 0)).run Try.prog w = .ok (.int .i64 z1) w := fun _ => by kernel_rfl
  have i1 : ∀ w, (Instr.index 148 (.agg #[.int .i64 z1, .int .i64 z2, .int .i64 z3, .int .i64 z4]) (.int .i64 1)).run Try.prog w = .ok (.int .i64 z2) w := fun _ => by kernel_rfl
  have i2 : ∀ w, (Instr.index 148 (.agg #[.int .i64 z1, .int .i64 z2, .int .i64 z3, .int .i64 z4]) (.int .i64 2)).run Try.prog w = .ok (.int .i64 z3) w := fun _ => by kernel_rfl
  have i3 : ∀ w, (Instr.index 148 (.agg #[.int .i64 z1, .int .i64 z2, .int .i64 z3, .int .i64 z4]) (.int .i64 3)).run Try.prog w = .ok (.int .i64 z4) w := fun _ => by kernel_rfl
  by_cases h1 : z1 = 0
  · subst h1
    obtain ⟨hc0, hc1⟩ := hc rfl
    replace f5 := f5 rfl
    clear hc
    by_cases h2 : z2 = 0
    · subst h2
      by_cases h3 : z3 = 0
      · subst h3
        by_cases h4 : z4 = 0
        · subst h4
          cases ht : (t == 1099511627776) with
          | true =>
            have hd := hid (spE_5 (e := e5) ht)
            clear hc0 hc1
            go_enter Try.func42, Try.ntmps42
            go_wp2_with fail
            rw [← hw1]
            clear hw1
            have hS := box4f hq1.out
            go_region_held3 (fun w' => w'.cell? ⟨w.heap.size, 0, none⟩ = some (.slice a bs.length c) ∧ w'.cell? ⟨w.heap.size, 1, none⟩ = some (.slice a2 es.length c2) ∧ w'.cell? ⟨w.heap.size, 2, none⟩ = some (.int .i64 r) ∧ w'.cell? ⟨w.heap.size, 3, none⟩ = some (.int .i64 t))
              (first | go_keep | exact hS5 | exact hS4 | exact hS3 | exact hS2 | exact hS | fail)
              ((first
                | ((with_reducible refine (f1.out w1.drew (hR.out.mono EBlob.stable (hb1.out.drew)) (hE.out.mono EEntry.stable (hb1.out.drew))).mono ?_)
                   rintro e w2 ⟨rfl, b2⟩
                   have hb2 : Below w.heap.size w w2 := b_call hb1.out.drew b2
                   have hq2 := stays b2 (show w1.drew.heap[w.heap.size]? = _ from hq1.out)
                   have hp2 := stays b2 (show w1.drew.heap[w.heap.size + 1]? = _ from hp1.out)
                   have hS2 := box4f hq2)
                | ((with_reducible refine (f2.out w2).mono ?_)
                   rintro e w3 ⟨rfl, b3⟩
                   have hb3 : Below w.heap.size w w3 := b_call hb2 b3
                   have hq3 := stays b3 hq2
                   have hp3 := stays b3 hp2
                   have hS3 := box4f hq3)
                | ((with_reducible refine (f3.out w3 (hP.out.mono EPart.stable hb3)).mono ?_)
                   rintro e w4 ⟨rfl, b4⟩
                   have hb4 : Below w.heap.size w w4 := b_call hb3 b4
                   have hq4 := stays b4 hq3
                   have hp4 := stays b4 hp3
                   have hS4 := box4f hq4)
                | ((with_reducible refine (f4.out w4 (hR.out.mono EBlob.stable hb4) (hP.out.mono EPart.stable hb4)).mono ?_)
                   rintro e w5 ⟨rfl, b5⟩
                   have hb5 : Below w.heap.size w w5 := b_call hb4 b5
                   have hq5 := stays b5 hq4
                   have hp5 := stays b5 hp4
                   have hS5 := box4f hq5)
                | fail))
            replace hb5 := hid hb5
            replace hq5 := hid hq5
            replace hp5 := hid hp5
            obtain ⟨x0, x1, x2, x3⟩ := hS5
            obtain ⟨y0, y1, y2, y3⟩ := box4f hp5.out
            have g0 := frozen_heap hp5.out 0
            have g1 := frozen_heap hp5.out 1
            have g2 := frozen_heap hp5.out 2
            have g3 := frozen_heap hp5.out 3
            clear hS hS2 hS3 hS4 hb2 hb3 hb4 hq2 hq3 hq4 hp2 hp3 hp4 b2 b3 b4 b5 hb1 hq1 hp1 f1 f2 f3 f4
            go_wp2_with fail
            refine wp_loop_rounds 5 ?_
            rw [rounds_succ]
            go_wp2_with fail
            rw [rounds_succ]
            go_wp2_with fail
            rw [rounds_succ]
            go_wp2_with fail
            rw [rounds_succ]
            go_wp2_with fail
            rw [rounds_succ]
            go_wp2_with fail
            ((with_reducible refine (store_CopyO _ _ bs es r t w5 (hR.out.mono EBlob.stable hb5.out) (hE.out.mono EEntry.stable hb5.out)).mono ?_); rintro e w6 ⟨v6, u6, rfl, o1, o2, b6⟩)
            obtain ⟨av, cv, rfl⟩ := OX.lenOf o1
            obtain ⟨au, cu, rfl⟩ := OX.lenOf o2
            have rv6 := hid (o1.toR hre hf1.out)
            have ru6 := hid (o2.toR hre2 hf2.out)
            have hp6 := hid (stays b6 hp5.out)
            have hb6 := hid (b_call hb5.out b6)
            have hpl := heap_lt hp6.out
            clear o1 o2 b6 x0 x1 x2 x3 y0 y1 y2 y3 g0 g1 g2 g3 hq5 hp5 hb5
            obtain ⟨y0, y1, y2, y3⟩ := box4f hp6.out
            have g0 := frozen_heap hp6.out 0
            have g1 := frozen_heap hp6.out 1
            have g2 := frozen_heap hp6.out 2
            have g3 := frozen_heap hp6.out 3
            go_wp2_with fail
            ((with_reducible refine (store_tick_full (w6.alloc (Obj.cells #[.slice av bs.length cv, .slice au es.length cu, .int .i64 r, .int .i64 t] 49)) w6.heap.size _ _ r t ht (heap_alloc_new w6 (Obj.cells #[.slice av bs.length cv, .slice au es.length cu, .int .i64 r, .int .i64 t] 49))).mono ?_); rintro e w7 ⟨rfl, rfl⟩)
            go_wp2_with fail
            have hpB := box4_same (u0 := .slice none 0 0) (u1 := .slice none 0 0) (u2 := .int .i64 0) (u3 := .int .i64 0) hp6.out
            have hp9 := (heap_alloc_old _ (Obj.cells #[.slice av bs.length cv, .slice au es.length cu, .int .i64 r, .int .i64 t] 49) (heap_lt hpB)).trans hpB
            have hb9 := b_alloc (b_box4 hb6.out (q := w.heap.size + 1) (Nat.le_succ _) (.slice none 0 0) (.slice none 0 0) (.int .i64 0) (.int .i64 0)) (Obj.cells #[.slice av bs.length cv, .slice au es.length cu, .int .i64 r, .int .i64 t] 49)
            obtain ⟨m0, m1, m2, m3⟩ := box4f hp9
            unfold World.box4 at m0 m1 m2 m3 hb9
            (try simp only [Exit.inBlock, Exit.then])
            refine bodyPost_ret (by simp [results, Try.results42, go_sem, m0, m1, m2, m3]; try rfl) rfl ?_
            exact st_no hd.out (by decide) hb9
          | false =>
            by_cases h5 : e5 = 0
            · subst h5
              simp only [if_true] at f5
              replace f5 := hid f5
              have hd := hid (spE_6 (e := 0) ht)
              go_enter Try.func42, Try.ntmps42
              go_wp2_with fail
              rw [← hw1]
              clear hw1
              have hS := box4f hq1.out
              go_region_held3 (fun w' => w'.cell? ⟨w.heap.size, 0, none⟩ = some (.slice a bs.length c) ∧ w'.cell? ⟨w.heap.size, 1, none⟩ = some (.slice a2 es.length c2) ∧ w'.cell? ⟨w.heap.size, 2, none⟩ = some (.int .i64 r) ∧ w'.cell? ⟨w.heap.size, 3, none⟩ = some (.int .i64 t))
                (first | go_keep | exact hS5 | exact hS4 | exact hS3 | exact hS2 | exact hS | fail)
                ((first
                  | ((with_reducible refine (f1.out w1.drew (hR.out.mono EBlob.stable (hb1.out.drew)) (hE.out.mono EEntry.stable (hb1.out.drew))).mono ?_)
                     rintro e w2 ⟨rfl, b2⟩
                     have hb2 : Below w.heap.size w w2 := b_call hb1.out.drew b2
                     have hq2 := stays b2 (show w1.drew.heap[w.heap.size]? = _ from hq1.out)
                     have hp2 := stays b2 (show w1.drew.heap[w.heap.size + 1]? = _ from hp1.out)
                     have hS2 := box4f hq2)
                  | ((with_reducible refine (f2.out w2).mono ?_)
                     rintro e w3 ⟨rfl, b3⟩
                     have hb3 : Below w.heap.size w w3 := b_call hb2 b3
                     have hq3 := stays b3 hq2
                     have hp3 := stays b3 hp2
                     have hS3 := box4f hq3)
                  | ((with_reducible refine (f3.out w3 (hP.out.mono EPart.stable hb3)).mono ?_)
                     rintro e w4 ⟨rfl, b4⟩
                     have hb4 : Below w.heap.size w w4 := b_call hb3 b4
                     have hq4 := stays b4 hq3
                     have hp4 := stays b4 hp3
                     have hS4 := box4f hq4)
                  | ((with_reducible refine (f4.out w4 (hR.out.mono EBlob.stable hb4) (hP.out.mono EPart.stable hb4)).mono ?_)
                     rintro e w5 ⟨rfl, b5⟩
                     have hb5 : Below w.heap.size w w5 := b_call hb4 b5
                     have hq5 := stays b5 hq4
                     have hp5 := stays b5 hp4
                     have hS5 := box4f hq5)
                  | fail))
              replace hb5 := hid hb5
              replace hq5 := hid hq5
              replace hp5 := hid hp5
              obtain ⟨x0, x1, x2, x3⟩ := hS5
              obtain ⟨y0, y1, y2, y3⟩ := box4f hp5.out
              have g0 := frozen_heap hp5.out 0
              have g1 := frozen_heap hp5.out 1
              have g2 := frozen_heap hp5.out 2
              have g3 := frozen_heap hp5.out 3
              clear hS hS2 hS3 hS4 hb2 hb3 hb4 hq2 hq3 hq4 hp2 hp3 hp4 b2 b3 b4 b5 hb1 hq1 hp1 f1 f2 f3 f4
              go_wp2_with fail
              refine wp_loop_rounds 5 ?_
              rw [rounds_succ]
              go_wp2_with fail
              rw [rounds_succ]
              go_wp2_with fail
              rw [rounds_succ]
              go_wp2_with fail
              rw [rounds_succ]
              go_wp2_with fail
              rw [rounds_succ]
              go_wp2_with fail
              ((with_reducible refine (store_CopyO _ _ bs es r t w5 (hR.out.mono EBlob.stable hb5.out) (hE.out.mono EEntry.stable hb5.out)).mono ?_); rintro e w6 ⟨v6, u6, rfl, o1, o2, b6⟩)
              obtain ⟨av, cv, rfl⟩ := OX.lenOf o1
              obtain ⟨au, cu, rfl⟩ := OX.lenOf o2
              have rv6 := hid (o1.toR hre hf1.out)
              have ru6 := hid (o2.toR hre2 hf2.out)
              have hp6 := hid (stays b6 hp5.out)
              have hb6 := hid (b_call hb5.out b6)
              have hpl := heap_lt hp6.out
              clear o1 o2 b6 x0 x1 x2 x3 y0 y1 y2 y3 g0 g1 g2 g3 hq5 hp5 hb5
              obtain ⟨y0, y1, y2, y3⟩ := box4f hp6.out
              have g0 := frozen_heap hp6.out 0
              have g1 := frozen_heap hp6.out 1
              have g2 := frozen_heap hp6.out 2
              have g3 := frozen_heap hp6.out 3
              go_wp2_with fail
              ((with_reducible refine (store_tick_ok w6 _ _ r t hc0 hc1 ht).mono ?_); rintro e w7 ⟨rfl, rfl⟩)
              go_wp2_with fail
              ((with_reducible refine (f5.out (.slice au es.length cu) _ (ru6.out.mono EEntry.stable (b_alloc (Below.refl _ _) (Obj.cells #[.slice av bs.length cv, .slice au es.length cu, .int .i64 r, .int .i64 (t + 1)] 49))) (hP.out.mono EPart.stable (b_alloc hb6.out (Obj.cells #[.slice av bs.length cv, .slice au es.length cu, .int .i64 r, .int .i64 (t + 1)] 49)))).mono ?_); rintro e w8 ⟨v8, rfl, r8, b8⟩)
              have hn8 := hid (stays b8 (heap_alloc_new w6 (Obj.cells #[.slice av bs.length cv, .slice au es.length cu, .int .i64 r, .int .i64 (t + 1)] 49)))
              have hp8 := hid (stays b8 ((heap_alloc_old w6 (Obj.cells #[.slice av bs.length cv, .slice au es.length cu, .int .i64 r, .int .i64 (t + 1)] 49) (heap_lt hp6.out)).trans hp6.out))
              have hb8 := hid (b_call (b_alloc hb6.out (Obj.cells #[.slice av bs.length cv, .slice au es.length cu, .int .i64 r, .int .i64 (t + 1)] 49)) b8)
              have rv8 := hid (rv6.out.mono EBlob.stable (b_call (b_alloc (Below.refl _ _) (Obj.cells #[.slice av bs.length cv, .slice au es.length cu, .int .i64 r, .int .i64 (t + 1)] 49)) b8))
              clear b8 y0 y1 y2 y3 g0 g1 g2 g3 hp6 hb6 ru6 rv6
              obtain ⟨y0, y1, y2, y3⟩ := box4f hp8.out
              have g0 := frozen_heap hp8.out 0
              have g1 := frozen_heap hp8.out 1
              have g2 := frozen_heap hp8.out 2
              have g3 := frozen_heap hp8.out 3
              obtain ⟨al, cl, rfl, -⟩ := id r8
              replace r8 := hid r8
              obtain ⟨z0, z1', z2', z3'⟩ := box4f hn8.out
              have k1 := frozen_heap hn8.out 1
              have hpn : w6.heap.size ≠ w.heap.size + 1 := by omega
              go_wp2_with fail
              have hpA := box_other (q := w6.heap.size) (o := 1) (u := (.slice al L.length cl)) hp8.out (Ne.symm hpn)
              have hsb : SBox w8 w6.heap.size := ⟨_, _, _, _, _, _, _, _, _, hn8.out⟩
              have hbox := (⟨_, _, _, _, _, _, _, _, hpA⟩ : ∃ a n c a' n' c' r t, (w8.setCell ⟨w6.heap.size, 1, none⟩ (.slice al L.length cl)).heap[w.heap.size + 1]? = some (.cells #[.slice a n c, .slice a' n' c', .int .i64 r, .int .i64 t] 49 (0, 0)))
              have rl9 := (rv8.out.write (fun _ _ _ => EBlob.write hsb)).box4 EBlob.writes hbox av bs.length cv al L.length cl r (t + 1)
              have re9 := (r8.out.write (fun _ _ _ => EEntry.write hsb)).box4 EEntry.writes hbox av bs.length cv al L.length cl r (t + 1)
              unfold World.box4 at rl9 re9
              have hp9 := box4_same (u0 := .slice av bs.length cv) (u1 := .slice al L.length cl) (u2 := .int .i64 r) (u3 := .int .i64 (t + 1)) hpA
              have hb9 := b_box4 (b_set hb8.out (p := ⟨w6.heap.size, 1, none⟩) (show w.heap.size ≤ w6.heap.size by omega) (.slice al L.length cl)) (q := w.heap.size + 1) (Nat.le_succ _) (.slice av bs.length cv) (.slice al L.length cl) (.int .i64 r) (.int .i64 (t + 1))
              obtain ⟨m0, m1, m2, m3⟩ := box4f hp9
              unfold World.box4 at m0 m1 m2 m3 hb9
              (try simp only [Exit.inBlock, Exit.then])
              refine bodyPost_ret (by simp [results, Try.results42, go_sem, m0, m1, m2, m3]; try rfl) rfl ?_
              exact st_ok hd.out rfl rl9 re9 hb9
            · have q5 : (e5 != 0) = true := by simp [h5]
              simp only [if_neg h5] at f5
              replace f5 := hid f5
              have hd := hid (spE_6 (e := e5) ht)
              have hz := hid h5
              clear h5
              go_enter Try.func42, Try.ntmps42
              go_wp2_with fail
              rw [← hw1]
              clear hw1
              have hS := box4f hq1.out
              go_region_held3 (fun w' => w'.cell? ⟨w.heap.size, 0, none⟩ = some (.slice a bs.length c) ∧ w'.cell? ⟨w.heap.size, 1, none⟩ = some (.slice a2 es.length c2) ∧ w'.cell? ⟨w.heap.size, 2, none⟩ = some (.int .i64 r) ∧ w'.cell? ⟨w.heap.size, 3, none⟩ = some (.int .i64 t))
                (first | go_keep | exact hS5 | exact hS4 | exact hS3 | exact hS2 | exact hS | fail)
                ((first
                  | ((with_reducible refine (f1.out w1.drew (hR.out.mono EBlob.stable (hb1.out.drew)) (hE.out.mono EEntry.stable (hb1.out.drew))).mono ?_)
                     rintro e w2 ⟨rfl, b2⟩
                     have hb2 : Below w.heap.size w w2 := b_call hb1.out.drew b2
                     have hq2 := stays b2 (show w1.drew.heap[w.heap.size]? = _ from hq1.out)
                     have hp2 := stays b2 (show w1.drew.heap[w.heap.size + 1]? = _ from hp1.out)
                     have hS2 := box4f hq2)
                  | ((with_reducible refine (f2.out w2).mono ?_)
                     rintro e w3 ⟨rfl, b3⟩
                     have hb3 : Below w.heap.size w w3 := b_call hb2 b3
                     have hq3 := stays b3 hq2
                     have hp3 := stays b3 hp2
                     have hS3 := box4f hq3)
                  | ((with_reducible refine (f3.out w3 (hP.out.mono EPart.stable hb3)).mono ?_)
                     rintro e w4 ⟨rfl, b4⟩
                     have hb4 : Below w.heap.size w w4 := b_call hb3 b4
                     have hq4 := stays b4 hq3
                     have hp4 := stays b4 hp3
                     have hS4 := box4f hq4)
                  | ((with_reducible refine (f4.out w4 (hR.out.mono EBlob.stable hb4) (hP.out.mono EPart.stable hb4)).mono ?_)
                     rintro e w5 ⟨rfl, b5⟩
                     have hb5 : Below w.heap.size w w5 := b_call hb4 b5
                     have hq5 := stays b5 hq4
                     have hp5 := stays b5 hp4
                     have hS5 := box4f hq5)
                  | fail))
              replace hb5 := hid hb5
              replace hq5 := hid hq5
              replace hp5 := hid hp5
              obtain ⟨x0, x1, x2, x3⟩ := hS5
              obtain ⟨y0, y1, y2, y3⟩ := box4f hp5.out
              have g0 := frozen_heap hp5.out 0
              have g1 := frozen_heap hp5.out 1
              have g2 := frozen_heap hp5.out 2
              have g3 := frozen_heap hp5.out 3
              clear hS hS2 hS3 hS4 hb2 hb3 hb4 hq2 hq3 hq4 hp2 hp3 hp4 b2 b3 b4 b5 hb1 hq1 hp1 f1 f2 f3 f4
              go_wp2_with fail
              refine wp_loop_rounds 5 ?_
              rw [rounds_succ]
              go_wp2_with fail
              rw [rounds_succ]
              go_wp2_with fail
              rw [rounds_succ]
              go_wp2_with fail
              rw [rounds_succ]
              go_wp2_with fail
              rw [rounds_succ]
              go_wp2_with fail
              ((with_reducible refine (store_CopyO _ _ bs es r t w5 (hR.out.mono EBlob.stable hb5.out) (hE.out.mono EEntry.stable hb5.out)).mono ?_); rintro e w6 ⟨v6, u6, rfl, o1, o2, b6⟩)
              obtain ⟨av, cv, rfl⟩ := OX.lenOf o1
              obtain ⟨au, cu, rfl⟩ := OX.lenOf o2
              have rv6 := hid (o1.toR hre hf1.out)
              have ru6 := hid (o2.toR hre2 hf2.out)
              have hp6 := hid (stays b6 hp5.out)
              have hb6 := hid (b_call hb5.out b6)
              have hpl := heap_lt hp6.out
              clear o1 o2 b6 x0 x1 x2 x3 y0 y1 y2 y3 g0 g1 g2 g3 hq5 hp5 hb5
              obtain ⟨y0, y1, y2, y3⟩ := box4f hp6.out
              have g0 := frozen_heap hp6.out 0
              have g1 := frozen_heap hp6.out 1
              have g2 := frozen_heap hp6.out 2
              have g3 := frozen_heap hp6.out 3
              go_wp2_with fail
              ((with_reducible refine (store_tick_ok w6 _ _ r t hc0 hc1 ht).mono ?_); rintro e w7 ⟨rfl, rfl⟩)
              go_wp2_with fail
              ((with_reducible refine (f5.out (.slice au es.length cu) _ (ru6.out.mono EEntry.stable (b_alloc (Below.refl _ _) (Obj.cells #[.slice av bs.length cv, .slice au es.length cu, .int .i64 r, .int .i64 (t + 1)] 49))) (hP.out.mono EPart.stable (b_alloc hb6.out (Obj.cells #[.slice av bs.length cv, .slice au es.length cu, .int .i64 r, .int .i64 (t + 1)] 49)))).mono ?_); rintro e w8 ⟨v8, rfl, r8, b8⟩)
              have hn8 := hid (stays b8 (heap_alloc_new w6 (Obj.cells #[.slice av bs.length cv, .slice au es.length cu, .int .i64 r, .int .i64 (t + 1)] 49)))
              have hp8 := hid (stays b8 ((heap_alloc_old w6 (Obj.cells #[.slice av bs.length cv, .slice au es.length cu, .int .i64 r, .int .i64 (t + 1)] 49) (heap_lt hp6.out)).trans hp6.out))
              have hb8 := hid (b_call (b_alloc hb6.out (Obj.cells #[.slice av bs.length cv, .slice au es.length cu, .int .i64 r, .int .i64 (t + 1)] 49)) b8)
              have rv8 := hid (rv6.out.mono EBlob.stable (b_call (b_alloc (Below.refl _ _) (Obj.cells #[.slice av bs.length cv, .slice au es.length cu, .int .i64 r, .int .i64 (t + 1)] 49)) b8))
              clear b8 y0 y1 y2 y3 g0 g1 g2 g3 hp6 hb6 ru6 rv6
              obtain ⟨y0, y1, y2, y3⟩ := box4f hp8.out
              have g0 := frozen_heap hp8.out 0
              have g1 := frozen_heap hp8.out 1
              have g2 := frozen_heap hp8.out 2
              have g3 := frozen_heap hp8.out 3
              go_wp2_with fail
              have hp9 := box4_same (u0 := .slice none 0 0) (u1 := .slice none 0 0) (u2 := .int .i64 0) (u3 := .int .i64 0) hp8.out
              have hb9 := b_box4 hb8.out (q := w.heap.size + 1) (Nat.le_succ _) (.slice none 0 0) (.slice none 0 0) (.int .i64 0) (.int .i64 0)
              obtain ⟨m0, m1, m2, m3⟩ := box4f hp9
              unfold World.box4 at m0 m1 m2 m3 hb9
              (try simp only [Exit.inBlock, Exit.then])
              refine bodyPost_ret (by simp [results, Try.results42, go_sem, m0, m1, m2, m3]; try rfl) rfl ?_
              exact st_no hd.out hz.out hb9
        · have q4 : (z4 != 0) = true := by simp [h4]
          have hd := hid (spE_4 (t := t) (e := e5) h4)
          have hz := hid h4
          clear h4 hc0 hc1 f5
          go_enter Try.func42, Try.ntmps42
          go_wp2_with fail
          rw [← hw1]
          clear hw1
          have hS := box4f hq1.out
          go_region_held3 (fun w' => w'.cell? ⟨w.heap.size, 0, none⟩ = some (.slice a bs.length c) ∧ w'.cell? ⟨w.heap.size, 1, none⟩ = some (.slice a2 es.length c2) ∧ w'.cell? ⟨w.heap.size, 2, none⟩ = some (.int .i64 r) ∧ w'.cell? ⟨w.heap.size, 3, none⟩ = some (.int .i64 t))
            (first | go_keep | exact hS5 | exact hS4 | exact hS3 | exact hS2 | exact hS | fail)
            ((first
              | ((with_reducible refine (f1.out w1.drew (hR.out.mono EBlob.stable (hb1.out.drew)) (hE.out.mono EEntry.stable (hb1.out.drew))).mono ?_)
                 rintro e w2 ⟨rfl, b2⟩
                 have hb2 : Below w.heap.size w w2 := b_call hb1.out.drew b2
                 have hq2 := stays b2 (show w1.drew.heap[w.heap.size]? = _ from hq1.out)
                 have hp2 := stays b2 (show w1.drew.heap[w.heap.size + 1]? = _ from hp1.out)
                 have hS2 := box4f hq2)
              | ((with_reducible refine (f2.out w2).mono ?_)
                 rintro e w3 ⟨rfl, b3⟩
                 have hb3 : Below w.heap.size w w3 := b_call hb2 b3
                 have hq3 := stays b3 hq2
                 have hp3 := stays b3 hp2
                 have hS3 := box4f hq3)
              | ((with_reducible refine (f3.out w3 (hP.out.mono EPart.stable hb3)).mono ?_)
                 rintro e w4 ⟨rfl, b4⟩
                 have hb4 : Below w.heap.size w w4 := b_call hb3 b4
                 have hq4 := stays b4 hq3
                 have hp4 := stays b4 hp3
                 have hS4 := box4f hq4)
              | ((with_reducible refine (f4.out w4 (hR.out.mono EBlob.stable hb4) (hP.out.mono EPart.stable hb4)).mono ?_)
                 rintro e w5 ⟨rfl, b5⟩
                 have hb5 : Below w.heap.size w w5 := b_call hb4 b5
                 have hq5 := stays b5 hq4
                 have hp5 := stays b5 hp4
                 have hS5 := box4f hq5)
              | fail))
          replace hb5 := hid hb5
          replace hq5 := hid hq5
          replace hp5 := hid hp5
          obtain ⟨x0, x1, x2, x3⟩ := hS5
          obtain ⟨y0, y1, y2, y3⟩ := box4f hp5.out
          have g0 := frozen_heap hp5.out 0
          have g1 := frozen_heap hp5.out 1
          have g2 := frozen_heap hp5.out 2
          have g3 := frozen_heap hp5.out 3
          clear hS hS2 hS3 hS4 hb2 hb3 hb4 hq2 hq3 hq4 hp2 hp3 hp4 b2 b3 b4 b5 hb1 hq1 hp1 f1 f2 f3 f4
          go_wp2_with fail
          go_rounds 5
          have hp9 := box4_same (u0 := .slice none 0 0) (u1 := .slice none 0 0) (u2 := .int .i64 0) (u3 := .int .i64 0) hp5.out
          have hb9 := b_box4 hb5.out (q := w.heap.size + 1) (Nat.le_succ _) (.slice none 0 0) (.slice none 0 0) (.int .i64 0) (.int .i64 0)
          obtain ⟨m0, m1, m2, m3⟩ := box4f hp9
          unfold World.box4 at m0 m1 m2 m3 hb9
          (try simp only [Exit.inBlock, Exit.then])
          refine bodyPost_ret (by simp [results, Try.results42, go_sem, m0, m1, m2, m3]; try rfl) rfl ?_
          exact st_no hd.out hz.out hb9
      · have q3 : (z3 != 0) = true := by simp [h3]
        have hd := hid (spE_3 (z4 := z4) (t := t) (e := e5) h3)
        have hz := hid h3
        clear h3 hc0 hc1 f5
        go_enter Try.func42, Try.ntmps42
        go_wp2_with fail
        rw [← hw1]
        clear hw1
        have hS := box4f hq1.out
        go_region_held3 (fun w' => w'.cell? ⟨w.heap.size, 0, none⟩ = some (.slice a bs.length c) ∧ w'.cell? ⟨w.heap.size, 1, none⟩ = some (.slice a2 es.length c2) ∧ w'.cell? ⟨w.heap.size, 2, none⟩ = some (.int .i64 r) ∧ w'.cell? ⟨w.heap.size, 3, none⟩ = some (.int .i64 t))
          (first | go_keep | exact hS5 | exact hS4 | exact hS3 | exact hS2 | exact hS | fail)
          ((first
            | ((with_reducible refine (f1.out w1.drew (hR.out.mono EBlob.stable (hb1.out.drew)) (hE.out.mono EEntry.stable (hb1.out.drew))).mono ?_)
               rintro e w2 ⟨rfl, b2⟩
               have hb2 : Below w.heap.size w w2 := b_call hb1.out.drew b2
               have hq2 := stays b2 (show w1.drew.heap[w.heap.size]? = _ from hq1.out)
               have hp2 := stays b2 (show w1.drew.heap[w.heap.size + 1]? = _ from hp1.out)
               have hS2 := box4f hq2)
            | ((with_reducible refine (f2.out w2).mono ?_)
               rintro e w3 ⟨rfl, b3⟩
               have hb3 : Below w.heap.size w w3 := b_call hb2 b3
               have hq3 := stays b3 hq2
               have hp3 := stays b3 hp2
               have hS3 := box4f hq3)
            | ((with_reducible refine (f3.out w3 (hP.out.mono EPart.stable hb3)).mono ?_)
               rintro e w4 ⟨rfl, b4⟩
               have hb4 : Below w.heap.size w w4 := b_call hb3 b4
               have hq4 := stays b4 hq3
               have hp4 := stays b4 hp3
               have hS4 := box4f hq4)
            | ((with_reducible refine (f4.out w4 (hR.out.mono EBlob.stable hb4) (hP.out.mono EPart.stable hb4)).mono ?_)
               rintro e w5 ⟨rfl, b5⟩
               have hb5 : Below w.heap.size w w5 := b_call hb4 b5
               have hq5 := stays b5 hq4
               have hp5 := stays b5 hp4
               have hS5 := box4f hq5)
            | fail))
        replace hb5 := hid hb5
        replace hq5 := hid hq5
        replace hp5 := hid hp5
        obtain ⟨x0, x1, x2, x3⟩ := hS5
        obtain ⟨y0, y1, y2, y3⟩ := box4f hp5.out
        have g0 := frozen_heap hp5.out 0
        have g1 := frozen_heap hp5.out 1
        have g2 := frozen_heap hp5.out 2
        have g3 := frozen_heap hp5.out 3
        clear hS hS2 hS3 hS4 hb2 hb3 hb4 hq2 hq3 hq4 hp2 hp3 hp4 b2 b3 b4 b5 hb1 hq1 hp1 f1 f2 f3 f4
        go_wp2_with fail
        go_rounds 4
        have hp9 := box4_same (u0 := .slice none 0 0) (u1 := .slice none 0 0) (u2 := .int .i64 0) (u3 := .int .i64 0) hp5.out
        have hb9 := b_box4 hb5.out (q := w.heap.size + 1) (Nat.le_succ _) (.slice none 0 0) (.slice none 0 0) (.int .i64 0) (.int .i64 0)
        obtain ⟨m0, m1, m2, m3⟩ := box4f hp9
        unfold World.box4 at m0 m1 m2 m3 hb9
        (try simp only [Exit.inBlock, Exit.then])
        refine bodyPost_ret (by simp [results, Try.results42, go_sem, m0, m1, m2, m3]; try rfl) rfl ?_
        exact st_no hd.out hz.out hb9
    · have q2 : (z2 != 0) = true := by simp [h2]
      have hd := hid (spE_2 (z3 := z3) (z4 := z4) (t := t) (e := e5) h2)
      have hz := hid h2
      clear h2 hc0 hc1 f5
      go_enter Try.func42, Try.ntmps42
      go_wp2_with fail
      rw [← hw1]
      clear hw1
      have hS := box4f hq1.out
      go_region_held3 (fun w' => w'.cell? ⟨w.heap.size, 0, none⟩ = some (.slice a bs.length c) ∧ w'.cell? ⟨w.heap.size, 1, none⟩ = some (.slice a2 es.length c2) ∧ w'.cell? ⟨w.heap.size, 2, none⟩ = some (.int .i64 r) ∧ w'.cell? ⟨w.heap.size, 3, none⟩ = some (.int .i64 t))
        (first | go_keep | exact hS5 | exact hS4 | exact hS3 | exact hS2 | exact hS | fail)
        ((first
          | ((with_reducible refine (f1.out w1.drew (hR.out.mono EBlob.stable (hb1.out.drew)) (hE.out.mono EEntry.stable (hb1.out.drew))).mono ?_)
             rintro e w2 ⟨rfl, b2⟩
             have hb2 : Below w.heap.size w w2 := b_call hb1.out.drew b2
             have hq2 := stays b2 (show w1.drew.heap[w.heap.size]? = _ from hq1.out)
             have hp2 := stays b2 (show w1.drew.heap[w.heap.size + 1]? = _ from hp1.out)
             have hS2 := box4f hq2)
          | ((with_reducible refine (f2.out w2).mono ?_)
             rintro e w3 ⟨rfl, b3⟩
             have hb3 : Below w.heap.size w w3 := b_call hb2 b3
             have hq3 := stays b3 hq2
             have hp3 := stays b3 hp2
             have hS3 := box4f hq3)
          | ((with_reducible refine (f3.out w3 (hP.out.mono EPart.stable hb3)).mono ?_)
             rintro e w4 ⟨rfl, b4⟩
             have hb4 : Below w.heap.size w w4 := b_call hb3 b4
             have hq4 := stays b4 hq3
             have hp4 := stays b4 hp3
             have hS4 := box4f hq4)
          | ((with_reducible refine (f4.out w4 (hR.out.mono EBlob.stable hb4) (hP.out.mono EPart.stable hb4)).mono ?_)
             rintro e w5 ⟨rfl, b5⟩
             have hb5 : Below w.heap.size w w5 := b_call hb4 b5
             have hq5 := stays b5 hq4
             have hp5 := stays b5 hp4
             have hS5 := box4f hq5)
          | fail))
      replace hb5 := hid hb5
      replace hq5 := hid hq5
      replace hp5 := hid hp5
      obtain ⟨x0, x1, x2, x3⟩ := hS5
      obtain ⟨y0, y1, y2, y3⟩ := box4f hp5.out
      have g0 := frozen_heap hp5.out 0
      have g1 := frozen_heap hp5.out 1
      have g2 := frozen_heap hp5.out 2
      have g3 := frozen_heap hp5.out 3
      clear hS hS2 hS3 hS4 hb2 hb3 hb4 hq2 hq3 hq4 hp2 hp3 hp4 b2 b3 b4 b5 hb1 hq1 hp1 f1 f2 f3 f4
      go_wp2_with fail
      go_rounds 3
      have hp9 := box4_same (u0 := .slice none 0 0) (u1 := .slice none 0 0) (u2 := .int .i64 0) (u3 := .int .i64 0) hp5.out
      have hb9 := b_box4 hb5.out (q := w.heap.size + 1) (Nat.le_succ _) (.slice none 0 0) (.slice none 0 0) (.int .i64 0) (.int .i64 0)
      obtain ⟨m0, m1, m2, m3⟩ := box4f hp9
      unfold World.box4 at m0 m1 m2 m3 hb9
      (try simp only [Exit.inBlock, Exit.then])
      refine bodyPost_ret (by simp [results, Try.results42, go_sem, m0, m1, m2, m3]; try rfl) rfl ?_
      exact st_no hd.out hz.out hb9
  · have q1 : (z1 != 0) = true := by simp [h1]
    have hd := hid (spE_1 (z2 := z2) (z3 := z3) (z4 := z4) (t := t) (e := e5) h1)
    have hz := hid h1
    clear h1 hc f5
    go_enter Try.func42, Try.ntmps42
    go_wp2_with fail
    rw [← hw1]
    clear hw1
    have hS := box4f hq1.out
    go_region_held3 (fun w' => w'.cell? ⟨w.heap.size, 0, none⟩ = some (.slice a bs.length c) ∧ w'.cell? ⟨w.heap.size, 1, none⟩ = some (.slice a2 es.length c2) ∧ w'.cell? ⟨w.heap.size, 2, none⟩ = some (.int .i64 r) ∧ w'.cell? ⟨w.heap.size, 3, none⟩ = some (.int .i64 t))
      (first | go_keep | exact hS5 | exact hS4 | exact hS3 | exact hS2 | exact hS | fail)
      ((first
        | ((with_reducible refine (f1.out w1.drew (hR.out.mono EBlob.stable (hb1.out.drew)) (hE.out.mono EEntry.stable (hb1.out.drew))).mono ?_)
           rintro e w2 ⟨rfl, b2⟩
           have hb2 : Below w.heap.size w w2 := b_call hb1.out.drew b2
           have hq2 := stays b2 (show w1.drew.heap[w.heap.size]? = _ from hq1.out)
           have hp2 := stays b2 (show w1.drew.heap[w.heap.size + 1]? = _ from hp1.out)
           have hS2 := box4f hq2)
        | ((with_reducible refine (f2.out w2).mono ?_)
           rintro e w3 ⟨rfl, b3⟩
           have hb3 : Below w.heap.size w w3 := b_call hb2 b3
           have hq3 := stays b3 hq2
           have hp3 := stays b3 hp2
           have hS3 := box4f hq3)
        | ((with_reducible refine (f3.out w3 (hP.out.mono EPart.stable hb3)).mono ?_)
           rintro e w4 ⟨rfl, b4⟩
           have hb4 : Below w.heap.size w w4 := b_call hb3 b4
           have hq4 := stays b4 hq3
           have hp4 := stays b4 hp3
           have hS4 := box4f hq4)
        | ((with_reducible refine (f4.out w4 (hR.out.mono EBlob.stable hb4) (hP.out.mono EPart.stable hb4)).mono ?_)
           rintro e w5 ⟨rfl, b5⟩
           have hb5 : Below w.heap.size w w5 := b_call hb4 b5
           have hq5 := stays b5 hq4
           have hp5 := stays b5 hp4
           have hS5 := box4f hq5)
        | fail))
    replace hb5 := hid hb5
    replace hq5 := hid hq5
    replace hp5 := hid hp5
    obtain ⟨x0, x1, x2, x3⟩ := hS5
    obtain ⟨y0, y1, y2, y3⟩ := box4f hp5.out
    have g0 := frozen_heap hp5.out 0
    have g1 := frozen_heap hp5.out 1
    have g2 := frozen_heap hp5.out 2
    have g3 := frozen_heap hp5.out 3
    clear hS hS2 hS3 hS4 hb2 hb3 hb4 hq2 hq3 hq4 hp2 hp3 hp4 b2 b3 b4 b5 hb1 hq1 hp1 f1 f2 f3 f4
    go_wp2_with fail
    go_rounds 2
    have hp9 := box4_same (u0 := .slice none 0 0) (u1 := .slice none 0 0) (u2 := .int .i64 0) (u3 := .int .i64 0) hp5.out
    have hb9 := b_box4 hb5.out (q := w.heap.size + 1) (Nat.le_succ _) (.slice none 0 0) (.slice none 0 0) (.int .i64 0) (.int .i64 0)
    obtain ⟨m0, m1, m2, m3⟩ := box4f hp9
    unfold World.box4 at m0 m1 m2 m3 hb9
    (try simp only [Exit.inBlock, Exit.then])
    refine bodyPost_ret (by simp [results, Try.results42, go_sem, m0, m1, m2, m3]; try rfl) rfl ?_
    exact st_no hd.out hz.out hb9
end Go.Proofs.Ytcbopanekmpllaa
