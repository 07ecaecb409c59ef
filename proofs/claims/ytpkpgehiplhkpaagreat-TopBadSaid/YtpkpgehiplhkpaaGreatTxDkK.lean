import Derived.Test.YtpkpgehiplhkpaaGreatTxDkL
import Derived.Deep.RegionHeld3
import Derived.OwnWalk
import Derived.Handy
import Derived.Deep.Cut
namespace Go.Proofs.YtpkpgehiplhkpaaGreat
open Go.RowKit
theorem qxdkk_1 {P : Prop} (h : P := by exact ⟨rfl, by rw [if_pos rfl]; exact rep_far hP4.out (by omega), (((((hX4.out.new (by omega)).new (by omega)).new (by omega)).new (by omega)).new (by omega)).new (by omega)⟩) : P := h
set_option maxRecDepth 100000 in
set_option maxHeartbeats 4000000 in
theorem desk_keep (p : Nat) (x0 x1 x2 x3 x4 x5 x6 x7 : Value) (b1 b2 b3 : Option Addr) (m1 d1 m2 d2 m3 d3 : Nat) (r t k : Int) (s : ByteArray) (e : Int) (w : World) (hp : w.heap[p]? = some (.cells #[x0, x1, x2, x3, x4, x5, x6, x7] 94 (0, 0))) :
 Calls Tryz.prog 145 #[.pointer (some ⟨p, 0, none⟩), .agg #[.slice b1 m1 d1, .slice b2 m2 d2, .int .i64 r, .int .i64 t], .agg #[.int .i64 k, .slice b3 m3 d3, .string s], .int .i64 e] w (KeepPost p e #[.slice b1 m1 d1, .slice b2 m2 d2, .int .i64 r, .int .i64 t, .int .i64 k, .slice b3 m3 d3, .string s, x7] #[x0, x1, x2, x3, x4, x5, x6, x7] w) := by
 have hlt := heap_lt hp
 by_cases he : e = 0
 · subst he
   go_enter Tryz.func145, Tryz.ntmps145
   go_wp2_with fail
   have hA := hid (alloc_keep (o := Obj.cells #[.int .i64 0, .string ⟨#[]⟩, .slice none 0 0, .slice none 0 0, .int .i64 0, .slice none 0 0] 45) (alloc_keep (o := Obj.cells #[.int .i64 k, .slice b3 m3 d3, .string s] 32) (heap_alloc_new w (Obj.cells #[.slice b1 m1 d1, .slice b2 m2 d2, .int .i64 r, .int .i64 t] 29))))
   have hB := hid (alloc_keep (o := Obj.cells #[.int .i64 0, .string ⟨#[]⟩, .slice none 0 0, .slice none 0 0, .int .i64 0, .slice none 0 0] 45) (heap_put (w.alloc (Obj.cells #[.slice b1 m1 d1, .slice b2 m2 d2, .int .i64 r, .int .i64 t] 29)) (Obj.cells #[.int .i64 k, .slice b3 m3 d3, .string s] 32) (w.heap.size + 1) (by simp)))
   have hR := hid (heap_put ((w.alloc (Obj.cells #[.slice b1 m1 d1, .slice b2 m2 d2, .int .i64 r, .int .i64 t] 29)).alloc (Obj.cells #[.int .i64 k, .slice b3 m3 d3, .string s] 32)) (Obj.cells #[.int .i64 0, .string ⟨#[]⟩, .slice none 0 0, .slice none 0 0, .int .i64 0, .slice none 0 0] 45) (w.heap.size + 1 + 1) (by simp))
   have hP := hid (alloc_keep (o := Obj.cells #[.int .i64 0, .string ⟨#[]⟩, .slice none 0 0, .slice none 0 0, .int .i64 0, .slice none 0 0] 45) (alloc_keep (o := Obj.cells #[.int .i64 k, .slice b3 m3 d3, .string s] 32) (alloc_keep (o := Obj.cells #[.slice b1 m1 d1, .slice b2 m2 d2, .int .i64 r, .int .i64 t] 29) hp)))
   have hb := hid (b_alloc (b_alloc (b_alloc (Below.refl _ w) (Obj.cells #[.slice b1 m1 d1, .slice b2 m2 d2, .int .i64 r, .int .i64 t] 29)) (Obj.cells #[.int .i64 k, .slice b3 m3 d3, .string s] 32)) (Obj.cells #[.int .i64 0, .string ⟨#[]⟩, .slice none 0 0, .slice none 0 0, .int .i64 0, .slice none 0 0] 45))
   generalize ((w.alloc (Obj.cells #[.slice b1 m1 d1, .slice b2 m2 d2, .int .i64 r, .int .i64 t] 29)).alloc (Obj.cells #[.int .i64 k, .slice b3 m3 d3, .string s] 32)).alloc (Obj.cells #[.int .i64 0, .string ⟨#[]⟩, .slice none 0 0, .slice none 0 0, .int .i64 0, .slice none 0 0] 45) = w3 at *
   obtain ⟨a0, a1, a2, a3⟩ := box4f hA.out
   obtain ⟨c0, c1, c2, -⟩ := box3f hB.out
   have g0 := frozen_heap hP.out 0
   have g1 := frozen_heap hP.out 1
   have g2 := frozen_heap hP.out 2
   have g3 := frozen_heap hP.out 3
   have g4 := frozen_heap hP.out 4
   have g5 := frozen_heap hP.out 5
   have g6 := frozen_heap hP.out 6
   obtain ⟨y0, y1, y2, y3, y4, y5, y6, y7⟩ := box8f hP.out
   have mkS := hid (fun (W : World) (h1 : W.heap[w.heap.size]? = some (.cells #[.slice b1 m1 d1, .slice b2 m2 d2, .int .i64 r, .int .i64 t] 29 (0, 0))) (h2 : W.heap[w.heap.size + 1]? = some (.cells #[.int .i64 k, .slice b3 m3 d3, .string s] 32 (0, 0))) => And.intro (box4f h1) (And.intro (box3f h2).1 (And.intro (box3f h2).2.1 (box3f h2).2.2.1)))
   replace hp := hid hp
   go_region_held3 (fun w' => (w'.cell? ⟨w.heap.size, 0, none⟩ = some (.slice b1 m1 d1) ∧ w'.cell? ⟨w.heap.size, 1, none⟩ = some (.slice b2 m2 d2) ∧ w'.cell? ⟨w.heap.size, 2, none⟩ = some (.int .i64 r) ∧ w'.cell? ⟨w.heap.size, 3, none⟩ = some (.int .i64 t)) ∧ w'.cell? ⟨w.heap.size + 1, 0, none⟩ = some (.int .i64 k) ∧ w'.cell? ⟨w.heap.size + 1, 1, none⟩ = some (.slice b3 m3 d3) ∧ w'.cell? ⟨w.heap.size + 1, 2, none⟩ = some (.string s))
    (first
      | (refine mkS.out _ ?_ ?_ <;> ((repeat (first | with_reducible exact hA.out | with_reducible exact hB.out | (with_reducible refine box_other ?_ (by first | omega | (simp; omega) | fail)) | (with_reducible refine heap_drewn ?_) | fail)) <;> fail))
      | fail)
    (fail)
   clear mkS a0 a1 a2 a3 c0 c1 c2 g0 g1 g2 g3 g4 g5 g6 y0 y1 y2 y3 y4 y5 y6 y7
   have hP4 := hid (heap_drewn (set7 (u0 := .slice b1 m1 d1) (u1 := .slice b2 m2 d2) (u2 := .int .i64 r) (u3 := .int .i64 t) (u4 := .int .i64 k) (u5 := .slice b3 m3 d3) (u6 := .string s) hP.out))
   have hR4 := hid (heap_drewn (far7 (p := p) (u0 := .slice b1 m1 d1) (u1 := .slice b2 m2 d2) (u2 := .int .i64 r) (u3 := .int .i64 t) (u4 := .int .i64 k) (u5 := .slice b3 m3 d3) (u6 := .string s) hR.out (by omega)))
   have hX4 := hid (Ex.set7 (u0 := .slice b1 m1 d1) (u1 := .slice b2 m2 d2) (u2 := .int .i64 r) (u3 := .int .i64 t) (u4 := .int .i64 k) (u5 := .slice b3 m3 d3) (u6 := .string s) (Ex.of (p := p) hb.out)).drew
   generalize World.drew (((((((w3.setCell ⟨p, 0, none⟩ (.slice b1 m1 d1)).setCell ⟨p, 1, none⟩ (.slice b2 m2 d2)).setCell ⟨p, 2, none⟩ (.int .i64 r)).setCell ⟨p, 3, none⟩ (.int .i64 t)).setCell ⟨p, 4, none⟩ (.int .i64 k)).setCell ⟨p, 5, none⟩ (.slice b3 m3 d3)).setCell ⟨p, 6, none⟩ (.string s)) = w4 at *
   obtain ⟨n0, n1, n2, n3, n4, n5⟩ := rep6f hR4.out
   have g0 := frozen_heap hR4.out 0
   have g1 := frozen_heap hR4.out 1
   have g2 := frozen_heap hR4.out 2
   have g3 := frozen_heap hR4.out 3
   have g4 := frozen_heap hR4.out 4
   have g5 := frozen_heap hR4.out 5
   go_wp2_with fail
   have hr9 := rep_set (u0 := .int .i64 0) (u1 := .string ⟨#[]⟩) (u2 := .slice none 0 0) (u3 := .slice none 0 0) (u4 := .int .i64 0) (u5 := .slice none 0 0) hR4.out
   obtain ⟨m0, m1, m2, m3, m4, m5⟩ := rep6f hr9
   refine bodyPost_ret (by simp [results, Tryz.results145, go_sem, m0, m1, m2, m3, m4, m5]; try rfl) rfl ?_
   exact qxdkk_1
 · have q1 : (e == 0) = false := by simp [he]
   have hif : Hid ((if e = 0 then #[.slice b1 m1 d1, .slice b2 m2 d2, .int .i64 r, .int .i64 t, .int .i64 k, .slice b3 m3 d3, .string s, x7] else #[x0, x1, x2, x3, x4, x5, x6, x7]) = #[x0, x1, x2, x3, x4, x5, x6, x7]) := hid (if_neg he)
   replace he := hid he
   replace hp := hid hp
   go_enter Tryz.func145, Tryz.ntmps145
   go_wp2_with fail
   refine bodyPost_ret (by simp [results, Tryz.results145, go_sem]; try rfl) rfl ?_
   exact ⟨rfl, by rw [hif.out]; exact hold (hold (hold hp.out)), Ex.of (b_alloc (b_alloc (b_alloc (Below.refl _ _) _) _) _)⟩
set_option maxRecDepth 100000 in
set_option maxHeartbeats 4000000 in
theorem desk_become (p : Nat) (x0 x1 x2 x3 x4 x5 x6 x7 : Value) (b1 b2 b3 b4 : Option Addr) (m1 d1 m2 d2 m3 d3 m4 d4 : Nat) (r t k : Int) (s : ByteArray) (e : Int) (w : World) (hp : w.heap[p]? = some (.cells #[x0, x1, x2, x3, x4, x5, x6, x7] 94 (0, 0))) :
 Calls Tryz.prog 147 #[.pointer (some ⟨p, 0, none⟩), .agg #[.slice b1 m1 d1, .slice b2 m2 d2, .int .i64 r, .int .i64 t, .int .i64 k, .slice b3 m3 d3, .string s, .slice b4 m4 d4], .int .i64 e] w (KeepPost p e #[.slice b1 m1 d1, .slice b2 m2 d2, .int .i64 r, .int .i64 t, .int .i64 k, .slice b3 m3 d3, .string s, .slice b4 m4 d4] #[x0, x1, x2, x3, x4, x5, x6, x7] w) := by
 have hlt := heap_lt hp
 by_cases he : e = 0
 · subst he
   go_enter Tryz.func147, Tryz.ntmps147
   go_upto_region 2 with fail
   have hA := hid (alloc_keep (o := Obj.cells #[.int .i64 0, .string ⟨#[]⟩, .slice none 0 0, .slice none 0 0, .int .i64 0, .slice none 0 0] 45) (heap_alloc_new w (Obj.cells #[.slice b1 m1 d1, .slice b2 m2 d2, .int .i64 r, .int .i64 t, .int .i64 k, .slice b3 m3 d3, .string s, .slice b4 m4 d4] 35)))
   have hR := hid (heap_put (w.alloc (Obj.cells #[.slice b1 m1 d1, .slice b2 m2 d2, .int .i64 r, .int .i64 t, .int .i64 k, .slice b3 m3 d3, .string s, .slice b4 m4 d4] 35)) (Obj.cells #[.int .i64 0, .string ⟨#[]⟩, .slice none 0 0, .slice none 0 0, .int .i64 0, .slice none 0 0] 45) (w.heap.size + 1) (by simp))
   have hP := hid (alloc_keep (o := Obj.cells #[.int .i64 0, .string ⟨#[]⟩, .slice none 0 0, .slice none 0 0, .int .i64 0, .slice none 0 0] 45) (alloc_keep (o := Obj.cells #[.slice b1 m1 d1, .slice b2 m2 d2, .int .i64 r, .int .i64 t, .int .i64 k, .slice b3 m3 d3, .string s, .slice b4 m4 d4] 35) hp))
   have hb := hid (b_alloc (b_alloc (Below.refl _ w) (Obj.cells #[.slice b1 m1 d1, .slice b2 m2 d2, .int .i64 r, .int .i64 t, .int .i64 k, .slice b3 m3 d3, .string s, .slice b4 m4 d4] 35)) (Obj.cells #[.int .i64 0, .string ⟨#[]⟩, .slice none 0 0, .slice none 0 0, .int .i64 0, .slice none 0 0] 45))
   generalize (w.alloc (Obj.cells #[.slice b1 m1 d1, .slice b2 m2 d2, .int .i64 r, .int .i64 t, .int .i64 k, .slice b3 m3 d3, .string s, .slice b4 m4 d4] 35)).alloc (Obj.cells #[.int .i64 0, .string ⟨#[]⟩, .slice none 0 0, .slice none 0 0, .int .i64 0, .slice none 0 0] 45) = w3 at *
   obtain ⟨a0, a1, a2, a3, a4, a5, a6, a7⟩ := box8f hA.out
   obtain ⟨y0, y1, y2, y3, y4, y5, y6, y7⟩ := box8f hP.out
   have g0 := frozen_heap hP.out 0
   have g1 := frozen_heap hP.out 1
   have g2 := frozen_heap hP.out 2
   have g3 := frozen_heap hP.out 3
   have g4 := frozen_heap hP.out 4
   have g5 := frozen_heap hP.out 5
   have g6 := frozen_heap hP.out 6
   have g7 := frozen_heap hP.out 7
   replace hp := hid hp
   go_upto_region 3 with fail
   have hP4 := hid (set8 (u0 := .slice b1 m1 d1) (u1 := .slice b2 m2 d2) (u2 := .int .i64 r) (u3 := .int .i64 t) (u4 := .int .i64 k) (u5 := .slice b3 m3 d3) (u6 := .string s) (u7 := .slice b4 m4 d4) hP.out)
   have hR4 := hid (box_other (q := p) (o := 7) (u := .slice b4 m4 d4) (far7 (p := p) (u0 := .slice b1 m1 d1) (u1 := .slice b2 m2 d2) (u2 := .int .i64 r) (u3 := .int .i64 t) (u4 := .int .i64 k) (u5 := .slice b3 m3 d3) (u6 := .string s) hR.out (by omega)) (by omega))
   have hX4 := hid ((Ex.set7 (u0 := .slice b1 m1 d1) (u1 := .slice b2 m2 d2) (u2 := .int .i64 r) (u3 := .int .i64 t) (u4 := .int .i64 k) (u5 := .slice b3 m3 d3) (u6 := .string s) (Ex.of (p := p) hb.out)).set (o := 7) (u := .slice b4 m4 d4))
   generalize ((((((((w3.setCell ⟨p, 0, none⟩ (.slice b1 m1 d1)).setCell ⟨p, 1, none⟩ (.slice b2 m2 d2)).setCell ⟨p, 2, none⟩ (.int .i64 r)).setCell ⟨p, 3, none⟩ (.int .i64 t)).setCell ⟨p, 4, none⟩ (.int .i64 k)).setCell ⟨p, 5, none⟩ (.slice b3 m3 d3)).setCell ⟨p, 6, none⟩ (.string s)).setCell ⟨p, 7, none⟩ (.slice b4 m4 d4)) = w4 at *
   clear a0 a1 a2 a3 a4 a5 a6 a7 y0 y1 y2 y3 y4 y5 y6 y7 g0 g1 g2 g3 g4 g5 g6 g7
   obtain ⟨n0, n1, n2, n3, n4, n5⟩ := rep6f hR4.out
   have f0 := frozen_heap hR4.out 0
   have f1 := frozen_heap hR4.out 1
   have f2 := frozen_heap hR4.out 2
   have f3 := frozen_heap hR4.out 3
   have f4 := frozen_heap hR4.out 4
   have f5 := frozen_heap hR4.out 5
   go_wp2_with fail
   have hr9 := rep_set (u0 := .int .i64 0) (u1 := .string ⟨#[]⟩) (u2 := .slice none 0 0) (u3 := .slice none 0 0) (u4 := .int .i64 0) (u5 := .slice none 0 0) hR4.out
   obtain ⟨m0, m1, m2, m3, m4, m5⟩ := rep6f hr9
   refine bodyPost_ret (by simp [results, Tryz.results147, go_sem, m0, m1, m2, m3, m4, m5]; try rfl) rfl ?_
   exact qxdkk_1
 · have q1 : (e == 0) = false := by simp [he]
   have hif : Hid ((if e = 0 then #[.slice b1 m1 d1, .slice b2 m2 d2, .int .i64 r, .int .i64 t, .int .i64 k, .slice b3 m3 d3, .string s, .slice b4 m4 d4] else #[x0, x1, x2, x3, x4, x5, x6, x7]) = #[x0, x1, x2, x3, x4, x5, x6, x7]) := hid (if_neg he)
   replace he := hid he
   replace hp := hid hp
   go_enter Tryz.func147, Tryz.ntmps147
   go_wp2_with fail
   refine bodyPost_ret (by simp [results, Tryz.results147, go_sem]; try rfl) rfl ?_
   exact ⟨rfl, by rw [hif.out]; exact hold (hold hp.out), Ex.of (b_alloc (b_alloc (Below.refl _ _) _) _)⟩
end Go.Proofs.YtpkpgehiplhkpaaGreat
