import Derived.Test.YtpkpgehiplhkpaaGreatTzLft
import Derived.Test.YtpkpgehiplhkpaaGreatTzOd
namespace Go.Proofs.YtpkpgehiplhkpaaGreat
open Go.RowKit
structure Rep where
 err : Int
 digest : ByteArray
 data : List UInt8
 parts : List Part
 n : Int
 who : List Int
abbrev repV (e : Int) : Value := .agg #[.int .i64 e, .string ⟨#[]⟩, .slice none 0 0, .slice none 0 0, .int .i64 0, .slice none 0 0]
abbrev Ex (p : Nat) (w w' : World) : Prop := w.grownBy w' (some p)
theorem Ex.of {p : Nat} {w w' : World} (h : Below w.heap.size w w') : Ex p w w' := ⟨h.os, h.tape, h.output, h.size, fun k hk _ => h.block k hk⟩
theorem Ex.trans {p : Nat} {w w1 w2 : World} (h : Ex p w w1) (k : Ex p w1 w2) : Ex p w w2 :=
 ⟨k.os.trans h.os, k.tape.trans h.tape, k.output.trans h.output, Nat.le_trans h.size k.size, fun i hi hn => (k.block i (Nat.lt_of_lt_of_le hi h.size) hn).trans (h.block i hi hn)⟩
theorem Ex.set {p o : Nat} {w w' : World} {u : Value} (h : Ex p w w') : Ex p w (w'.setCell ⟨p, o, none⟩ u) :=
 h.trans ⟨rfl, rfl, rfl, by simp [World.setCell], fun k _ hk => Below.heap_setCell _ _ _ _ (fun e => hk (by simp [e]))⟩
theorem Ex.drew {p : Nat} {w w' : World} (h : Ex p w w') : Ex p w w'.drew := ⟨h.os, h.tape, h.output, h.size, h.block⟩
def KeepPost (p : Nat) (e : Int) (new old : Array Value) (w : World) (en : Ending) (w' : World) : Prop :=
 en = .returned (repV e) ∧ w'.heap[p]? = some (.cells (if e = 0 then new else old) 94 (0, 0)) ∧ Ex p w w'
theorem rep6f {w : World} {b : Nat} {c0 c1 c2 c3 c4 c5 : Value} {T : TypeId} (h : w.heap[b]? = some (.cells #[c0, c1, c2, c3, c4, c5] T (0, 0))) :
 w.cell? ⟨b, 0, none⟩ = some c0 ∧ w.cell? ⟨b, 1, none⟩ = some c1 ∧ w.cell? ⟨b, 2, none⟩ = some c2 ∧ w.cell? ⟨b, 3, none⟩ = some c3 ∧ w.cell? ⟨b, 4, none⟩ = some c4 ∧ w.cell? ⟨b, 5, none⟩ = some c5 :=
 ⟨cell_of_row _ _ 0 _ _ _ h, cell_of_row _ _ 1 _ _ _ h, cell_of_row _ _ 2 _ _ _ h, cell_of_row _ _ 3 _ _ _ h, cell_of_row _ _ 4 _ _ _ h, cell_of_row _ _ 5 _ _ _ h⟩
theorem set7 {w : World} {p : Nat} {x0 x1 x2 x3 x4 x5 x6 x7 u0 u1 u2 u3 u4 u5 u6 : Value} {T : TypeId} (h : w.heap[p]? = some (.cells #[x0, x1, x2, x3, x4, x5, x6, x7] T (0, 0))) :
 (((((((w.setCell ⟨p, 0, none⟩ u0).setCell ⟨p, 1, none⟩ u1).setCell ⟨p, 2, none⟩ u2).setCell ⟨p, 3, none⟩ u3).setCell ⟨p, 4, none⟩ u4).setCell ⟨p, 5, none⟩ u5).setCell ⟨p, 6, none⟩ u6).heap[p]? = some (.cells #[u0, u1, u2, u3, u4, u5, u6, x7] T (0, 0)) := by
 simp [World.setCell, Array.getElem?_modify, h]
theorem far7 {w : World} {p q : Nat} {u0 u1 u2 u3 u4 u5 u6 : Value} {x : Obj} (h : w.heap[q]? = some x) (hn : q ≠ p) :
 (((((((w.setCell ⟨p, 0, none⟩ u0).setCell ⟨p, 1, none⟩ u1).setCell ⟨p, 2, none⟩ u2).setCell ⟨p, 3, none⟩ u3).setCell ⟨p, 4, none⟩ u4).setCell ⟨p, 5, none⟩ u5).setCell ⟨p, 6, none⟩ u6).heap[q]? = some x :=
 box_other (box_other (box_other (box_other (box_other (box_other (box_other h hn) hn) hn) hn) hn) hn) hn
theorem Ex.set7 {w w' : World} {p : Nat} {u0 u1 u2 u3 u4 u5 u6 : Value} (h : Ex p w w') :
 Ex p w (((((((w'.setCell ⟨p, 0, none⟩ u0).setCell ⟨p, 1, none⟩ u1).setCell ⟨p, 2, none⟩ u2).setCell ⟨p, 3, none⟩ u3).setCell ⟨p, 4, none⟩ u4).setCell ⟨p, 5, none⟩ u5).setCell ⟨p, 6, none⟩ u6) := h.set.set.set.set.set.set.set
theorem set8 {w : World} {p : Nat} {x0 x1 x2 x3 x4 x5 x6 x7 u0 u1 u2 u3 u4 u5 u6 u7 : Value} {T : TypeId} (h : w.heap[p]? = some (.cells #[x0, x1, x2, x3, x4, x5, x6, x7] T (0, 0))) :
 ((((((((w.setCell ⟨p, 0, none⟩ u0).setCell ⟨p, 1, none⟩ u1).setCell ⟨p, 2, none⟩ u2).setCell ⟨p, 3, none⟩ u3).setCell ⟨p, 4, none⟩ u4).setCell ⟨p, 5, none⟩ u5).setCell ⟨p, 6, none⟩ u6).setCell ⟨p, 7, none⟩ u7).heap[p]? = some (.cells #[u0, u1, u2, u3, u4, u5, u6, u7] T (0, 0)) := by
 simp [World.setCell, Array.getElem?_modify, h]
theorem Ex.new {p q o : Nat} {w w' : World} {u : Value} (h : Ex p w w') (hq : w.heap.size ≤ q) : Ex p w (w'.setCell ⟨q, o, none⟩ u) :=
 ⟨h.os, h.tape, h.output, Nat.le_trans h.size (by simp [World.setCell]), fun i hi hn => (Below.heap_setCell _ _ _ _ (show i ≠ q by omega)).trans (h.block i hi hn)⟩
theorem Ex.alloc {p : Nat} {w w' : World} (h : Ex p w w') (o : Obj) : Ex p w (w'.alloc o) := h.trans (Ex.of (b_alloc (Below.refl _ _) o))
theorem rep_set {w : World} {q : Nat} {a b c d e f u0 u1 u2 u3 u4 u5 : Value} {T : TypeId} (h : w.heap[q]? = some (.cells #[a, b, c, d, e, f] T (0, 0))) :
 ((((((w.setCell ⟨q, 0, none⟩ u0).setCell ⟨q, 1, none⟩ u1).setCell ⟨q, 2, none⟩ u2).setCell ⟨q, 3, none⟩ u3).setCell ⟨q, 4, none⟩ u4).setCell ⟨q, 5, none⟩ u5).heap[q]? = some (.cells #[u0, u1, u2, u3, u4, u5] T (0, 0)) := by
 simp [World.setCell, Array.getElem?_modify, h]
theorem rep_far {w : World} {p q : Nat} {u0 u1 u2 u3 u4 u5 : Value} {x : Obj} (h : w.heap[q]? = some x) (hn : q ≠ p) :
 ((((((w.setCell ⟨p, 0, none⟩ u0).setCell ⟨p, 1, none⟩ u1).setCell ⟨p, 2, none⟩ u2).setCell ⟨p, 3, none⟩ u3).setCell ⟨p, 4, none⟩ u4).setCell ⟨p, 5, none⟩ u5).heap[q]? = some x :=
 box_other (box_other (box_other (box_other (box_other (box_other h hn) hn) hn) hn) hn) hn
theorem ord5f {w : World} {b : Nat} {c0 c1 c2 c3 c4 : Value} {T : TypeId} (h : w.heap[b]? = some (.cells #[c0, c1, c2, c3, c4] T (0, 0))) :
 w.cell? ⟨b, 0, none⟩ = some c0 ∧ w.cell? ⟨b, 1, none⟩ = some c1 ∧ w.cell? ⟨b, 2, none⟩ = some c2 ∧ w.cell? ⟨b, 3, none⟩ = some c3 ∧ w.cell? ⟨b, 4, none⟩ = some c4 :=
 ⟨cell_of_row _ _ 0 _ _ _ h, cell_of_row _ _ 1 _ _ _ h, cell_of_row _ _ 2 _ _ _ h, cell_of_row _ _ 3 _ _ _ h, cell_of_row _ _ 4 _ _ _ h⟩
end Go.Proofs.YtpkpgehiplhkpaaGreat

namespace Go.Proofs.YtpkpgehiplhkpaaGreat
open Go.RowKit
theorem qzdkk_1 {P : Prop} (h : P := by exact ⟨rfl, by rw [if_pos rfl]; exact rep_far hP4.out (by omega), (((((hX4.out.new (by omega)).new (by omega)).new (by omega)).new (by omega)).new (by omega)).new (by omega)⟩) : P := h
set_option maxRecDepth 100000 in
set_option maxHeartbeats 4000000 in
theorem desk_keep (p : Nat) (x0 x1 x2 x3 x4 x5 x6 x7 : Value) (b1 b2 b3 : Option Addr) (m1 d1 m2 d2 m3 d3 : Nat) (r t k : Int) (s : ByteArray) (e : Int) (w : World) (hp : w.heap[p]? = some (.cells #[x0, x1, x2, x3, x4, x5, x6, x7] 94 (0, 0))) :
 Calls Tryz.prog 145 #[.pointer (some ⟨p, 0, none⟩), .agg #[.slice b1 m1 d1, .slice b2 m2 d2, .int .i64 r, .int .i64 t], .agg #[.int .i64 k, .slice b3 m3 d3, .string s], .int .i64 e] w (KeepPost p e #[.slice b1 m1 d1, .slice b2 m2 d2, .int .i64 r, .int .i64 t, .int .i64 k, .slice b3 m3 d3, .string s, x7] #[x0, x1, x2, x3, x4, x5, x6, x7] w) := by
 have hlt := heap_lt hp
 by_cases he : e = 0
 · subst he
   go_enter Tryz.func145, Tryz.ntmps145
   go_wp2_with fail
   have hA := hid (alloc_keep (o := Obj.cells #[.int .i64 0, .string ⟨#[]⟩, .slice none 0 0, .slice none 0 0, .int .i64 0, .slice none 0 0] 45) (alloc_keep (o := Obj.cells #[.int .i64 k, .slice b3 m3 d3, .string s] 32) (heap_alloc_new w (Obj.cells #[.slice b1 m1 d1, .slice b2 m2 d2, .int .i64 r, .int .i64 t] 29))))
   have hB := hid (alloc_keep (o := Obj.cells #[.int .i64 0, .string ⟨#[]⟩, .slice none 0 0, .slice none 0 0, .int .i64 0, .slice none 0 0] 45) (heap_put (w.alloc (Obj.cells #[.slice b1 m1 d1, .slice b2 m2 d2, .int .i64 r, .int .i64 t] 29)) (Obj.cells #[.int .i64 k, .slice b3 m3 d3, .string s] 32) (w.heap.size + 1) (by simp)))
   have hR := hid (heap_put ((w.alloc (Obj.cells #[.slice b1 m1 d1, .slice b2 m2 d2, .int .i64 r, .int .i64 t] 29)).alloc (Obj.cells #[.int .i64 k, .slice b3 m3 d3, .string s] 32)) (Obj.cells #[.int .i64 0, .string ⟨#[]⟩, .slice none 0 0, .slice none 0 0, .int .i64 0, .slice none 0 0] 45) (w.heap.size + 1 + 1) (by simp))
   have hP := hid (alloc_keep (o := Obj.cells #[.int .i64 0, .string ⟨#[]⟩, .slice none 0 0, .slice none 0 0, .int .i64 0, .slice none 0 0] 45) (alloc_keep (o := Obj.cells #[.int .i64 k, .slice b3 m3 d3, .string s] 32) (alloc_keep (o := Obj.cells #[.slice b1 m1 d1, .slice b2 m2 d2, .int .i64 r, .int .i64 t] 29) hp)))
   have hb := hid (b_alloc (b_alloc (b_alloc (Below.refl _ w) (Obj.cells #[.slice b1 m1 d1, .slice b2 m2 d2, .int .i64 r, .int .i64 t] 29)) (Obj.cells #[.int .i64 k, .slice b3 m3 d3, .string s] 32)) (Obj.cells #[.int .i64 0, .string ⟨#[]⟩, .slice none 0 0, .slice none 0 0, .int .i64 0, .slice none 0 0] 45))
   generalize ((w.alloc (Obj.cells #[.slice b1 m1 d1, .slice b2 m2 d2, .int .i64 r, .int .i64 t] 29)).alloc (Obj.cells #[.int .i64 k, .slice b3 m3 d3, .string s] 32)).alloc (Obj.cells #[.int .i64 0, .string ⟨#[]⟩, .slice none 0 0, .slice none 0 0, .int .i64 0, .slice none 0 0] 45) = w3 at *
   obtain ⟨a0, a1, a2, a3⟩ := box4f hA.out
   obtain ⟨c0, c1, c2, -⟩ := box3f hB.out
   have g0 := frozen_heap hP.out 0
   have g1 := frozen_heap hP.out 1
   have g2 := frozen_heap hP.out 2
   have g3 := frozen_heap hP.out 3
   have g4 := frozen_heap hP.out 4
   have g5 := frozen_heap hP.out 5
   have g6 := frozen_heap hP.out 6
   obtain ⟨y0, y1, y2, y3, y4, y5, y6, y7⟩ := box8f hP.out
   have mkS := hid (fun (W : World) (h1 : W.heap[w.heap.size]? = some (.cells #[.slice b1 m1 d1, .slice b2 m2 d2, .int .i64 r, .int .i64 t] 29 (0, 0))) (h2 : W.heap[w.heap.size + 1]? = some (.cells #[.int .i64 k, .slice b3 m3 d3, .string s] 32 (0, 0))) => And.intro (box4f h1) (And.intro (box3f h2).1 (And.intro (box3f h2).2.1 (box3f h2).2.2.1)))
   replace hp := hid hp
   go_region_held3 (fun w' => (w'.cell? ⟨w.heap.size, 0, none⟩ = some (.slice b1 m1 d1) ∧ w'.cell? ⟨w.heap.size, 1, none⟩ = some (.slice b2 m2 d2) ∧ w'.cell? ⟨w.heap.size, 2, none⟩ = some (.int .i64 r) ∧ w'.cell? ⟨w.heap.size, 3, none⟩ = some (.int .i64 t)) ∧ w'.cell? ⟨w.heap.size + 1, 0, none⟩ = some (.int .i64 k) ∧ w'.cell? ⟨w.heap.size + 1, 1, none⟩ = some (.slice b3 m3 d3) ∧ w'.cell? ⟨w.heap.size + 1, 2, none⟩ = some (.string s))
    (first
      | (refine mkS.out _ ?_ ?_ <;> ((repeat (first | with_reducible exact hA.out | with_reducible exact hB.out | (with_reducible refine box_other ?_ (by first | omega | (simp; omega) | fail)) | (with_reducible refine heap_drewn ?_) | fail)) <;> fail))
      | fail)
    (fail)
   clear mkS a0 a1 a2 a3 c0 c1 c2 g0 g1 g2 g3 g4 g5 g6 y0 y1 y2 y3 y4 y5 y6 y7
   have hP4 := hid (heap_drewn (set7 (u0 := .slice b1 m1 d1) (u1 := .slice b2 m2 d2) (u2 := .int .i64 r) (u3 := .int .i64 t) (u4 := .int .i64 k) (u5 := .slice b3 m3 d3) (u6 := .string s) hP.out))
   have hR4 := hid (heap_drewn (far7 (p := p) (u0 := .slice b1 m1 d1) (u1 := .slice b2 m2 d2) (u2 := .int .i64 r) (u3 := .int .i64 t) (u4 := .int .i64 k) (u5 := .slice b3 m3 d3) (u6 := .string s) hR.out (by omega)))
   have hX4 := hid (Ex.set7 (u0 := .slice b1 m1 d1) (u1 := .slice b2 m2 d2) (u2 := .int .i64 r) (u3 := .int .i64 t) (u4 := .int .i64 k) (u5 := .slice b3 m3 d3) (u6 := .string s) (Ex.of (p := p) hb.out)).drew
   generalize World.drew (((((((w3.setCell ⟨p, 0, none⟩ (.slice b1 m1 d1)).setCell ⟨p, 1, none⟩ (.slice b2 m2 d2)).setCell ⟨p, 2, none⟩ (.int .i64 r)).setCell ⟨p, 3, none⟩ (.int .i64 t)).setCell ⟨p, 4, none⟩ (.int .i64 k)).setCell ⟨p, 5, none⟩ (.slice b3 m3 d3)).setCell ⟨p, 6, none⟩ (.string s)) = w4 at *
   obtain ⟨n0, n1, n2, n3, n4, n5⟩ := rep6f hR4.out
   have g0 := frozen_heap hR4.out 0
   have g1 := frozen_heap hR4.out 1
   have g2 := frozen_heap hR4.out 2
   have g3 := frozen_heap hR4.out 3
   have g4 := frozen_heap hR4.out 4
   have g5 := frozen_heap hR4.out 5
   go_wp2_with fail
   have hr9 := rep_set (u0 := .int .i64 0) (u1 := .string ⟨#[]⟩) (u2 := .slice none 0 0) (u3 := .slice none 0 0) (u4 := .int .i64 0) (u5 := .slice none 0 0) hR4.out
   obtain ⟨m0, m1, m2, m3, m4, m5⟩ := rep6f hr9
   refine bodyPost_ret (by simp [results, Tryz.results145, go_sem, m0, m1, m2, m3, m4, m5]; try rfl) rfl ?_
   exact qzdkk_1
 have q1 : (e == 0) = false := by simp [he]
 have hif : Hid ((if e = 0 then #[.slice b1 m1 d1, .slice b2 m2 d2, .int .i64 r, .int .i64 t, .int .i64 k, .slice b3 m3 d3, .string s, x7] else #[x0, x1, x2, x3, x4, x5, x6, x7]) = #[x0, x1, x2, x3, x4, x5, x6, x7]) := hid (if_neg he)
 replace he := hid he
 replace hp := hid hp
 go_enter Tryz.func145, Tryz.ntmps145
 go_wp2_with fail
 refine bodyPost_ret (by simp [results, Tryz.results145, go_sem]; try rfl) rfl ?_
 exact ⟨rfl, by rw [hif.out]; exact hold (hold (hold hp.out)), Ex.of (b_alloc (b_alloc (b_alloc (Below.refl _ _) _) _) _)⟩
set_option maxRecDepth 100000 in
set_option maxHeartbeats 4000000 in
theorem desk_become (p : Nat) (x0 x1 x2 x3 x4 x5 x6 x7 : Value) (b1 b2 b3 b4 : Option Addr) (m1 d1 m2 d2 m3 d3 m4 d4 : Nat) (r t k : Int) (s : ByteArray) (e : Int) (w : World) (hp : w.heap[p]? = some (.cells #[x0, x1, x2, x3, x4, x5, x6, x7] 94 (0, 0))) :
 Calls Tryz.prog 147 #[.pointer (some ⟨p, 0, none⟩), .agg #[.slice b1 m1 d1, .slice b2 m2 d2, .int .i64 r, .int .i64 t, .int .i64 k, .slice b3 m3 d3, .string s, .slice b4 m4 d4], .int .i64 e] w (KeepPost p e #[.slice b1 m1 d1, .slice b2 m2 d2, .int .i64 r, .int .i64 t, .int .i64 k, .slice b3 m3 d3, .string s, .slice b4 m4 d4] #[x0, x1, x2, x3, x4, x5, x6, x7] w) := by
 have hlt := heap_lt hp
 by_cases he : e = 0
 · subst he
   go_enter Tryz.func147, Tryz.ntmps147
   go_upto_region 2 with fail
   have hA := hid (alloc_keep (o := Obj.cells #[.int .i64 0, .string ⟨#[]⟩, .slice none 0 0, .slice none 0 0, .int .i64 0, .slice none 0 0] 45) (heap_alloc_new w (Obj.cells #[.slice b1 m1 d1, .slice b2 m2 d2, .int .i64 r, .int .i64 t, .int .i64 k, .slice b3 m3 d3, .string s, .slice b4 m4 d4] 35)))
   have hR := hid (heap_put (w.alloc (Obj.cells #[.slice b1 m1 d1, .slice b2 m2 d2, .int .i64 r, .int .i64 t, .int .i64 k, .slice b3 m3 d3, .string s, .slice b4 m4 d4] 35)) (Obj.cells #[.int .i64 0, .string ⟨#[]⟩, .slice none 0 0, .slice none 0 0, .int .i64 0, .slice none 0 0] 45) (w.heap.size + 1) (by simp))
   have hP := hid (alloc_keep (o := Obj.cells #[.int .i64 0, .string ⟨#[]⟩, .slice none 0 0, .slice none 0 0, .int .i64 0, .slice none 0 0] 45) (alloc_keep (o := Obj.cells #[.slice b1 m1 d1, .slice b2 m2 d2, .int .i64 r, .int .i64 t, .int .i64 k, .slice b3 m3 d3, .string s, .slice b4 m4 d4] 35) hp))
   have hb := hid (b_alloc (b_alloc (Below.refl _ w) (Obj.cells #[.slice b1 m1 d1, .slice b2 m2 d2, .int .i64 r, .int .i64 t, .int .i64 k, .slice b3 m3 d3, .string s, .slice b4 m4 d4] 35)) (Obj.cells #[.int .i64 0, .string ⟨#[]⟩, .slice none 0 0, .slice none 0 0, .int .i64 0, .slice none 0 0] 45))
   generalize (w.alloc (Obj.cells #[.slice b1 m1 d1, .slice b2 m2 d2, .int .i64 r, .int .i64 t, .int .i64 k, .slice b3 m3 d3, .string s, .slice b4 m4 d4] 35)).alloc (Obj.cells #[.int .i64 0, .string ⟨#[]⟩, .slice none 0 0, .slice none 0 0, .int .i64 0, .slice none 0 0] 45) = w3 at *
   obtain ⟨a0, a1, a2, a3, a4, a5, a6, a7⟩ := box8f hA.out
   obtain ⟨y0, y1, y2, y3, y4, y5, y6, y7⟩ := box8f hP.out
   have g0 := frozen_heap hP.out 0
   have g1 := frozen_heap hP.out 1
   have g2 := frozen_heap hP.out 2
   have g3 := frozen_heap hP.out 3
   have g4 := frozen_heap hP.out 4
   have g5 := frozen_heap hP.out 5
   have g6 := frozen_heap hP.out 6
   have g7 := frozen_heap hP.out 7
   replace hp := hid hp
   go_upto_region 3 with fail
   have hP4 := hid (set8 (u0 := .slice b1 m1 d1) (u1 := .slice b2 m2 d2) (u2 := .int .i64 r) (u3 := .int .i64 t) (u4 := .int .i64 k) (u5 := .slice b3 m3 d3) (u6 := .string s) (u7 := .slice b4 m4 d4) hP.out)
   have hR4 := hid (box_other (q := p) (o := 7) (u := .slice b4 m4 d4) (far7 (p := p) (u0 := .slice b1 m1 d1) (u1 := .slice b2 m2 d2) (u2 := .int .i64 r) (u3 := .int .i64 t) (u4 := .int .i64 k) (u5 := .slice b3 m3 d3) (u6 := .string s) hR.out (by omega)) (by omega))
   have hX4 := hid ((Ex.set7 (u0 := .slice b1 m1 d1) (u1 := .slice b2 m2 d2) (u2 := .int .i64 r) (u3 := .int .i64 t) (u4 := .int .i64 k) (u5 := .slice b3 m3 d3) (u6 := .string s) (Ex.of (p := p) hb.out)).set (o := 7) (u := .slice b4 m4 d4))
   generalize ((((((((w3.setCell ⟨p, 0, none⟩ (.slice b1 m1 d1)).setCell ⟨p, 1, none⟩ (.slice b2 m2 d2)).setCell ⟨p, 2, none⟩ (.int .i64 r)).setCell ⟨p, 3, none⟩ (.int .i64 t)).setCell ⟨p, 4, none⟩ (.int .i64 k)).setCell ⟨p, 5, none⟩ (.slice b3 m3 d3)).setCell ⟨p, 6, none⟩ (.string s)).setCell ⟨p, 7, none⟩ (.slice b4 m4 d4)) = w4 at *
   clear a0 a1 a2 a3 a4 a5 a6 a7 y0 y1 y2 y3 y4 y5 y6 y7 g0 g1 g2 g3 g4 g5 g6 g7
   obtain ⟨n0, n1, n2, n3, n4, n5⟩ := rep6f hR4.out
   have f0 := frozen_heap hR4.out 0
   have f1 := frozen_heap hR4.out 1
   have f2 := frozen_heap hR4.out 2
   have f3 := frozen_heap hR4.out 3
   have f4 := frozen_heap hR4.out 4
   have f5 := frozen_heap hR4.out 5
   go_wp2_with fail
   have hr9 := rep_set (u0 := .int .i64 0) (u1 := .string ⟨#[]⟩) (u2 := .slice none 0 0) (u3 := .slice none 0 0) (u4 := .int .i64 0) (u5 := .slice none 0 0) hR4.out
   obtain ⟨m0, m1, m2, m3, m4, m5⟩ := rep6f hr9
   refine bodyPost_ret (by simp [results, Tryz.results147, go_sem, m0, m1, m2, m3, m4, m5]; try rfl) rfl ?_
   exact qzdkk_1
 have q1 : (e == 0) = false := by simp [he]
 have hif : Hid ((if e = 0 then #[.slice b1 m1 d1, .slice b2 m2 d2, .int .i64 r, .int .i64 t, .int .i64 k, .slice b3 m3 d3, .string s, .slice b4 m4 d4] else #[x0, x1, x2, x3, x4, x5, x6, x7]) = #[x0, x1, x2, x3, x4, x5, x6, x7]) := hid (if_neg he)
 replace he := hid he
 replace hp := hid hp
 go_enter Tryz.func147, Tryz.ntmps147
 go_wp2_with fail
 refine bodyPost_ret (by simp [results, Tryz.results147, go_sem]; try rfl) rfl ?_
 exact ⟨rfl, by rw [hif.out]; exact hold (hold hp.out), Ex.of (b_alloc (b_alloc (Below.refl _ _) _) _)⟩
end Go.Proofs.YtpkpgehiplhkpaaGreat

namespace Go.Proofs.YtpkpgehiplhkpaaGreat
open Go.RowKit
def AllK (s : Nat) (K : Nat → Value → Prop) (w : World) (g : Nat) : Prop := ∃ (cur : Array Value) (T : TypeId), w.heap[g]? = some (.cells cur T (0, 0)) ∧ ∀ i u, cur[i]? = some u → K (i % s) u
def OKd {α : Type} (K : Nat → Value → Prop) (e : TypeId) (s : Nat) (cells : α → List Value) (w : World) (B : Nat) (v : Value) (l : List α) : Prop := OS e s cells w B v l ∧ ∀ g, v.ownBlock = some g → AllK s K w g
theorem AllK.cell {s : Nat} {K : Nat → Value → Prop} {w : World} {g o : Nat} {v : Value} (h : AllK s K w g) (hc : w.cell? ⟨g, o, none⟩ = some v) : K (o % s) v := by
 obtain ⟨cur, T, hh, hs⟩ := h
 rw [cell_of_row w g o cur T _ hh] at hc
 exact hs o v hc
section
variable {α : Type} {K : Nat → Value → Prop} {e : TypeId} {s : Nat} {cells : α → List Value} {w w' : World} {B : Nat} {v : Value} {l : List α}
theorem OKd.nil : OKd K e s cells w B (.slice none 0 0) ([] : List α) := ⟨OS.nil, fun g h => by cases h⟩
theorem OKd.kept (h : OKd K e s cells w B v l) (hk : ∀ g, v.ownBlock = some g → g < w.heap.size → w'.heap[g]? = w.heap[g]?) : OKd K e s cells w' B v l := by
 obtain ⟨⟨h1, h2⟩, h3⟩ := h
 rcases h2 with ⟨rfl, hn⟩ | ⟨g, cap, cur, rfl, hB, hh, r⟩
 · exact ⟨⟨h1, .inl ⟨rfl, hn⟩⟩, fun g hg => by cases hg⟩
 have e1 := hk g rfl (Array.getElem?_eq_some_iff.1 hh).1
 refine ⟨⟨h1, .inr ⟨g, cap, cur, rfl, hB, e1.trans hh, r⟩⟩, fun k hk' => ?_⟩
 obtain ⟨c2, T2, q1, q2⟩ := h3 k hk'
 simp only [Value.ownBlock, Option.some.injEq] at hk'
 subst hk'
 exact ⟨c2, T2, e1.trans q1, q2⟩
theorem OKd.below (h : OKd K e s cells w B v l) (hb : Below w.heap.size w w') : OKd K e s cells w' B v l := h.kept fun g _ hg => hb.block g hg
theorem OKd.alloc (h : OKd K e s cells w B v l) (o : Obj) : OKd K e s cells (w.alloc o) B v l := h.kept fun _ _ hg => heap_alloc_old w o hg
theorem OKd.drew (h : OKd K e s cells w B v l) : OKd K e s cells w.drew B v l := h
theorem OKd.ex {p : Nat} (h : OKd K e s cells w B v l) (hb : Ex p w w') (hp : p < B) : OKd K e s cells w' B v l :=
 h.kept fun g hg hlt => hb.block g hlt (by have := OS.block h.1 g hg; simp; omega)
end
theorem zero_K {K : Nat → Value → Prop} {zc : Array Value} (hz : ∀ j u, zc[j]? = some u → K j u) (n : Nat) : ∀ i u, (Builtin.zeroCells zc n)[i]? = some u → K (i % zc.size) u := by
 intro i u hu
 unfold Builtin.zeroCells at hu
 rw [Array.getElem?_map] at hu
 obtain ⟨j, hj, rfl⟩ := Option.map_eq_some_iff.1 hu
 obtain ⟨h1, h2⟩ := Array.getElem?_eq_some_iff.1 hj
 simp only [Array.size_range] at h1
 simp only [Array.getElem_range] at h2
 subst h2
 have hpos : 0 < zc.size := by
  rcases Nat.eq_zero_or_pos zc.size with h | h
  · rw [h] at h1; omega
  exact h
 have hm := Nat.mod_lt i hpos
 rw [getElem!_pos zc _ hm]
 exact hz _ _ (Array.getElem?_eq_getElem hm)
theorem flat_K {α : Type} {K : Nat → Value → Prop} {s : Nat} {cells : α → List Value} (hs : 0 < s) (hl : ∀ x, (cells x).length = s) (hK : ∀ x j u, (cells x)[j]? = some u → K j u) (l : List α) : ∀ i u, (l.flatMap cells)[i]? = some u → K (i % s) u := by
 intro i u hu
 rw [flat_get hl hs] at hu
 obtain ⟨x, -, hu⟩ := Option.bind_eq_some_iff.1 hu
 exact hK x _ u hu
theorem append_K {K : Nat → Value → Prop} {s n : Nat} {a b : List Value} (ha : ∀ i u, a[i]? = some u → K (i % s) u) (hn : a.length = n * s) (hb : ∀ i u, b[i]? = some u → K (i % s) u) : ∀ i u, (a ++ b)[i]? = some u → K (i % s) u := by
 intro i u hu
 by_cases h : i < a.length
 · rw [List.getElem?_append_left h] at hu; exact ha i u hu
 rw [List.getElem?_append_right (by omega)] at hu
 have h1 := hb _ u hu
 rw [hn, Nat.mul_comm, Nat.sub_mul_mod (by rw [Nat.mul_comm]; omega)] at h1
 exact h1
theorem run_append_K {α : Type} {P : Program} {K : Nat → Value → Prop} {s : Nat} {cells : α → List Value} (hpos : 0 < s) (hl1 : ∀ x, (cells x).length = s) (hone : ∀ x, ∀ u ∈ cells x, u.oneCell' = true) (hK : ∀ x j u, (cells x)[j]? = some u → K j u)
 (w : World) (B : Nat) (t ty e : TypeId) (i : TypeInfo) (z : Value) (bytes : Nat) (ht : P.underlying t = some (.slice e)) (hi : P.info? e = some i) (hz : i.zero = some z) (hsize : i.size = s) (hby : i.bytes = bytes) (hzs : z.cells.size = s) (hzK : ∀ j u, z.cells[j]? = some u → K j u)
 (v : Value) (l : List α) (hown : OKd K e s cells w B v l) (ad : Addr) (m : List α) (c : Nat) (hc : ∀ j u, (m.flatMap cells)[j]? = some u → w.cell? (ad.add j) = some u)
 (hlen : (l.length + m.length) * bytes ≤ 140737488355328) (hmax : l.length + m.length ≤ maxLen) (hB : B ≤ w.heap.size) :
 ∃ v' w', (Builtin.append_ #[t, t] ty #[v, .slice (some ad) m.length c]).run P w = .ok v' w' ∧ OKd K e s cells w' B v' (l ++ m) ∧ w.grownBy w' v.ownBlock := by
 have hl : (m.flatMap cells).length = m.length * s := flat_len hl1 m
 have h1 : ∀ u ∈ m.flatMap cells, u.oneCell' = true := fun u hu => by
  obtain ⟨x, _, hx⟩ := List.mem_flatMap.1 hu
  exact hone x u hx
 obtain ⟨v', w', hr, h2, h3, h4⟩ := run_append_own (P := P) w B t ty e i z s bytes ht hi hz hsize hby hzs hpos v l.length _ hown.1 ad m.length c (m.flatMap cells) hl hc h1 hmax hlen hB
 refine ⟨v', w', hr, ⟨by unfold OS; rw [List.length_append, List.flatMap_append]; exact h2, fun k hk => ?_⟩, h3⟩
 have hm63 : l.length + m.length ≤ 9223372036854775807 := by simp only [maxLen] at hmax; omega
 have kz : ∀ n i u, (Builtin.zeroCells z.cells n).toList[i]? = some u → K (i % s) u := fun n i u hu => by
  rw [Array.getElem?_toList] at hu
  have := zero_K hzK n i u hu
  rwa [hzs] at this
 rcases hown.1.2 with ⟨rfl, hn⟩ | ⟨g, cap, cur, rfl, hbg, hg, hnc, hcm, hcs, htake⟩
 · by_cases hm : m.length = 0
   · obtain rfl := h4.2 ⟨rfl, hm⟩
     cases hk
   have hr2 := run_append_nil (P := P) w t ty e i _ ht hi hz ad m.length c (m.flatMap cells) (by rw [hsize]; exact hl) hc (by omega) (by omega) (by rw [hby]; exact Nat.le_trans (Nat.mul_le_mul_right _ (Nat.le_add_left _ _)) (Nat.le_trans hlen (by decide)))
   rw [hr] at hr2
   injection hr2 with e1 e2
   subst e1 e2
   simp only [Value.ownBlock, Option.some.injEq] at hk
   subst hk
   refine ⟨_, e, heap_alloc_new w.drew _, fun i u hu => ?_⟩
   rw [← Array.getElem?_toList, Array.toList_append] at hu
   exact append_K (flat_K hpos hl1 hK m) hl (kz _) i u hu
 obtain ⟨c2, T2, q1, q2⟩ := hown.2 g rfl
 rw [hg] at q1
 simp only [Option.some.injEq, Obj.cells.injEq, and_true] at q1
 obtain ⟨rfl, rfl⟩ := q1
 by_cases hroom : l.length + m.length ≤ cap
 · have hr2 := run_append_room (P := P) w t ty e i ht hi g l.length cap cur hg ad m.length c (m.flatMap cells) (by rw [hsize]; exact hl) hc h1 hroom (by rw [hsize, hl, hcs, ← Nat.add_mul]; exact Nat.mul_le_mul_right _ hroom)
   rw [hr] at hr2
   injection hr2 with e1 e2
   subst e1 e2
   simp only [Value.ownBlock, Option.some.injEq] at hk
   subst hk
   refine ⟨_, e, setRow_heap w g cur _ e _ hg, fun i u hu => ?_⟩
   rw [hsize] at hu
   rw [List.getElem?_toArray] at hu
   have hle : l.length * s + (m.flatMap cells).length ≤ cur.toList.length := by
    have hcl : cur.toList.length = cap * s := by rw [Array.length_toList, hcs]
    rw [hl, ← Nat.add_mul, hcl]; exact Nat.mul_le_mul_right _ hroom
   by_cases hA : i < l.length * s
   · rw [List.append_assoc, List.getElem?_append_left (by rw [List.length_take]; omega), List.getElem?_take_of_lt hA, Array.getElem?_toList] at hu
     exact q2 i u hu
   by_cases hBm : i < l.length * s + (m.flatMap cells).length
   · rw [List.getElem?_append_left (by rw [List.length_append, List.length_take]; omega), List.getElem?_append_right (by rw [List.length_take]; omega), List.length_take, Nat.min_eq_left (by omega)] at hu
     have h9 := flat_K hpos hl1 hK m _ u hu
     rw [Nat.mul_comm, Nat.sub_mul_mod (by rw [Nat.mul_comm]; omega)] at h9
     exact h9
   rw [List.getElem?_append_right (by rw [List.length_append, List.length_take]; omega), List.length_append, List.length_take, Nat.min_eq_left (by omega), List.getElem?_drop, Array.getElem?_toList] at hu
   have e9 : l.length * s + (m.flatMap cells).length + (i - (l.length * s + (m.flatMap cells).length)) = i := by omega
   rw [e9] at hu
   exact q2 i u hu
 have holds : ∀ j u, (l.flatMap cells)[j]? = some u → w.cell? ((⟨g, 0, none⟩ : Addr).add j) = some u := World.ownsRow.cells hown.1 (g := g) rfl
 have hr2 := run_append_grow (P := P) w t ty e i _ ht hi hz ⟨g, 0, none⟩ l.length cap (l.flatMap cells) (by rw [hsize]; exact hown.1.1) holds ad m.length c (m.flatMap cells) (by rw [hsize]; exact hl) hc (by omega) (by omega) (by rw [hby]; exact growslice_fits (by omega) hlen)
 rw [hr] at hr2
 injection hr2 with e1 e2
 subst e1 e2
 simp only [Value.ownBlock, Option.some.injEq] at hk
 subst hk
 refine ⟨_, e, heap_alloc_new w.drew _, fun i u hu => ?_⟩
 rw [← Array.getElem?_toList, Array.toList_append, Array.toList_append] at hu
 refine append_K (n := l.length + m.length) ?_ ?_ (kz _) i u hu
 · exact append_K (flat_K hpos hl1 hK l) (flat_len hl1 l) (flat_K hpos hl1 hK m)
 show (l.flatMap cells ++ m.flatMap cells).length = _
 rw [List.length_append, flat_len hl1, hl, Nat.add_mul]
theorem wpList_append_K {α : Type} {P : Program} {w : World} {ops : Array Oper} {rest : List Oper} {o : Oper} {a : Act} {Q : Exit → Act → World → Prop} {K : Nat → Value → Prop} {s : Nat} {cells : α → List Value} (hpos : 0 < s) (hl1 : ∀ x, (cells x).length = s) (hone : ∀ x, ∀ u ∈ cells x, u.oneCell' = true) (hK : ∀ x j u, (cells x)[j]? = some u → K j u)
 (hgd : o.guard = none) (x y : Operand) (t : TypeId) (ho : o.op = .call { callee := .builtin .append, args := #[x, y], argTypes := #[t, t] })
 (e : TypeId) (i : TypeInfo) (z : Value) (bytes : Nat) (ht : P.underlying t = some (.slice e)) (hi : P.info? e = some i) (hz : i.zero = some z) (hsize : i.size = s) (hby : i.bytes = bytes) (hzs : z.cells.size = s) (hzK : ∀ j u, z.cells[j]? = some u → K j u)
 (B : Nat) (v : Value) (l : List α) (hs : a.eval x = v) (hown : OKd K e s cells w B v l) (ad : Addr) (m : List α) (c n : Nat) (hn : n = m.length) (hx : a.eval y = .slice (some ad) n c) (hc : ∀ j u, (m.flatMap cells)[j]? = some u → w.cell? (ad.add j) = some u)
 (hlen : (l.length + m.length) * bytes ≤ 140737488355328) (hmax : l.length + m.length ≤ maxLen) (hB : B ≤ w.heap.size)
 (h : ∀ v' w', OKd K e s cells w' B v' (l ++ m) → w.grownBy w' v.ownBlock → wpList P ops Q rest (a.put o.dst v') w') : wpList P ops Q (o :: rest) a w := by
 subst hn
 refine wpList_plain hgd fun K' hK' => ?_
 obtain ⟨v', w', hr, h2, h3⟩ := run_append_K (P := P) hpos hl1 hone hK w B t o.type e i z bytes ht hi hz hsize hby hzs hzK v l hown ad m c hc hlen hmax hB
 unfold Oper.wp execOp
 simp only [ho, resolve, invoke, builtin, Sem.run_bind, Sem.run_pure, Result.andThen_ok, List.map_toArray, List.map_cons, List.map_nil, hs, hx, hr]
 exact hK' _ _ (h v' w' h2 h3)
structure RepR where
 y : Rep
 d : Option Addr × Nat
 p : Option Addr × Nat
 h : Option Addr × Nat
def RepR.dv (r : RepR) : Value := .slice r.d.1 r.y.data.length r.d.2
def RepR.pv (r : RepR) : Value := .slice r.p.1 r.y.parts.length r.p.2
def RepR.hv (r : RepR) : Value := .slice r.h.1 r.y.who.length r.h.2
def cRep (r : RepR) : List Value := [.int .i64 r.y.err, .string r.y.digest, r.dv, r.pv, .int .i64 r.y.n, r.hv]
def repK (j : Nat) (u : Value) : Prop := if j = 0 ∨ j = 4 then ∃ n, u = .int .i64 n else if j = 1 then ∃ s, u = .string s else ∃ a l c, u = .slice a l c
theorem cRep_len (r : RepR) : (cRep r).length = 6 := rfl
theorem cRep_one (r : RepR) : ∀ u ∈ cRep r, u.oneCell' = true := by
 intro u hu
 simp only [cRep, List.mem_cons, List.not_mem_nil, or_false] at hu
 rcases hu with rfl | rfl | rfl | rfl | rfl | rfl <;> rfl
theorem cRep_K (r : RepR) : ∀ j u, (cRep r)[j]? = some u → repK j u := by
 intro j u hu
 match j with
 | 0 => simp only [cRep, List.getElem?_cons_zero, Option.some.injEq] at hu; subst hu; exact ⟨_, rfl⟩
 | 1 => simp only [cRep, List.getElem?_cons_zero, List.getElem?_cons_succ, Option.some.injEq] at hu; subst hu; exact ⟨_, rfl⟩
 | 2 => simp only [cRep, List.getElem?_cons_zero, List.getElem?_cons_succ, Option.some.injEq] at hu; subst hu; exact ⟨_, _, _, rfl⟩
 | 3 => simp only [cRep, List.getElem?_cons_zero, List.getElem?_cons_succ, Option.some.injEq] at hu; subst hu; exact ⟨_, _, _, rfl⟩
 | 4 => simp only [cRep, List.getElem?_cons_zero, List.getElem?_cons_succ, Option.some.injEq] at hu; subst hu; exact ⟨_, rfl⟩
 | 5 => simp only [cRep, List.getElem?_cons_zero, List.getElem?_cons_succ, Option.some.injEq] at hu; subst hu; exact ⟨_, _, _, rfl⟩
 | j + 6 => simp [cRep] at hu
theorem repK_str {j : Nat} {s : ByteArray} (h : repK j (.string s)) : j = 1 := by
 unfold repK at h
 split at h
 · obtain ⟨n, h⟩ := h; cases h
 split at h
 · assumption
 obtain ⟨a, l, c, h⟩ := h; cases h
theorem repK_int {j : Nat} {k : IntKind} {n : Int} (h : repK j (.int k n)) : (j = 0 ∨ j = 4) ∧ k = .i64 := by
 unfold repK at h
 split at h
 · obtain ⟨m, h⟩ := h
   cases h
   exact ⟨by assumption, rfl⟩
 split at h
 · obtain ⟨s, h⟩ := h; cases h
 obtain ⟨a, l, c, h⟩ := h; cases h
theorem repK_bool {j : Nat} {b : Bool} (h : repK j (.bool b)) : False := by
 unfold repK at h
 split at h
 · obtain ⟨m, h⟩ := h; cases h
 split at h
 · obtain ⟨s, h⟩ := h; cases h
 obtain ⟨a, l, c, h⟩ := h; cases h
abbrev ORep (w : World) (B : Nat) (v : Value) (l : List RepR) : Prop := OKd repK 45 6 cRep w B v l
def Odd (w : World) (g : Nat) : Prop := ∀ o, (∀ b, w.cell? ⟨g, o, none⟩ ≠ some (.bool b)) ∧ (∀ n, w.cell? ⟨g, o, none⟩ ≠ some (.int .u8 n)) ∧
 (∀ s s', w.cell? ⟨g, o, none⟩ = some (.string s) → w.cell? ⟨g, o + 1, none⟩ ≠ some (.string s')) ∧ ∀ s k n, w.cell? ⟨g, o, none⟩ = some (.string s) → w.cell? ⟨g, o + 2, none⟩ ≠ some (.int k n)
theorem AllK.odd {w : World} {g : Nat} (h : AllK 6 repK w g) : Odd w g := by
 intro o
 refine ⟨fun b e => repK_bool (h.cell e), fun n e => ?_, fun s s' e e' => ?_, fun s k n e e' => ?_⟩
 · have q := (repK_int (h.cell e)).2
   cases q
 · have q1 := repK_str (h.cell e)
   have q2 := repK_str (h.cell e')
   omega
 have q1 := repK_str (h.cell e)
 have q2 := (repK_int (h.cell e')).1
 omega
theorem desk_odd {w : World} {p : Nat} {a1 a2 a3 a4 : Option Addr} {n1 c1 n2 c2 n3 c3 n4 c4 : Nat} {r t k : Int} {s : ByteArray} {T : TypeId} (h : w.heap[p]? = some (.cells #[.slice a1 n1 c1, .slice a2 n2 c2, .int .i64 r, .int .i64 t, .int .i64 k, .slice a3 n3 c3, .string s, .slice a4 n4 c4] T (0, 0))) : Odd w p := by
 intro o
 have hc : ∀ o, w.cell? ⟨p, o, none⟩ = (#[Value.slice a1 n1 c1, .slice a2 n2 c2, .int .i64 r, .int .i64 t, .int .i64 k, .slice a3 n3 c3, .string s, .slice a4 n4 c4])[o]? := fun o => cell_of_row w p o _ T _ h
 rw [hc, hc, hc]
 match o with
 | 0 => simp
 | 1 => simp
 | 2 => simp
 | 3 => simp
 | 4 => simp
 | 5 => simp
 | 6 => simp
 | 7 => simp
 | o + 8 => simp
section
variable {w w' : World} {row : Option Nat} (hg : w.grownBy w' row) (ha : ∀ g, row = some g → Odd w g)
include hg ha
theorem EU8.odd {b o : Nat} {x : UInt8} (h : EU8 w b o x) : EU8 w' b o x := hg.cell h (fun e => (ha b e.symm o).2.1 _ h)
theorem EPart.odd {b o : Nat} {x : Part} (h : EPart w b o x) : EPart w' b o x := by
 obtain ⟨h1, h2, h3, h4⟩ := h
 have hne : some b ≠ row := fun e => (ha b e.symm o).2.2.1 _ _ h1 h2
 exact ⟨hg.cell h1 hne, hg.cell h2 hne, hg.cell h3 hne, h4⟩
theorem EBlob.odd {b o : Nat} {x : Blob} (h : EBlob w b o x) : EBlob w' b o x := by
 obtain ⟨dv, h1, h2, h3, h4, h5, h6⟩ := h
 have hne : some b ≠ row := fun e => (ha b e.symm (o + 3)).1 _ h4
 exact ⟨dv, hg.cell h1 hne, hg.cell h2 hne, hg.cell h3 hne, hg.cell h4 hne, RS.grown (fun _ _ _ => EU8.odd hg ha) h5 hg.size, h6⟩
theorem EEntry.odd {b o : Nat} {x : Entry} (h : EEntry w b o x) : EEntry w' b o x := by
 obtain ⟨dv, h1, h2, h3, h4, h5, h6⟩ := h
 have hne : some b ≠ row := fun e => (ha b e.symm o).2.2.2 _ _ _ h1 h3
 exact ⟨dv, hg.cell h1 hne, hg.cell h2 hne, hg.cell h3 hne, hg.cell h4 hne, RS.grown (fun _ _ _ => EPart.odd hg ha) h5 hg.size, h6⟩
theorem RB.odd {v : Value} {l : List UInt8} (h : RB w v l) : RB w' v l := RS.grown (fun _ _ _ => EU8.odd hg ha) h hg.size
theorem RP.odd {v : Value} {l : List Part} (h : RP w v l) : RP w' v l := RS.grown (fun _ _ _ => EPart.odd hg ha) h hg.size
theorem RBl.odd {v : Value} {l : List Blob} (h : RBl w v l) : RBl w' v l := RS.grown (fun _ _ _ => EBlob.odd hg ha) h hg.size
theorem RE.odd {v : Value} {l : List Entry} (h : RE w v l) : RE w' v l := RS.grown (fun _ _ _ => EEntry.odd hg ha) h hg.size
end
theorem OS.grownT {α β : Type} {e T : TypeId} {s sT B B' : Nat} {cells : α → List Value} {cT : β → List Value} {w w' : World} {v u : Value} {l : List α} {lT : List β} (hg : w.grownBy w' u.ownBlock) (hu : OS T sT cT w B' u lT) (h : OS e s cells w B v l) (hT : T ≠ e) : OS e s cells w' B v l := by
 refine OS.keptBy h hg fun b hb => ?_
 rcases hu.2 with ⟨rfl, -⟩ | ⟨g, cap, cur, rfl, -, hh, -⟩
 · cases hb
 simp only [Value.ownBlock, Option.some.injEq] at hb
 subst hb
 exact OS.block_ne h hh hT
theorem OFlight.grownT {β : Type} {T : TypeId} {sT B B' : Nat} {cT : β → List Value} {w w' : World} {v u : Value} {l : List Flight} {lT : List β} (hg : w.grownBy w' u.ownBlock) (hu : OS T sT cT w B' u lT) (h : OFlight w B v l) (h1 : T ≠ 138) (h2 : T ≠ 3) : OFlight w' B v l := by
 obtain ⟨rs, q1, q2, q3⟩ := h
 exact ⟨rs, q1, OS.grownT hg hu q2 h1, fun r hr => OS.grownT hg hu (q3 r hr) h2⟩
theorem grownT_heap {β : Type} {T T' : TypeId} {sT B' p : Nat} {cT : β → List Value} {w w' : World} {u : Value} {lT : List β} {cs : Array Value} {fr : Nat × Nat} (hg : w.grownBy w' u.ownBlock) (hu : OS T sT cT w B' u lT) (hp : w.heap[p]? = some (.cells cs T' fr)) (hT : T' ≠ T) : w'.heap[p]? = some (.cells cs T' fr) :=
 (hg.block p (Array.getElem?_eq_some_iff.1 hp).1 (fun e1 => OS.block_ne hu hp hT e1.symm)).trans hp
end Go.Proofs.YtpkpgehiplhkpaaGreat
