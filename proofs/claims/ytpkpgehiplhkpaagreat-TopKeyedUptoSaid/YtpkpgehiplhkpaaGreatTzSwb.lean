import Derived.Test.YtpkpgehiplhkpaaGreatTzSt
import Derived.Test.YtpkpgehiplhkpaaGreatTzOwE
namespace Go.Proofs.YtpkpgehiplhkpaaGreat
open Go.RowKit
theorem qzstc_1 {P : Prop} (h : P := by simp [World.setCell, Array.getElem?_modify, h]) : P := h
theorem box4_set01 {w : World} {q : Nat} {a b c d u0 u1 : Value} {T : TypeId} (h : w.heap[q]? = some (.cells #[a, b, c, d] T (0, 0))) : ((w.setCell ⟨q, 0, none⟩ u0).setCell ⟨q, 1, none⟩ u1).heap[q]? = some (.cells #[u0, u1, c, d] T (0, 0)) := by
 exact qzstc_1
theorem box4_set {w : World} {q : Nat} {a b c d u0 u1 u2 u3 : Value} {T : TypeId} (h : w.heap[q]? = some (.cells #[a, b, c, d] T (0, 0))) :
 ((((w.setCell ⟨q, 0, none⟩ u0).setCell ⟨q, 1, none⟩ u1).setCell ⟨q, 2, none⟩ u2).setCell ⟨q, 3, none⟩ u3).heap[q]? = some (.cells #[u0, u1, u2, u3] T (0, 0)) := by
 exact qzstc_1
def OwnedStore (bs : List Blob) (es : List Entry) (r t : Int) (w : World) (e : Ending) (w' : World) : Prop :=
 ∃ v1 v2, e = .returned (.agg #[v1, v2, .int .i64 r, .int .i64 t]) ∧ OBlob w' w.heap.size v1 bs ∧ OEntry w' w.heap.size v2 es ∧ Below w.heap.size w w'
set_option maxRecDepth 100000 in
set_option maxHeartbeats 1000000 in
theorem store_CopyO (v u : Value) (bs : List Blob) (es : List Entry) (r t : Int) (w : World) (h : RBl w v bs) (g : RE w u es) :
 Calls Tryz.prog 52 #[.agg #[v, u, .int .i64 r, .int .i64 t]] w (OwnedStore bs es r t w) := by
 have hR := hid h
 have hE := hid g
 obtain ⟨a, c, rfl, -⟩ := h
 obtain ⟨a2, c2, rfl, -⟩ := g
 obtain ⟨w1, hw1⟩ : ∃ w1 : World, w1 = (w.alloc (Obj.cells #[.slice a bs.length c, .slice a2 es.length c2, .int .i64 r, .int .i64 t] 29)).alloc (Obj.cells #[.slice none 0 0, .slice none 0 0, .int .i64 0, .int .i64 0] 29) := ⟨_, rfl⟩
 have hb1 := hid (show Below w.heap.size w w1 by rw [hw1]; exact b_alloc (b_alloc (Below.refl _ _) _) _)
 have hq1 := hid (show w1.heap[w.heap.size]? = some (.cells #[.slice a bs.length c, .slice a2 es.length c2, .int .i64 r, .int .i64 t] 29 (0, 0)) by rw [hw1]; exact heap_alloc2_old w _ _)
 have hp1 := hid (show w1.heap[w.heap.size + 1]? = some (.cells #[.slice none 0 0, .slice none 0 0, .int .i64 0, .int .i64 0] 29 (0, 0)) by rw [hw1]; exact heap_alloc2_new w _ _)
 have hl1 := (Array.getElem?_eq_some_iff.1 hq1.out).1
 have hm1 := (Array.getElem?_eq_some_iff.1 hp1.out).1
 have f1 := hid (blob_Copy _ bs w1.drew (hR.out.mono EBlob.stable hb1.out.drew))
 go_enter Tryz.func52, Tryz.ntmps52
 go_wp2_with fail
 rw [← hw1]
 clear hw1
 obtain ⟨x0, x1, -, -⟩ := box4f hq1.out
 go_region_with (first
  | (go_at_call 109; refine f1.out.mono ?_
     rintro e w2 ⟨rfl, o1', b2⟩
     have o1 : OBlob w2 w1.heap.size (.slice (some ⟨w1.heap.size, 0, none⟩) bs.length bs.length) bs := o1'
     have hb2 : Below w.heap.size w w2 := b_call hb1.out.drew b2
     have hq2 := (b2.block w.heap.size hl1).trans hq1.out
     have hp2 := (b2.block (w.heap.size + 1) hm1).trans hp1.out
     obtain ⟨y0, y1, -, -⟩ := box4f hq2)
  | (go_at_call 110; refine (index_Copy _ es w2 (hE.out.mono EEntry.stable hb2)).mono ?_
     rintro e w3 ⟨rfl, o2, b3⟩
     have hb3 : Below w.heap.size w w3 := b_call hb2 b3
     have hq3 := (b3.block w.heap.size (Array.getElem?_eq_some_iff.1 hq2).1).trans hq2
     have hp3 := (b3.block (w.heap.size + 1) (Array.getElem?_eq_some_iff.1 hp2).1).trans hp2
     have o3 := OBlob.after o1 b3
     have hfr0 := frozen_heap hq3 0
     have hfr1 := frozen_heap hq3 1
     obtain ⟨z0, z1, -, -⟩ := box4f hq3))
 all_goals
  have hs2 : w1.heap.size ≤ w2.heap.size := b2.size
  have hq5 := box4_set01 (u0 := .slice (some ⟨w1.heap.size, 0, none⟩) bs.length bs.length) (u1 := .slice (some ⟨w2.heap.size, 0, none⟩) es.length es.length) hq3
  have hp5 := box_other (q := w.heap.size) (o := 1) (u := .slice (some ⟨w2.heap.size, 0, none⟩) es.length es.length) (box_other (q := w.heap.size) (o := 0) (u := .slice (some ⟨w1.heap.size, 0, none⟩) bs.length bs.length) hp3 (by omega)) (by omega)
  have ob5 := (o3.set (q := w.heap.size) (o := 0) (u := .slice (some ⟨w1.heap.size, 0, none⟩) bs.length bs.length) hl1).set (q := w.heap.size) (o := 1) (u := .slice (some ⟨w2.heap.size, 0, none⟩) es.length es.length) hl1
  have oe5 := (OEntry.set (q := w.heap.size) (o := 0) (u := .slice (some ⟨w1.heap.size, 0, none⟩) bs.length bs.length) o2 (by omega)).set (q := w.heap.size) (o := 1) (u := .slice (some ⟨w2.heap.size, 0, none⟩) es.length es.length) (by omega)
  have hb5 := b_set (b_set hb3 (p := ⟨w.heap.size, 0, none⟩) (Nat.le_refl _) (.slice (some ⟨w1.heap.size, 0, none⟩) bs.length bs.length)) (p := ⟨w.heap.size, 1, none⟩) (Nat.le_refl _) (.slice (some ⟨w2.heap.size, 0, none⟩) es.length es.length)
  clear o1 o1' o2 o3 hq1 hp1 hq2 hp2 hq3 hp3 hb1 hb2 hb3 b2 b3 x0 x1 y0 y1 z0 z1 hfr0 hfr1 f1 hR hE
  generalize (w3.setCell ⟨w.heap.size, 0, none⟩ (.slice (some ⟨w1.heap.size, 0, none⟩) bs.length bs.length)).setCell ⟨w.heap.size, 1, none⟩ (.slice (some ⟨w2.heap.size, 0, none⟩) es.length es.length) = w5 at *
  obtain ⟨y0, y1, y2, y3⟩ := box4f hq5
  obtain ⟨z0, z1, z2, z3⟩ := box4f hp5
  have g0 := frozen_heap hp5 0
  have g1 := frozen_heap hp5 1
  have g2 := frozen_heap hp5 2
  have g3 := frozen_heap hp5 3
  replace hp5 := hid hp5
  replace ob5 := hid ob5
  replace oe5 := hid oe5
  replace hb5 := hid hb5
  clear hq5
  go_wp2_with fail
  have hp6 := box4_set (u0 := .slice (some ⟨w1.heap.size, 0, none⟩) bs.length bs.length) (u1 := .slice (some ⟨w2.heap.size, 0, none⟩) es.length es.length) (u2 := .int .i64 r) (u3 := .int .i64 t) hp5.out
  have ob6 := (((ob5.out.set (q := w.heap.size + 1) (o := 0) (u := .slice (some ⟨w1.heap.size, 0, none⟩) bs.length bs.length) hm1).set (q := w.heap.size + 1) (o := 1) (u := .slice (some ⟨w2.heap.size, 0, none⟩) es.length es.length) hm1).set (q := w.heap.size + 1) (o := 2) (u := .int .i64 r) hm1).set (q := w.heap.size + 1) (o := 3) (u := .int .i64 t) hm1
  have hm2 : w.heap.size + 1 < w2.heap.size := by omega
  have oe6 := (((oe5.out.set (q := w.heap.size + 1) (o := 0) (u := .slice (some ⟨w1.heap.size, 0, none⟩) bs.length bs.length) hm2).set (q := w.heap.size + 1) (o := 1) (u := .slice (some ⟨w2.heap.size, 0, none⟩) es.length es.length) hm2).set (q := w.heap.size + 1) (o := 2) (u := .int .i64 r) hm2).set (q := w.heap.size + 1) (o := 3) (u := .int .i64 t) hm2
  have hb6 := b_set (b_set (b_set (b_set hb5.out (p := ⟨w.heap.size + 1, 0, none⟩) (Nat.le_succ _) (.slice (some ⟨w1.heap.size, 0, none⟩) bs.length bs.length)) (p := ⟨w.heap.size + 1, 1, none⟩) (Nat.le_succ _) (.slice (some ⟨w2.heap.size, 0, none⟩) es.length es.length)) (p := ⟨w.heap.size + 1, 2, none⟩) (Nat.le_succ _) (.int .i64 r)) (p := ⟨w.heap.size + 1, 3, none⟩) (Nat.le_succ _) (.int .i64 t)
  obtain ⟨k0, k1, k2, k3⟩ := box4f hp6
  generalize (((w5.setCell ⟨w.heap.size + 1, 0, none⟩ (.slice (some ⟨w1.heap.size, 0, none⟩) bs.length bs.length)).setCell ⟨w.heap.size + 1, 1, none⟩ (.slice (some ⟨w2.heap.size, 0, none⟩) es.length es.length)).setCell ⟨w.heap.size + 1, 2, none⟩ (.int .i64 r)).setCell ⟨w.heap.size + 1, 3, none⟩ (.int .i64 t) = w9 at *
  (try simp only [Exit.inBlock, Exit.then])
  refine bodyPost_ret (by simp [results, Tryz.results52, go_sem, k0, k1, k2, k3]; try rfl) rfl ?_
  exact ⟨_, _, rfl, ob6.low (by omega), oe6.low (by omega), hb6⟩
def VS (w : World) (v : Value) (S : Store) : Prop := ∃ v1 v2, v = .agg #[v1, v2, .int .i64 S.room, .int .i64 S.clock] ∧ RBl w v1 S.blobs ∧ RE w v2 S.entries
def noStore : Store := ⟨[], [], 0, 0⟩
def StRes (err : Int) (S : Store) (w : World) (e : Ending) (w' : World) : Prop := ∃ v, e = .returned (.tuple #[v, .int .i64 err]) ∧ VS w' v (if err = 0 then S else noStore) ∧ Below w.heap.size w w'
theorem st_no {err n : Int} {S : Store} {w w' : World} (h : err = n) (hn : n ≠ 0) (hb : Below w.heap.size w w') :
 StRes err S w (.returned (.tuple #[.agg #[.slice none 0 0, .slice none 0 0, .int .i64 0, .int .i64 0], .int .i64 n])) w' := by
 subst h
 exact ⟨_, rfl, ⟨_, _, by rw [if_neg hn]; rfl, by rw [if_neg hn]; exact RS.nil, by rw [if_neg hn]; exact RS.nil⟩, hb⟩
theorem st_ok {err : Int} {S : Store} {w w' : World} {v1 v2 : Value} {bs : List Blob} {es : List Entry} {r t : Int} (h : err = 0) (hS : S = ⟨bs, es, r, t⟩) (h1 : RBl w' v1 bs) (h2 : RE w' v2 es) (hb : Below w.heap.size w w') :
 StRes err S w (.returned (.tuple #[.agg #[v1, v2, .int .i64 r, .int .i64 t], .int .i64 0])) w' := by
 subst h hS
 exact ⟨_, rfl, ⟨v1, v2, rfl, h1, h2⟩, hb⟩
theorem box4_0 {w : World} {q : Nat} {a b c d u : Value} {T : TypeId} (h : w.heap[q]? = some (.cells #[a, b, c, d] T (0, 0))) : (w.setCell ⟨q, 0, none⟩ u).heap[q]? = some (.cells #[u, b, c, d] T (0, 0)) := by
 exact qzstc_1
theorem box4_1 {w : World} {q : Nat} {a b c d u : Value} {T : TypeId} (h : w.heap[q]? = some (.cells #[a, b, c, d] T (0, 0))) : (w.setCell ⟨q, 1, none⟩ u).heap[q]? = some (.cells #[a, u, c, d] T (0, 0)) := by
 exact qzstc_1
theorem box4_2 {w : World} {q : Nat} {a b c d u : Value} {T : TypeId} (h : w.heap[q]? = some (.cells #[a, b, c, d] T (0, 0))) : (w.setCell ⟨q, 2, none⟩ u).heap[q]? = some (.cells #[a, b, u, d] T (0, 0)) := by
 exact qzstc_1
theorem box4_3 {w : World} {q : Nat} {a b c d u : Value} {T : TypeId} (h : w.heap[q]? = some (.cells #[a, b, c, d] T (0, 0))) : (w.setCell ⟨q, 3, none⟩ u).heap[q]? = some (.cells #[a, b, c, u] T (0, 0)) := by
 exact qzstc_1
def World.box4 (w : World) (q : Nat) (u0 u1 u2 u3 : Value) : World := (((w.setCell ⟨q, 0, none⟩ u0).setCell ⟨q, 1, none⟩ u1).setCell ⟨q, 2, none⟩ u2).setCell ⟨q, 3, none⟩ u3
theorem OBlob.box {w : World} {B q : Nat} {v a b c d u0 u1 u2 u3 : Value} {bs : List Blob} {T : TypeId} (h : OBlob w B v bs) (hq : w.heap[q]? = some (.cells #[a, b, c, d] T (0, 0))) (hT : T ≠ 50) (hT2 : T ≠ 5) : OBlob (World.box4 w q u0 u1 u2 u3) B v bs :=
 (((h.other hq hT hT2).other (box4_0 hq) hT hT2).other (box4_1 (box4_0 hq)) hT hT2).other (box4_2 (box4_1 (box4_0 hq))) hT hT2
theorem OEntry.box {w : World} {B q : Nat} {v a b c d u0 u1 u2 u3 : Value} {es : List Entry} {T : TypeId} (h : OEntry w B v es) (hq : w.heap[q]? = some (.cells #[a, b, c, d] T (0, 0))) (hT : T ≠ 62) (hT2 : T ≠ 67) : OEntry (World.box4 w q u0 u1 u2 u3) B v es :=
 (((h.other hq hT hT2).other (box4_0 hq) hT hT2).other (box4_1 (box4_0 hq)) hT hT2).other (box4_2 (box4_1 (box4_0 hq))) hT hT2
theorem b_box4 {w W : World} (h : Below w.heap.size w W) {q : Nat} (hq : w.heap.size ≤ q) (u0 u1 u2 u3 : Value) : Below w.heap.size w (World.box4 W q u0 u1 u2 u3) :=
 b_set (b_set (b_set (b_set h (p := ⟨q, 0, none⟩) hq u0) (p := ⟨q, 1, none⟩) hq u1) (p := ⟨q, 2, none⟩) hq u2) (p := ⟨q, 3, none⟩) hq u3
theorem box4_same {w : World} {q : Nat} {a b c d u0 u1 u2 u3 : Value} {T : TypeId} (h : w.heap[q]? = some (.cells #[a, b, c, d] T (0, 0))) : (World.box4 w q u0 u1 u2 u3).heap[q]? = some (.cells #[u0, u1, u2, u3] T (0, 0)) := box4_set h
theorem box4_other {w : World} {q p : Nat} {u0 u1 u2 u3 : Value} {x : Obj} (h : w.heap[p]? = some x) (hn : p ≠ q) : (World.box4 w q u0 u1 u2 u3).heap[p]? = some x :=
 box_other (box_other (box_other (box_other h hn) hn) hn) hn
end Go.Proofs.YtpkpgehiplhkpaaGreat

namespace Go.Proofs.YtpkpgehiplhkpaaGreat
open Go.RowKit
end Go.Proofs.YtpkpgehiplhkpaaGreat

namespace Go.Proofs.YtpkpgehiplhkpaaGreat
open Go.RowKit
theorem heap_put (w : World) (o : Obj) (k : Nat) (h : k = w.heap.size) : (w.alloc o).heap[k]? = some o := by subst h; exact heap_alloc_new w o
def SBox (w : World) (p : Nat) : Prop := ∃ a n c a' n' c' r t T, w.heap[p]? = some (.cells #[.slice a n c, .slice a' n' c', .int .i64 r, .int .i64 t] T (0, 0))
theorem SBox.cell {w : World} {p : Nat} (h : SBox w p) (o : Nat) (v : Value) (hc : w.cell? ⟨p, o, none⟩ = some v) : (∃ a n c, v = .slice a n c) ∨ ∃ k, v = .int .i64 k := by
 obtain ⟨a, n, c, a', n', c', r, t, T, hp⟩ := h
 rw [cell_of_row _ _ _ _ _ _ hp] at hc
 rcases o with _ | _ | _ | _ | o
 · simp at hc; exact .inl ⟨_, _, _, hc.symm⟩
 · simp at hc; exact .inl ⟨_, _, _, hc.symm⟩
 · simp at hc; exact .inr ⟨_, hc.symm⟩
 · simp at hc; exact .inr ⟨_, hc.symm⟩
 simp at hc
theorem SBox.str {w : World} {p b o : Nat} {s : ByteArray} (h : SBox w p) (hc : w.cell? ⟨b, o, none⟩ = some (.string s)) : b ≠ p := by
 rintro rfl
 rcases h.cell o _ hc with ⟨a, n, c, h⟩ | ⟨k, h⟩ <;> cases h
theorem SBox.u8 {w : World} {p b o : Nat} {k : Int} (h : SBox w p) (hc : w.cell? ⟨b, o, none⟩ = some (.int .u8 k)) : b ≠ p := by
 rintro rfl
 rcases h.cell o _ hc with ⟨a, n, c, h⟩ | ⟨k, h⟩ <;> cases h
theorem cell_apart {w : World} {p q b o : Nat} {u : Value} (hne : b ≠ p) : (w.setCell ⟨p, q, none⟩ u).cell? ⟨b, o, none⟩ = w.cell? ⟨b, o, none⟩ :=
 World.cell?_of_block (w := w) (Below.heap_setCell _ _ _ _ hne)
theorem RS.write {α : Type} {s bs p q : Nat} {E : World → Nat → Nat → α → Prop} {w : World} {v u : Value} {l : List α} (h : RS s bs E w v l) (hE : ∀ b o x, E w b o x → E (w.setCell ⟨p, q, none⟩ u) b o x) : RS s bs E (w.setCell ⟨p, q, none⟩ u) v l := by
 obtain ⟨a, c, rfl, h1, h2, hb, hn, h3⟩ := h
 refine ⟨a, c, rfl, h1, h2, hb, hn, fun k x hk => ?_⟩
 obtain ⟨b, off, ha, hlt, he⟩ := h3 k x hk
 exact ⟨b, off, ha, by simpa [World.setCell] using hlt, hE _ _ _ he⟩
section
variable {w : World} {p q : Nat} {u : Value}
theorem EU8.write (hp : SBox w p) {b o : Nat} {x : UInt8} (h : EU8 w b o x) : EU8 (w.setCell ⟨p, q, none⟩ u) b o x := (cell_apart (hp.u8 h)).trans h
theorem EPart.write (hp : SBox w p) {b o : Nat} {x : Part} (h : EPart w b o x) : EPart (w.setCell ⟨p, q, none⟩ u) b o x := by
 obtain ⟨h1, h2, h3, h4⟩ := h
 have hne := hp.str h1
 exact ⟨(cell_apart hne).trans h1, (cell_apart hne).trans h2, (cell_apart hne).trans h3, h4⟩
theorem EBlob.write (hp : SBox w p) {b o : Nat} {x : Blob} (h : EBlob w b o x) : EBlob (w.setCell ⟨p, q, none⟩ u) b o x := by
 obtain ⟨dv, h1, h2, h3, h4, h5, h6⟩ := h
 have hne := hp.str h1
 exact ⟨dv, (cell_apart hne).trans h1, (cell_apart hne).trans h2, (cell_apart hne).trans h3, (cell_apart hne).trans h4, RS.write h5 (fun _ _ _ => EU8.write hp), h6⟩
theorem EEntry.write (hp : SBox w p) {b o : Nat} {x : Entry} (h : EEntry w b o x) : EEntry (w.setCell ⟨p, q, none⟩ u) b o x := by
 obtain ⟨dv, h1, h2, h3, h4, h5, h6⟩ := h
 have hne := hp.str h1
 exact ⟨dv, (cell_apart hne).trans h1, (cell_apart hne).trans h2, (cell_apart hne).trans h3, (cell_apart hne).trans h4, RS.write h5 (fun _ _ _ => EPart.write hp), h6⟩
end
theorem RS.box4 {α : Type} {s bs p : Nat} {E : World → Nat → Nat → α → Prop} {w : World} {v : Value} {l : List α} (hE : ∀ (w : World) (p q : Nat) (u : Value), SBox w p → ∀ b o x, E w b o x → E (w.setCell ⟨p, q, none⟩ u) b o x)
 (h : RS s bs E w v l) {T : TypeId} (hp : ∃ a n c a' n' c' r t, w.heap[p]? = some (.cells #[.slice a n c, .slice a' n' c', .int .i64 r, .int .i64 t] T (0, 0))) (a : Option Addr) (n c : Nat) (a' : Option Addr) (n' c' : Nat) (r t : Int) :
 RS s bs E (World.box4 w p (.slice a n c) (.slice a' n' c') (.int .i64 r) (.int .i64 t)) v l := by
 obtain ⟨b0, b1, b2, b3, b4, b5, b6, b7, hp⟩ := hp
 have p0 := box4_0 (u := .slice a n c) hp
 have p1 := box4_1 (u := .slice a' n' c') p0
 have p2 := box4_2 (u := .int .i64 r) p1
 exact (((h.write (hE _ _ _ _ ⟨_, _, _, _, _, _, _, _, _, hp⟩)).write (hE _ _ _ _ ⟨_, _, _, _, _, _, _, _, _, p0⟩)).write (hE _ _ _ _ ⟨_, _, _, _, _, _, _, _, _, p1⟩)).write (hE _ _ _ _ ⟨_, _, _, _, _, _, _, _, _, p2⟩)
theorem EBlob.writes : ∀ (w : World) (p q : Nat) (u : Value), SBox w p → ∀ b o x, EBlob w b o x → EBlob (w.setCell ⟨p, q, none⟩ u) b o x := fun _ _ _ _ h _ _ _ => EBlob.write h
theorem EEntry.writes : ∀ (w : World) (p q : Nat) (u : Value), SBox w p → ∀ b o x, EEntry w b o x → EEntry (w.setCell ⟨p, q, none⟩ u) b o x := fun _ _ _ _ h _ _ _ => EEntry.write h
theorem EPart.writes : ∀ (w : World) (p q : Nat) (u : Value), SBox w p → ∀ b o x, EPart w b o x → EPart (w.setCell ⟨p, q, none⟩ u) b o x := fun _ _ _ _ h _ _ _ => EPart.write h
end Go.Proofs.YtpkpgehiplhkpaaGreat

namespace Go.Proofs.YtpkpgehiplhkpaaGreat
open Go.RowKit
def AllStr (w : World) (g : Nat) : Prop := ∃ (cur : Array Value) (T : TypeId), w.heap[g]? = some (.cells cur T (0, 0)) ∧ ∀ u ∈ cur.toList, ∃ s, u = Value.string s
def OStr (e : TypeId) (w : World) (B : Nat) (v : Value) (l : List ByteArray) : Prop := OS e 1 cStr w B v l ∧ ∀ g, v.ownBlock = some g → AllStr w g
theorem OStr.nil {e : TypeId} {w : World} {B : Nat} : OStr e w B (.slice none 0 0) [] := ⟨OS.nil, fun g h => by cases h⟩
theorem AllStr.cell {w : World} {g o : Nat} {v : Value} (h : AllStr w g) (hc : w.cell? ⟨g, o, none⟩ = some v) : ∃ s, v = .string s := by
 obtain ⟨cur, T, hh, hs⟩ := h
 rw [cell_of_row w g o cur T _ hh] at hc
 exact hs v (List.mem_of_getElem? (by rw [Array.getElem?_toList]; exact hc))
theorem OStr.kept {e : TypeId} {w w' : World} {B : Nat} {v : Value} {l : List ByteArray} (h : OStr e w B v l) (hk : ∀ g, v.ownBlock = some g → g < w.heap.size → w'.heap[g]? = w.heap[g]?) : OStr e w' B v l := by
 obtain ⟨⟨h1, h2⟩, h3⟩ := h
 rcases h2 with ⟨rfl, hn⟩ | ⟨g, cap, cur, rfl, hB, hh, r⟩
 · exact ⟨⟨h1, .inl ⟨rfl, hn⟩⟩, fun g hg => by cases hg⟩
 have e1 := hk g rfl (Array.getElem?_eq_some_iff.1 hh).1
 refine ⟨⟨h1, .inr ⟨g, cap, cur, rfl, hB, e1.trans hh, r⟩⟩, fun k hk' => ?_⟩
 obtain ⟨c2, T2, q1, q2⟩ := h3 k hk'
 simp only [Value.ownBlock, Option.some.injEq] at hk'
 subst hk'
 exact ⟨c2, T2, e1.trans q1, q2⟩
theorem OStr.below {e : TypeId} {w w' : World} {B : Nat} {v : Value} {l : List ByteArray} (h : OStr e w B v l) (hb : Below w.heap.size w w') : OStr e w' B v l := h.kept fun g _ hg => hb.block g hg
theorem OStr.alloc {e : TypeId} {w : World} {B : Nat} {v : Value} {l : List ByteArray} (h : OStr e w B v l) (o : Obj) : OStr e (w.alloc o) B v l := h.kept fun _ _ hg => heap_alloc_old w o hg
theorem OStr.drew {e : TypeId} {w : World} {B : Nat} {v : Value} {l : List ByteArray} (h : OStr e w B v l) : OStr e w.drew B v l := h
theorem OStr.set {e T : TypeId} {w : World} {B p q : Nat} {u v : Value} {l : List ByteArray} {cs : Array Value} (h : OStr e w B v l) (hp : w.heap[p]? = some (.cells cs T (0, 0))) (hT : T ≠ e) : OStr e (w.setCell ⟨p, q, none⟩ u) B v l :=
 h.kept fun g hg _ => Below.heap_setCell _ _ _ _ (fun e1 => OS.block_ne h.1 hp hT (by rw [hg]; exact congrArg some e1))
theorem grown_apart {w : World} {v : Value} (ha : ∀ g, v.ownBlock = some g → AllStr w g) {b o : Nat} {u : Value} (hc : w.cell? ⟨b, o, none⟩ = some u) (hu : ∀ s, u ≠ .string s) : some b ≠ v.ownBlock := by
 intro h
 obtain ⟨s, hs⟩ := (ha b h.symm).cell hc
 exact hu s hs
theorem RS.grown {α : Type} {s bs : Nat} {E : World → Nat → Nat → α → Prop} {w w' : World} {v : Value} {l : List α} (hE : ∀ b o x, E w b o x → E w' b o x) (h : RS s bs E w v l) (hs : w.heap.size ≤ w'.heap.size) : RS s bs E w' v l := by
 obtain ⟨a, c, rfl, h1, h2, hr, hn, h3⟩ := h
 refine ⟨a, c, rfl, h1, h2, hr, hn, fun k x hk => ?_⟩
 obtain ⟨b, off, rfl, hlt, he⟩ := h3 k x hk
 exact ⟨b, off, rfl, Nat.lt_of_lt_of_le hlt hs, hE _ _ _ he⟩
section
variable {w w' : World} {v : Value} (hg : w.grownBy w' v.ownBlock) (ha : ∀ g, v.ownBlock = some g → AllStr w g)
include hg ha
theorem EU8.grown {b o : Nat} {x : UInt8} (h : EU8 w b o x) : EU8 w' b o x := hg.cell h (grown_apart ha h (by simp))
theorem EPart.grown {b o : Nat} {x : Part} (h : EPart w b o x) : EPart w' b o x := by
 obtain ⟨h1, h2, h3, h4⟩ := h
 have hne := grown_apart ha h3 (by simp)
 exact ⟨hg.cell h1 hne, hg.cell h2 hne, hg.cell h3 hne, h4⟩
theorem EBlob.grown {b o : Nat} {x : Blob} (h : EBlob w b o x) : EBlob w' b o x := by
 obtain ⟨dv, h1, h2, h3, h4, h5, h6⟩ := h
 have hne := grown_apart ha h3 (by simp)
 exact ⟨dv, hg.cell h1 hne, hg.cell h2 hne, hg.cell h3 hne, hg.cell h4 hne, RS.grown (fun _ _ _ => EU8.grown hg ha) h5 hg.size, h6⟩
theorem EEntry.grown {b o : Nat} {x : Entry} (h : EEntry w b o x) : EEntry w' b o x := by
 obtain ⟨dv, h1, h2, h3, h4, h5, h6⟩ := h
 have hne := grown_apart ha h3 (by simp)
 exact ⟨dv, hg.cell h1 hne, hg.cell h2 hne, hg.cell h3 hne, hg.cell h4 hne, RS.grown (fun _ _ _ => EPart.grown hg ha) h5 hg.size, h6⟩
end
end Go.Proofs.YtpkpgehiplhkpaaGreat

namespace Go.Proofs.YtpkpgehiplhkpaaGreat
open Go.RowKit
end Go.Proofs.YtpkpgehiplhkpaaGreat

namespace Go.Proofs.YtpkpgehiplhkpaaGreat
open Go.RowKit
section
variable {z f ph r t : Int} {i : Nat} {bs : List Blob} {es : List Entry} {x : Blob}
end
def CBox (w : World) (p : Nat) : Prop := ∃ k a n c s T, w.heap[p]? = some (.cells #[.int .i64 k, .slice a n c, .string s] T (0, 0))
theorem CBox.str {w : World} {p b o : Nat} {s : ByteArray} {v : Value} (h : CBox w p) (hc : w.cell? ⟨b, o, none⟩ = some (.string s)) (hd : w.cell? ⟨b, o + 1, none⟩ = some v) : b ≠ p := by
 rintro rfl
 obtain ⟨k, a, n, c, s', T, hp⟩ := h
 rw [cell_of_row _ _ _ _ _ _ hp] at hc hd
 rcases o with _ | _ | _ | o
 · simp at hc
 · simp at hc
 · simp at hd
 simp at hc
theorem CBox.u8 {w : World} {p b o : Nat} {k : Int} (h : CBox w p) (hc : w.cell? ⟨b, o, none⟩ = some (.int .u8 k)) : b ≠ p := by
 rintro rfl
 obtain ⟨k, a, n, c, s', T, hp⟩ := h
 rw [cell_of_row _ _ _ _ _ _ hp] at hc
 rcases o with _ | _ | _ | o <;> simp at hc
section
variable {w : World} {p q : Nat} {u : Value}
theorem EU8.writeC (hp : CBox w p) {b o : Nat} {x : UInt8} (h : EU8 w b o x) : EU8 (w.setCell ⟨p, q, none⟩ u) b o x := (cell_apart (hp.u8 h)).trans h
theorem EPart.writeC (hp : CBox w p) {b o : Nat} {x : Part} (h : EPart w b o x) : EPart (w.setCell ⟨p, q, none⟩ u) b o x := by
 obtain ⟨h1, h2, h3, h4⟩ := h
 have hne := hp.str h1 h2
 exact ⟨(cell_apart hne).trans h1, (cell_apart hne).trans h2, (cell_apart hne).trans h3, h4⟩
theorem EBlob.writeC (hp : CBox w p) {b o : Nat} {x : Blob} (h : EBlob w b o x) : EBlob (w.setCell ⟨p, q, none⟩ u) b o x := by
 obtain ⟨dv, h1, h2, h3, h4, h5, h6⟩ := h
 have hne := hp.str h1 h2
 exact ⟨dv, (cell_apart hne).trans h1, (cell_apart hne).trans h2, (cell_apart hne).trans h3, (cell_apart hne).trans h4, RS.write h5 (fun _ _ _ => EU8.writeC hp), h6⟩
theorem EEntry.writeC (hp : CBox w p) {b o : Nat} {x : Entry} (h : EEntry w b o x) : EEntry (w.setCell ⟨p, q, none⟩ u) b o x := by
 obtain ⟨dv, h1, h2, h3, h4, h5, h6⟩ := h
 have hne := hp.str h1 h2
 exact ⟨dv, (cell_apart hne).trans h1, (cell_apart hne).trans h2, (cell_apart hne).trans h3, (cell_apart hne).trans h4, RS.write h5 (fun _ _ _ => EPart.writeC hp), h6⟩
end
def World.box3 (w : World) (q : Nat) (u0 u1 u2 : Value) : World := ((w.setCell ⟨q, 0, none⟩ u0).setCell ⟨q, 1, none⟩ u1).setCell ⟨q, 2, none⟩ u2
theorem box3_0 {w : World} {q : Nat} {a b c u : Value} {T : TypeId} (h : w.heap[q]? = some (.cells #[a, b, c] T (0, 0))) : (w.setCell ⟨q, 0, none⟩ u).heap[q]? = some (.cells #[u, b, c] T (0, 0)) := by
 simp [World.setCell, Array.getElem?_modify, h]
theorem box3_1 {w : World} {q : Nat} {a b c u : Value} {T : TypeId} (h : w.heap[q]? = some (.cells #[a, b, c] T (0, 0))) : (w.setCell ⟨q, 1, none⟩ u).heap[q]? = some (.cells #[a, u, c] T (0, 0)) := by
 simp [World.setCell, Array.getElem?_modify, h]
theorem box3_2 {w : World} {q : Nat} {a b c u : Value} {T : TypeId} (h : w.heap[q]? = some (.cells #[a, b, c] T (0, 0))) : (w.setCell ⟨q, 2, none⟩ u).heap[q]? = some (.cells #[a, b, u] T (0, 0)) := by
 simp [World.setCell, Array.getElem?_modify, h]
theorem box3_same {w : World} {q : Nat} {a b c u0 u1 u2 : Value} {T : TypeId} (h : w.heap[q]? = some (.cells #[a, b, c] T (0, 0))) : (World.box3 w q u0 u1 u2).heap[q]? = some (.cells #[u0, u1, u2] T (0, 0)) := box3_2 (box3_1 (box3_0 h))
theorem box3_other {w : World} {q p : Nat} {u0 u1 u2 : Value} {x : Obj} (h : w.heap[p]? = some x) (hn : p ≠ q) : (World.box3 w q u0 u1 u2).heap[p]? = some x := box_other (box_other (box_other h hn) hn) hn
theorem b_box3 {w W : World} (h : Below w.heap.size w W) {q : Nat} (hq : w.heap.size ≤ q) (u0 u1 u2 : Value) : Below w.heap.size w (World.box3 W q u0 u1 u2) :=
 b_set (b_set (b_set h (p := ⟨q, 0, none⟩) hq u0) (p := ⟨q, 1, none⟩) hq u1) (p := ⟨q, 2, none⟩) hq u2
theorem RS.box3 {α : Type} {s bs p : Nat} {E : World → Nat → Nat → α → Prop} {w : World} {v : Value} {l : List α} (hE : ∀ (w : World) (p q : Nat) (u : Value), CBox w p → ∀ b o x, E w b o x → E (w.setCell ⟨p, q, none⟩ u) b o x)
 (h : RS s bs E w v l) {T : TypeId} (hp : ∃ k a n c s', w.heap[p]? = some (.cells #[.int .i64 k, .slice a n c, .string s'] T (0, 0))) (k : Int) (a : Option Addr) (n c : Nat) (s' : ByteArray) :
 RS s bs E (World.box3 w p (.int .i64 k) (.slice a n c) (.string s')) v l := by
 obtain ⟨b0, b1, b2, b3, b4, hp⟩ := hp
 have p0 := box3_0 (u := .int .i64 k) hp
 have p1 := box3_1 (u := .slice a n c) p0
 exact ((h.write (hE _ _ _ _ ⟨_, _, _, _, _, _, hp⟩)).write (hE _ _ _ _ ⟨_, _, _, _, _, _, p0⟩)).write (hE _ _ _ _ ⟨_, _, _, _, _, _, p1⟩)
theorem EBlob.writesC : ∀ (w : World) (p q : Nat) (u : Value), CBox w p → ∀ b o x, EBlob w b o x → EBlob (w.setCell ⟨p, q, none⟩ u) b o x := fun _ _ _ _ h _ _ _ => EBlob.writeC h
theorem EEntry.writesC : ∀ (w : World) (p q : Nat) (u : Value), CBox w p → ∀ b o x, EEntry w b o x → EEntry (w.setCell ⟨p, q, none⟩ u) b o x := fun _ _ _ _ h _ _ _ => EEntry.writeC h
theorem OEntry.grown {w w' : World} {B g : Nat} {v : Value} {es : List Entry} {cs : Array Value} {T : TypeId} {fr : Nat × Nat} (h : OEntry w B v es) (hg : w.grownBy w' (some g)) (hq : w.heap[g]? = some (.cells cs T fr)) (hT : T ≠ 62) (hT2 : T ≠ 67) : OEntry w' B v es := by
 obtain ⟨rs, h1, h2, h3⟩ := h
 exact ⟨rs, h1, World.ownsRow.kept (row := some g) h2 hg (Or.inr (OS.block_ne h2 hq hT)), fun r hr => World.ownsRow.kept (row := some g) (h3 r hr) hg (Or.inr (OS.block_ne (h3 r hr) hq hT2))⟩
theorem heap_drewn {w : World} {k : Nat} {x : Obj} (h : w.heap[k]? = some x) : w.drew.heap[k]? = some x := h
end Go.Proofs.YtpkpgehiplhkpaaGreat
