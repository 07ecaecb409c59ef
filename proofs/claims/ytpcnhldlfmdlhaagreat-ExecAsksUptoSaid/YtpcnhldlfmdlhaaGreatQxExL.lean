/-
  What the orders to a loft answer. Printed by gen_ex.py.
-/
import Derived.Test.YtpcnhldlfmdlhaaGreatQxLft
import Derived.Test.YtpcnhldlfmdlhaaGreatQxBrL
import Derived.Test.YtpcnhldlfmdlhaaGreatQxChn
namespace Go.Proofs.YtpcnhldlfmdlhaaGreat
open Go.RowKit

/-- A block that holds a loft. -/
def LBox (w : World) (p : Nat) : Prop := ∃ a n c a' n' c' r t k a'' n'' c'' s f m d T, w.heap[p]? = some (.cells #[.slice a n c, .slice a' n' c', .int .i64 r, .int .i64 t, .int .i64 k, .slice a'' n'' c'', .string s, .slice f m d] T (0, 0))
theorem LBox.str {w : World} {p b o : Nat} {s : ByteArray} {v u : Value} (h : LBox w p) (hc : w.cell? ⟨b, o, none⟩ = some (.string s)) (hd : w.cell? ⟨b, o + 1, none⟩ = some v) (he : w.cell? ⟨b, o + 2, none⟩ = some u) : b ≠ p := by
  rintro rfl
  obtain ⟨a, n, c, a', n', c', r, t, k, a'', n'', c'', s', f, m, d, T, hp⟩ := h
  rw [cell_of_row _ _ _ _ _ _ hp] at hc he
  rcases o with _ | _ | _ | _ | _ | _ | _ | _ | o
  · simp at hc
  · simp at hc
  · simp at hc
  · simp at hc
  · simp at hc
  · simp at hc
  · simp at he
  · simp at hc
  · simp at hc
theorem LBox.u8 {w : World} {p b o : Nat} {k : Int} (h : LBox w p) (hc : w.cell? ⟨b, o, none⟩ = some (.int .u8 k)) : b ≠ p := by
  rintro rfl
  obtain ⟨a, n, c, a', n', c', r, t, k, a'', n'', c'', s', f, m, d, T, hp⟩ := h
  rw [cell_of_row _ _ _ _ _ _ hp] at hc
  rcases o with _ | _ | _ | _ | _ | _ | _ | _ | o <;> simp at hc
section
variable {w : World} {p q : Nat} {u : Value}
theorem EU8.writeL (hp : LBox w p) {b o : Nat} {x : UInt8} (h : EU8 w b o x) : EU8 (w.setCell ⟨p, q, none⟩ u) b o x := (cell_apart (hp.u8 h)).trans h
theorem EPart.writeL (hp : LBox w p) {b o : Nat} {x : Part} (h : EPart w b o x) : EPart (w.setCell ⟨p, q, none⟩ u) b o x := by
  obtain ⟨h1, h2, h3, h4⟩ := h
  have hne := hp.str h1 h2 h3
  exact ⟨(cell_apart hne).trans h1, (cell_apart hne).trans h2, (cell_apart hne).trans h3, h4⟩
theorem EBlob.writeL (hp : LBox w p) {b o : Nat} {x : Blob} (h : EBlob w b o x) : EBlob (w.setCell ⟨p, q, none⟩ u) b o x := by
  obtain ⟨dv, h1, h2, h3, h4, h5, h6⟩ := h
  have hne := hp.str h1 h2 h3
  exact ⟨dv, (cell_apart hne).trans h1, (cell_apart hne).trans h2, (cell_apart hne).trans h3, (cell_apart hne).trans h4, RS.write h5 (fun _ _ _ => EU8.writeL hp), h6⟩
theorem EEntry.writeL (hp : LBox w p) {b o : Nat} {x : Entry} (h : EEntry w b o x) : EEntry (w.setCell ⟨p, q, none⟩ u) b o x := by
  obtain ⟨dv, h1, h2, h3, h4, h5, h6⟩ := h
  have hne := hp.str h1 h2 h3
  exact ⟨dv, (cell_apart hne).trans h1, (cell_apart hne).trans h2, (cell_apart hne).trans h3, (cell_apart hne).trans h4, RS.write h5 (fun _ _ _ => EPart.writeL hp), h6⟩
end
theorem l8_0 {w : World} {q : Nat} {a b c d e f g h u : Value} {T : TypeId} (hq : w.heap[q]? = some (.cells #[a, b, c, d, e, f, g, h] T (0, 0))) : (w.setCell ⟨q, 0, none⟩ u).heap[q]? = some (.cells #[u, b, c, d, e, f, g, h] T (0, 0)) := by
  simp [World.setCell, Array.getElem?_modify, hq]
theorem l8_1 {w : World} {q : Nat} {a b c d e f g h u : Value} {T : TypeId} (hq : w.heap[q]? = some (.cells #[a, b, c, d, e, f, g, h] T (0, 0))) : (w.setCell ⟨q, 1, none⟩ u).heap[q]? = some (.cells #[a, u, c, d, e, f, g, h] T (0, 0)) := by
  simp [World.setCell, Array.getElem?_modify, hq]
theorem l8_2 {w : World} {q : Nat} {a b c d e f g h u : Value} {T : TypeId} (hq : w.heap[q]? = some (.cells #[a, b, c, d, e, f, g, h] T (0, 0))) : (w.setCell ⟨q, 2, none⟩ u).heap[q]? = some (.cells #[a, b, u, d, e, f, g, h] T (0, 0)) := by
  simp [World.setCell, Array.getElem?_modify, hq]
theorem l8_3 {w : World} {q : Nat} {a b c d e f g h u : Value} {T : TypeId} (hq : w.heap[q]? = some (.cells #[a, b, c, d, e, f, g, h] T (0, 0))) : (w.setCell ⟨q, 3, none⟩ u).heap[q]? = some (.cells #[a, b, c, u, e, f, g, h] T (0, 0)) := by
  simp [World.setCell, Array.getElem?_modify, hq]
theorem l8_4 {w : World} {q : Nat} {a b c d e f g h u : Value} {T : TypeId} (hq : w.heap[q]? = some (.cells #[a, b, c, d, e, f, g, h] T (0, 0))) : (w.setCell ⟨q, 4, none⟩ u).heap[q]? = some (.cells #[a, b, c, d, u, f, g, h] T (0, 0)) := by
  simp [World.setCell, Array.getElem?_modify, hq]
theorem l8_5 {w : World} {q : Nat} {a b c d e f g h u : Value} {T : TypeId} (hq : w.heap[q]? = some (.cells #[a, b, c, d, e, f, g, h] T (0, 0))) : (w.setCell ⟨q, 5, none⟩ u).heap[q]? = some (.cells #[a, b, c, d, e, u, g, h] T (0, 0)) := by
  simp [World.setCell, Array.getElem?_modify, hq]
theorem l8_6 {w : World} {q : Nat} {a b c d e f g h u : Value} {T : TypeId} (hq : w.heap[q]? = some (.cells #[a, b, c, d, e, f, g, h] T (0, 0))) : (w.setCell ⟨q, 6, none⟩ u).heap[q]? = some (.cells #[a, b, c, d, e, f, u, h] T (0, 0)) := by
  simp [World.setCell, Array.getElem?_modify, hq]
theorem l8_7 {w : World} {q : Nat} {a b c d e f g h u : Value} {T : TypeId} (hq : w.heap[q]? = some (.cells #[a, b, c, d, e, f, g, h] T (0, 0))) : (w.setCell ⟨q, 7, none⟩ u).heap[q]? = some (.cells #[a, b, c, d, e, f, g, u] T (0, 0)) := by
  simp [World.setCell, Array.getElem?_modify, hq]
section
variable {w : World} {p : Nat}
theorem LBox.w0 {a : Option Addr} {n c : Nat} (h : LBox w p) : LBox (w.setCell ⟨p, 0, none⟩ (.slice a n c)) p := by
  obtain ⟨_, _, _, _, _, _, _, _, _, _, _, _, _, _, _, _, _, h⟩ := h
  exact ⟨_, _, _, _, _, _, _, _, _, _, _, _, _, _, _, _, _, l8_0 h⟩
theorem LBox.w1 {a : Option Addr} {n c : Nat} (h : LBox w p) : LBox (w.setCell ⟨p, 1, none⟩ (.slice a n c)) p := by
  obtain ⟨_, _, _, _, _, _, _, _, _, _, _, _, _, _, _, _, _, h⟩ := h
  exact ⟨_, _, _, _, _, _, _, _, _, _, _, _, _, _, _, _, _, l8_1 h⟩
theorem LBox.w2 {k : Int} (h : LBox w p) : LBox (w.setCell ⟨p, 2, none⟩ (.int .i64 k)) p := by
  obtain ⟨_, _, _, _, _, _, _, _, _, _, _, _, _, _, _, _, _, h⟩ := h
  exact ⟨_, _, _, _, _, _, _, _, _, _, _, _, _, _, _, _, _, l8_2 h⟩
theorem LBox.w3 {k : Int} (h : LBox w p) : LBox (w.setCell ⟨p, 3, none⟩ (.int .i64 k)) p := by
  obtain ⟨_, _, _, _, _, _, _, _, _, _, _, _, _, _, _, _, _, h⟩ := h
  exact ⟨_, _, _, _, _, _, _, _, _, _, _, _, _, _, _, _, _, l8_3 h⟩
theorem LBox.w4 {k : Int} (h : LBox w p) : LBox (w.setCell ⟨p, 4, none⟩ (.int .i64 k)) p := by
  obtain ⟨_, _, _, _, _, _, _, _, _, _, _, _, _, _, _, _, _, h⟩ := h
  exact ⟨_, _, _, _, _, _, _, _, _, _, _, _, _, _, _, _, _, l8_4 h⟩
theorem LBox.w5 {a : Option Addr} {n c : Nat} (h : LBox w p) : LBox (w.setCell ⟨p, 5, none⟩ (.slice a n c)) p := by
  obtain ⟨_, _, _, _, _, _, _, _, _, _, _, _, _, _, _, _, _, h⟩ := h
  exact ⟨_, _, _, _, _, _, _, _, _, _, _, _, _, _, _, _, _, l8_5 h⟩
theorem LBox.w6 {s : ByteArray} (h : LBox w p) : LBox (w.setCell ⟨p, 6, none⟩ (.string s)) p := by
  obtain ⟨_, _, _, _, _, _, _, _, _, _, _, _, _, _, _, _, _, h⟩ := h
  exact ⟨_, _, _, _, _, _, _, _, _, _, _, _, _, _, _, _, _, l8_6 h⟩
end
theorem rs_b8 {α : Type} {s bs p : Nat} {E : World → Nat → Nat → α → Prop} {w : World} {v : Value} {l : List α} (hE : ∀ (w : World) (p q : Nat) (u : Value), LBox w p → ∀ b o x, E w b o x → E (w.setCell ⟨p, q, none⟩ u) b o x)
    (h : RS s bs E w v l) (hp : LBox w p) (a : Option Addr) (n c : Nat) (a' : Option Addr) (n' c' : Nat) (r t k : Int) (a'' : Option Addr) (n'' c'' : Nat) (s' : ByteArray) (f : Value) :
    RS s bs E (box8 w p (.slice a n c) (.slice a' n' c') (.int .i64 r) (.int .i64 t) (.int .i64 k) (.slice a'' n'' c'') (.string s') f) v l :=
  RS.write (RS.write (RS.write (RS.write (RS.write (RS.write (RS.write (RS.write h (hE _ _ _ _ hp)) (hE _ _ _ _ hp.w0)) (hE _ _ _ _ hp.w0.w1)) (hE _ _ _ _ hp.w0.w1.w2)) (hE _ _ _ _ hp.w0.w1.w2.w3)) (hE _ _ _ _ hp.w0.w1.w2.w3.w4)) (hE _ _ _ _ hp.w0.w1.w2.w3.w4.w5)) (hE _ _ _ _ hp.w0.w1.w2.w3.w4.w5.w6)
theorem EBlob.writesL : ∀ (w : World) (p q : Nat) (u : Value), LBox w p → ∀ b o x, EBlob w b o x → EBlob (w.setCell ⟨p, q, none⟩ u) b o x := fun _ _ _ _ h _ _ _ => EBlob.writeL h
theorem EEntry.writesL : ∀ (w : World) (p q : Nat) (u : Value), LBox w p → ∀ b o x, EEntry w b o x → EEntry (w.setCell ⟨p, q, none⟩ u) b o x := fun _ _ _ _ h _ _ _ => EEntry.writeL h

section
variable {z e : Int} {O : CoOut} {L : List Flight} {wh : List Int}
end
section
variable {z e : Int} {S : Store} {C : Coll} {L : List Flight} {wh : List Int}
end
theorem rf_bound {w : World} {v : Value} {l : List Flight} (h : RF w v l) : l.length * 48 ≤ 140737488351232 := by
  obtain ⟨_, _, _, _, _, hre, _⟩ := h
  exact hre
end Go.Proofs.YtpcnhldlfmdlhaaGreat
