/-
  What is read stays while a store's box in memory is written. No function of the program is named here.
-/
import Derived.Test.YtpcnhldlfmdlhaaGreatDoorSxStC
namespace Go.Proofs.YtpcnhldlfmdlhaaGreatDoor
open Go.RowKit

theorem heap_put (w : World) (o : Obj) (k : Nat) (h : k = w.heap.size) : (w.alloc o).heap[k]? = some o := by subst h; exact heap_alloc_new w o
/-- A block that holds a store. -/
def SBox (w : World) (p : Nat) : Prop := ∃ a n c a' n' c' r t T, w.heap[p]? = some (.cells #[.slice a n c, .slice a' n' c', .int .i64 r, .int .i64 t] T (0, 0))
theorem SBox.cell {w : World} {p : Nat} (h : SBox w p) (o : Nat) (v : Value) (hc : w.cell? ⟨p, o, none⟩ = some v) : (∃ a n c, v = .slice a n c) ∨ ∃ k, v = .int .i64 k := by
  obtain ⟨a, n, c, a', n', c', r, t, T, hp⟩ := h
  rw [cell_of_row _ _ _ _ _ _ hp] at hc
  rcases o with _ | _ | _ | _ | o
  · simp at hc; exact .inl ⟨_, _, _, hc.symm⟩
  · simp at hc; exact .inl ⟨_, _, _, hc.symm⟩
  · simp at hc; exact .inr ⟨_, hc.symm⟩
  · simp at hc; exact .inr ⟨_, hc.symm⟩
  · simp at hc
theorem SBox.str {w : World} {p b o : Nat} {s : ByteArray} (h : SBox w p) (hc : w.cell? ⟨b, o, none⟩ = some (.string s)) : b ≠ p := by
  rintro rfl
  rcases h.cell o _ hc with ⟨a, n, c, h⟩ | ⟨k, h⟩ <;> cases h
theorem SBox.u8 {w : World} {p b o : Nat} {k : Int} (h : SBox w p) (hc : w.cell? ⟨b, o, none⟩ = some (.int .u8 k)) : b ≠ p := by
  rintro rfl
  rcases h.cell o _ hc with ⟨a, n, c, h⟩ | ⟨k, h⟩ <;> cases h
theorem cell_apart {w : World} {p q b o : Nat} {u : Value} (hne : b ≠ p) : (w.setCell ⟨p, q, none⟩ u).cell? ⟨b, o, none⟩ = w.cell? ⟨b, o, none⟩ :=
  World.cell?_of_block (w := w) (Below.heap_setCell _ _ _ _ hne)
theorem RS.write {α : Type} {s bs p q : Nat} {E : World → Nat → Nat → α → Prop} {w : World} {v u : Value} {l : List α} (h : RS s bs E w v l) (hE : ∀ b o x, E w b o x → E (w.setCell ⟨p, q, none⟩ u) b o x) : RS s bs E (w.setCell ⟨p, q, none⟩ u) v l := by
  obtain ⟨a, c, rfl, h1, h2, hb, hn, h3⟩ := h
  refine ⟨a, c, rfl, h1, h2, hb, hn, fun k x hk => ?_⟩
  obtain ⟨b, off, ha, hlt, he⟩ := h3 k x hk
  exact ⟨b, off, ha, by simpa [World.setCell] using hlt, hE _ _ _ he⟩
section
variable {w : World} {p q : Nat} {u : Value}
theorem EU8.write (hp : SBox w p) {b o : Nat} {x : UInt8} (h : EU8 w b o x) : EU8 (w.setCell ⟨p, q, none⟩ u) b o x := (cell_apart (hp.u8 h)).trans h
theorem EPart.write (hp : SBox w p) {b o : Nat} {x : Part} (h : EPart w b o x) : EPart (w.setCell ⟨p, q, none⟩ u) b o x := by
  obtain ⟨h1, h2, h3, h4⟩ := h
  have hne := hp.str h1
  exact ⟨(cell_apart hne).trans h1, (cell_apart hne).trans h2, (cell_apart hne).trans h3, h4⟩
theorem EBlob.write (hp : SBox w p) {b o : Nat} {x : Blob} (h : EBlob w b o x) : EBlob (w.setCell ⟨p, q, none⟩ u) b o x := by
  obtain ⟨dv, h1, h2, h3, h4, h5, h6⟩ := h
  have hne := hp.str h1
  exact ⟨dv, (cell_apart hne).trans h1, (cell_apart hne).trans h2, (cell_apart hne).trans h3, (cell_apart hne).trans h4, RS.write h5 (fun _ _ _ => EU8.write hp), h6⟩
theorem EEntry.write (hp : SBox w p) {b o : Nat} {x : Entry} (h : EEntry w b o x) : EEntry (w.setCell ⟨p, q, none⟩ u) b o x := by
  obtain ⟨dv, h1, h2, h3, h4, h5, h6⟩ := h
  have hne := hp.str h1
  exact ⟨dv, (cell_apart hne).trans h1, (cell_apart hne).trans h2, (cell_apart hne).trans h3, (cell_apart hne).trans h4, RS.write h5 (fun _ _ _ => EPart.write hp), h6⟩
end
theorem RS.box4 {α : Type} {s bs p : Nat} {E : World → Nat → Nat → α → Prop} {w : World} {v : Value} {l : List α} (hE : ∀ (w : World) (p q : Nat) (u : Value), SBox w p → ∀ b o x, E w b o x → E (w.setCell ⟨p, q, none⟩ u) b o x)
    (h : RS s bs E w v l) {T : TypeId} (hp : ∃ a n c a' n' c' r t, w.heap[p]? = some (.cells #[.slice a n c, .slice a' n' c', .int .i64 r, .int .i64 t] T (0, 0))) (a : Option Addr) (n c : Nat) (a' : Option Addr) (n' c' : Nat) (r t : Int) :
    RS s bs E (World.box4 w p (.slice a n c) (.slice a' n' c') (.int .i64 r) (.int .i64 t)) v l := by
  obtain ⟨b0, b1, b2, b3, b4, b5, b6, b7, hp⟩ := hp
  have p0 := box4_0 (u := .slice a n c) hp
  have p1 := box4_1 (u := .slice a' n' c') p0
  have p2 := box4_2 (u := .int .i64 r) p1
  exact (((h.write (hE _ _ _ _ ⟨_, _, _, _, _, _, _, _, _, hp⟩)).write (hE _ _ _ _ ⟨_, _, _, _, _, _, _, _, _, p0⟩)).write (hE _ _ _ _ ⟨_, _, _, _, _, _, _, _, _, p1⟩)).write (hE _ _ _ _ ⟨_, _, _, _, _, _, _, _, _, p2⟩)
end Go.Proofs.YtpcnhldlfmdlhaaGreatDoor
