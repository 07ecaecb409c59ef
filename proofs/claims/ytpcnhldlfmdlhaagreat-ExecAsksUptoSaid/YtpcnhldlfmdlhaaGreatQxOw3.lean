/-
  Own rows: their forms, a cell of an element, and what keeps them.
-/
import Derived.Test.YtpcnhldlfmdlhaaGreatQxBas
namespace Go.Proofs.YtpcnhldlfmdlhaaGreat
open Go.RowKit

theorem os_forms' {α : Type} {e : TypeId} {s : Nat} {cells : α → List Value} {w : World} {B : Nat} {v : Value} {R : List α} (h : OS e s cells w B v R) : (v = .slice none 0 0 ∧ R = []) ∨ ∃ g c, v = .slice (some ⟨g, 0, none⟩) R.length c ∧ R.length ≤ c := by
  obtain ⟨h1, h2⟩ := h
  rcases h2 with ⟨rfl, hn⟩ | ⟨g, cap, cur, rfl, hg, hh, hnc, -⟩
  · exact .inl ⟨rfl, List.eq_nil_of_length_eq_zero hn⟩
  · exact .inr ⟨g, cap, rfl, hnc⟩
/-- A cell of an element of an own row. -/
theorem OS.cell {α : Type} {e : TypeId} {s B g n cap i o : Nat} {cells : α → List Value} {w : World} {l : List α} {x : α} {u : Value} (h : OS e s cells w B (.slice (some ⟨g, 0, none⟩) n cap) l) (hl : ∀ x, (cells x).length = s) (hx : l[i]? = some x) (hu : (cells x)[o]? = some u) :
    w.cell? ⟨g, i * s + o, none⟩ = some u := by
  have ho : o < s := by have := (List.getElem?_eq_some_iff.1 hu).1; rw [hl] at this; exact this
  have hil := (List.getElem?_eq_some_iff.1 hx).1
  have hlt : i * s + o < l.length * s := by
    have : i * s + s ≤ l.length * s := by rw [← Nat.succ_mul]; exact Nat.mul_le_mul_right _ hil
    omega
  have hn : n = l.length := by
    rcases h.2 with ⟨h2, _⟩ | ⟨g', cap', cur, hv, -⟩
    · cases h2
    · simp only [Value.slice.injEq] at hv; exact hv.2.1
  subst hn
  have hc := World.ownsRow.cellAt h (i * s + o) (by have := flat_len hl l; omega)
  have e1 : (i * s + o) / s = i := by rw [Nat.add_comm, Nat.add_mul_div_right o i (by omega), Nat.div_eq_of_lt ho, Nat.zero_add]
  have e2 : (i * s + o) % s = o := by rw [Nat.add_comm, Nat.add_mul_mod_self_right, Nat.mod_eq_of_lt ho]
  rw [flat_get hl (by omega), e1, e2, hx] at hc
  exact hc.trans hu
theorem OS.keptBy {α : Type} {e : TypeId} {s B : Nat} {cells : α → List Value} {w w' : World} {v : Value} {l : List α} {row : Option Nat} (h : OS e s cells w B v l) (hg : w.grownBy w' row) (hn : ∀ b, row = some b → v.ownBlock ≠ some b) : OS e s cells w' B v l :=
  World.ownsRow.kept (row := row) h hg (by
    cases row with
    | none => cases hv : v.ownBlock <;> simp
    | some b => exact Or.inr (hn b rfl))
theorem OS.other' {α : Type} {e T : TypeId} {s B q o : Nat} {cells : α → List Value} {w : World} {v u : Value} {l : List α} {cs : Array Value} {fr : Nat × Nat} (h : OS e s cells w B v l) (hq : w.heap[q]? = some (.cells cs T fr)) (hT : T ≠ e) :
    OS e s cells (w.setCell ⟨q, o, none⟩ u) B v l :=
  World.ownsRow.kept (row := some q) h ⟨rfl, rfl, rfl, by simp [World.setCell], fun k _ hk => Below.heap_setCell _ _ _ _ (fun e => hk (by simp [e]))⟩ (Or.inr (OS.block_ne h hq hT))
theorem heap_lt' {w : World} {k : Nat} {x : Obj} (h : w.heap[k]? = some x) : k < w.heap.size := (Array.getElem?_eq_some_iff.1 h).1
theorem set_all' {α : Type} {Q : α → Prop} {l : List α} {i : Nat} {y : α} (h : ∀ x ∈ l, Q x) (hy : Q y) : ∀ x ∈ l.set i y, Q x := by
  intro x hx
  rcases List.mem_or_eq_of_mem_set hx with hx | rfl
  · exact h x hx
  · exact hy
end Go.Proofs.YtpcnhldlfmdlhaaGreat
