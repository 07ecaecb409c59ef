/-
  What the bound of an '..UptoSaid' statement gives: the length of a slice that is read, the size of a string.
-/
import Derived.Test.YtpcnhldlfmdlhaaGreatDoorSxBas
import Derived.Test.YtpcnhldlfmdlhaaGreatDoorRows
namespace Go.Proofs.YtpcnhldlfmdlhaaGreatDoor
open Go.RowKit Go.Deep

theorem bulk_one {H : Type} (d : DataW H) : 1 ≤ Rows.uptoBulk d := by
  cases d with
  | lit l => cases l <;> simp [Rows.uptoBulk]
  | nil => simp [Rows.uptoBulk]
  | ptr d => simp [Rows.uptoBulk]
  | slice elems spare => simp [Rows.uptoBulk]
  | agg parts => simp [Rows.uptoBulk]
  | iface t d => simp [Rows.uptoBulk]
  | map entries => simp [Rows.uptoBulk]
  | held h => simp [Rows.uptoBulk]
theorem bulk_part {H : Type} {d : DataW H} {l : List (DataW H)} (h : d ∈ l) : Rows.uptoBulk d ≤ Rows.uptoBulkAll l := by
  induction l with
  | nil => cases h
  | cons x r ih =>
    simp only [Rows.uptoBulkAll]
    rcases List.mem_cons.1 h with e | e
    · subst e; omega
    · have := ih e; omega
theorem bulk_length {H : Type} (l : List (DataW H)) : l.length ≤ Rows.uptoBulkAll l := by
  induction l with
  | nil => simp [Rows.uptoBulkAll]
  | cons x r ih => have := bulk_one x; simp only [Rows.uptoBulkAll, List.length_cons]; omega
theorem bulk_small {H : Type} {l : List (DataW H)} (hk : Rows.uptoSmall H l = true) {d : DataW H} (h : d ∈ l) : Rows.uptoBulk d ≤ 1048576 := by
  have h1 : Rows.uptoBulkAll l ≤ 1048576 := of_decide_eq_true hk
  have h2 := bulk_part h
  omega
/-- The length of a slice. -/
theorem bulk_slice {H : Type} {P : Program} {enc : TypeId × Value → H} {w : World} {t e : TypeId} {a : Option Addr} {n c : Nat} {d : DataW H} {ps : List MemPlace} (ht : P.underlying t = some (.slice e))
    (h : DataW.Trod enc P w 0 (fun _ => true) true t (.slice a n c) d ps) : n ≤ Rows.uptoBulk d := by
  obtain ⟨m, hm⟩ := h
  rcases open_slice ht hm with ⟨h1, h2⟩ | ⟨ad, len, cap, m', n', D, Pl, h1, _, _, _, _, h2, _⟩
  · have : Value.slice a n c = .slice none 0 0 := by simpa [Value.cells] using h1
    simp only [Value.slice.injEq] at this
    omega
  · have h3 : Value.slice a n c = .slice (some ad) len cap := by simpa [Value.cells] using h1
    simp only [Value.slice.injEq] at h3
    obtain ⟨rfl, rfl, rfl⟩ := h3
    simp only [Prod.mk.injEq] at h2
    obtain ⟨rfl, -⟩ := h2
    have := bulk_length ((List.range n).map D)
    simp only [List.length_map, List.length_range] at this
    simp only [Rows.uptoBulk]
    omega
end Go.Proofs.YtpcnhldlfmdlhaaGreatDoor
