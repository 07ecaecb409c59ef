/-
  The run of a collector, by plain functions: it ends, and something goes just when there are fewer blobs.
-/
import Derived.Test.YtkbijjglodnfbaaGreatQaTkI
import Derived.Test.YtkbijjglodnfbaaGreatQaChc
import Derived.Test.YtkbijjglodnfbaaGreatQaSwx
namespace Go.Proofs.YtkbijjglodnfbaaGreat
open Go.RowKit

noncomputable def tkO (S : Store) (C : Coll) : CoOut :=
  tickC (collF S.blobs S.entries S.room S.clock C.phase C.grey C.place) C.phase (mkOut (storeFault S.blobs S.entries S.room S.clock) C.phase S.blobs S.entries S.room S.clock C.grey) (swAll C.place C.phase S.blobs S.entries S.room S.clock)
noncomputable def tkG (S : Store) (C : Coll) : ByteArray := tickD (collF S.blobs S.entries S.room S.clock C.phase C.grey C.place) C.phase (swAll C.place C.phase S.blobs S.entries S.room S.clock)
where filter_le' {α : Type} {p q : α → Bool} : ∀ {l : List α}, (∀ y ∈ l, p y = true → q y = true) → (l.filter p).length ≤ (l.filter q).length
  | [], _ => Nat.le_refl _
  | a :: l, h => by
    have ih := filter_le' (p := p) (q := q) (l := l) (fun y hy => h y (List.mem_cons_of_mem _ hy))
    by_cases ha : p a = true
    · rw [List.filter_cons_of_pos ha, List.filter_cons_of_pos (h a List.mem_cons_self ha), List.length_cons, List.length_cons]
      omega
    · rw [List.filter_cons_of_neg ha]
      by_cases hb : q a = true
      · rw [List.filter_cons_of_pos hb, List.length_cons]; omega
      · rw [List.filter_cons_of_neg hb]; exact ih
end Go.Proofs.YtkbijjglodnfbaaGreat
