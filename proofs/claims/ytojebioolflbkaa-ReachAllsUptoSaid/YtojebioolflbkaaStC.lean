/-
  store.Copy: what it answers. Printed by gen_sto4.py. The reference's StoreCopy: what it answers; sameStore of alike stores. Printed by gen_sto5.py. Blobs and entries that the call owns: one of a row's numbers set; a cell of another type's block set. Values that read as stores; a box of four cells beside owned rows; where a cell of an owned row's element lies.
-/
import Derived.Test.YtojebioolflbkaaSt
import Derived.Test.YtojebioolflbkaaOwE
import Derived.Test.YtojebioolflbkaaKB
import Derived.Test.YtojebioolflbkaaKE
import Derived.Test.YtojebioolflbkaaBas
import Derived.Test.YtojebioolflbkaaOpn
namespace Go.Proofs.Ytojebioolflbkaa
open Go.RowKit

theorem box4_set01 {w : World} {q : Nat} {a b c d u0 u1 : Value} {T : TypeId} (h : w.heap[q]? = some (.cells #[a, b, c, d] T (0, 0))) : ((w.setCell ⟨q, 0, none⟩ u0).setCell ⟨q, 1, none⟩ u1).heap[q]? = some (.cells #[u0, u1, c, d] T (0, 0)) := by
  simp [World.setCell, Array.getElem?_modify, h]
theorem box4_set {w : World} {q : Nat} {a b c d u0 u1 u2 u3 : Value} {T : TypeId} (h : w.heap[q]? = some (.cells #[a, b, c, d] T (0, 0))) :
    ((((w.setCell ⟨q, 0, none⟩ u0).setCell ⟨q, 1, none⟩ u1).setCell ⟨q, 2, none⟩ u2).setCell ⟨q, 3, none⟩ u3).heap[q]? = some (.cells #[u0, u1, u2, u3] T (0, 0)) := by
  simp [World.setCell, Array.getElem?_modify, h]
/-- A store that the call has made: its rows are the call's own. -/
def OwnedStore (bs : List Blob) (es : List Entry) (r t : Int) (w : World) (e : Ending) (w' : World) : Prop :=
  ∃ v1 v2, e = .returned (.agg #[v1, v2, .int .i64 r, .int .i64 t]) ∧ OBlob w' w.heap.size v1 bs ∧ OEntry w' w.heap.size v2 es ∧ Below w.heap.size w w'
def CopiedStore (bs : List Blob) (es : List Entry) (r t : Int) (w : World) (e : Ending) (w' : World) : Prop :=
  ∃ v1 v2, e = .returned (.agg #[v1, v2, .int .i64 r, .int .i64 t]) ∧ RBl w' v1 bs ∧ RE w' v2 es ∧ Below w.heap.size w w'
theorem OwnedStore.copied {bs : List Blob} {es : List Entry} {r t : Int} {w : World} {v u : Value} (h : RBl w v bs) (g : RE w u es) {e : Ending} {w' : World} (ho : OwnedStore bs es r t w e w') : CopiedStore bs es r t w e w' := by
  obtain ⟨v1, v2, rfl, o1, o2, hb⟩ := ho
  have hf1 := fit_B h
  have hf2 := fit_E g
  obtain ⟨_, _, _, -, -, hre, -⟩ := h
  obtain ⟨_, _, _, -, -, hre2, -⟩ := g
  exact ⟨v1, v2, rfl, o1.toR hre hf1, o2.toR hre2 hf2, hb⟩

end Go.Proofs.Ytojebioolflbkaa

namespace Go.Proofs.Ytojebioolflbkaa
open Go.RowKit

end Go.Proofs.Ytojebioolflbkaa

namespace Go.Proofs.Ytojebioolflbkaa
open Go.RowKit

end Go.Proofs.Ytojebioolflbkaa

namespace Go.Proofs.Ytojebioolflbkaa
open Go.RowKit

/-- v reads as the store S. -/
def VS (w : World) (v : Value) (S : Store) : Prop := ∃ v1 v2, v = .agg #[v1, v2, .int .i64 S.room, .int .i64 S.clock] ∧ RBl w v1 S.blobs ∧ RE w v2 S.entries
def noStore : Store := ⟨[], [], 0, 0⟩
/-- What a call that makes a store of a store answers: the store, or none and what is wrong. -/
def StRes (err : Int) (S : Store) (w : World) (e : Ending) (w' : World) : Prop := ∃ v, e = .returned (.tuple #[v, .int .i64 err]) ∧ VS w' v (if err = 0 then S else noStore) ∧ Below w.heap.size w w'
theorem st_no {err n : Int} {S : Store} {w w' : World} (h : err = n) (hn : n ≠ 0) (hb : Below w.heap.size w w') :
    StRes err S w (.returned (.tuple #[.agg #[.slice none 0 0, .slice none 0 0, .int .i64 0, .int .i64 0], .int .i64 n])) w' := by
  subst h
  exact ⟨_, rfl, ⟨_, _, by rw [if_neg hn]; rfl, by rw [if_neg hn]; exact RS.nil, by rw [if_neg hn]; exact RS.nil⟩, hb⟩
theorem st_ok {err : Int} {S : Store} {w w' : World} {v1 v2 : Value} {bs : List Blob} {es : List Entry} {r t : Int} (h : err = 0) (hS : S = ⟨bs, es, r, t⟩) (h1 : RBl w' v1 bs) (h2 : RE w' v2 es) (hb : Below w.heap.size w w') :
    StRes err S w (.returned (.tuple #[.agg #[v1, v2, .int .i64 r, .int .i64 t], .int .i64 0])) w' := by
  subst h hS
  exact ⟨_, rfl, ⟨v1, v2, rfl, h1, h2⟩, hb⟩

theorem box4_0 {w : World} {q : Nat} {a b c d u : Value} {T : TypeId} (h : w.heap[q]? = some (.cells #[a, b, c, d] T (0, 0))) : (w.setCell ⟨q, 0, none⟩ u).heap[q]? = some (.cells #[u, b, c, d] T (0, 0)) := by
  simp [World.setCell, Array.getElem?_modify, h]
theorem box4_1 {w : World} {q : Nat} {a b c d u : Value} {T : TypeId} (h : w.heap[q]? = some (.cells #[a, b, c, d] T (0, 0))) : (w.setCell ⟨q, 1, none⟩ u).heap[q]? = some (.cells #[a, u, c, d] T (0, 0)) := by
  simp [World.setCell, Array.getElem?_modify, h]
theorem box4_2 {w : World} {q : Nat} {a b c d u : Value} {T : TypeId} (h : w.heap[q]? = some (.cells #[a, b, c, d] T (0, 0))) : (w.setCell ⟨q, 2, none⟩ u).heap[q]? = some (.cells #[a, b, u, d] T (0, 0)) := by
  simp [World.setCell, Array.getElem?_modify, h]
theorem box4_3 {w : World} {q : Nat} {a b c d u : Value} {T : TypeId} (h : w.heap[q]? = some (.cells #[a, b, c, d] T (0, 0))) : (w.setCell ⟨q, 3, none⟩ u).heap[q]? = some (.cells #[a, b, c, u] T (0, 0)) := by
  simp [World.setCell, Array.getElem?_modify, h]
/-- All four cells of a box set. -/
def World.box4 (w : World) (q : Nat) (u0 u1 u2 u3 : Value) : World := (((w.setCell ⟨q, 0, none⟩ u0).setCell ⟨q, 1, none⟩ u1).setCell ⟨q, 2, none⟩ u2).setCell ⟨q, 3, none⟩ u3
theorem OBlob.box {w : World} {B q : Nat} {v a b c d u0 u1 u2 u3 : Value} {bs : List Blob} {T : TypeId} (h : OBlob w B v bs) (hq : w.heap[q]? = some (.cells #[a, b, c, d] T (0, 0))) (hT : T ≠ 86) (hT2 : T ≠ 5) : OBlob (World.box4 w q u0 u1 u2 u3) B v bs :=
  (((h.other hq hT hT2).other (box4_0 hq) hT hT2).other (box4_1 (box4_0 hq)) hT hT2).other (box4_2 (box4_1 (box4_0 hq))) hT hT2
theorem OEntry.box {w : World} {B q : Nat} {v a b c d u0 u1 u2 u3 : Value} {es : List Entry} {T : TypeId} (h : OEntry w B v es) (hq : w.heap[q]? = some (.cells #[a, b, c, d] T (0, 0))) (hT : T ≠ 82) (hT2 : T ≠ 84) : OEntry (World.box4 w q u0 u1 u2 u3) B v es :=
  (((h.other hq hT hT2).other (box4_0 hq) hT hT2).other (box4_1 (box4_0 hq)) hT hT2).other (box4_2 (box4_1 (box4_0 hq))) hT hT2
theorem b_box4 {w W : World} (h : Below w.heap.size w W) {q : Nat} (hq : w.heap.size ≤ q) (u0 u1 u2 u3 : Value) : Below w.heap.size w (World.box4 W q u0 u1 u2 u3) :=
  b_set (b_set (b_set (b_set h (p := ⟨q, 0, none⟩) hq u0) (p := ⟨q, 1, none⟩) hq u1) (p := ⟨q, 2, none⟩) hq u2) (p := ⟨q, 3, none⟩) hq u3
theorem box4_same {w : World} {q : Nat} {a b c d u0 u1 u2 u3 : Value} {T : TypeId} (h : w.heap[q]? = some (.cells #[a, b, c, d] T (0, 0))) : (World.box4 w q u0 u1 u2 u3).heap[q]? = some (.cells #[u0, u1, u2, u3] T (0, 0)) := box4_set h
theorem box4_other {w : World} {q p : Nat} {u0 u1 u2 u3 : Value} {x : Obj} (h : w.heap[p]? = some x) (hn : p ≠ q) : (World.box4 w q u0 u1 u2 u3).heap[p]? = some x :=
  box_other (box_other (box_other (box_other h hn) hn) hn) hn
theorem box4_size {w : World} {q : Nat} {u0 u1 u2 u3 : Value} : (World.box4 w q u0 u1 u2 u3).heap.size = w.heap.size := by simp [World.box4, World.setCell]
theorem pinMove_wf {n : Int} {up : Bool} : (Lit.int .i64 (pinMove n up).1).wf = true := by
  unfold pinMove
  have key : ∀ k : Int, 0 ≤ k → k ≤ 6 → (Lit.int .i64 k).wf = true := by
    intro k h0 h1
    have : k = 0 ∨ k = 1 ∨ k = 2 ∨ k = 3 ∨ k = 4 ∨ k = 5 ∨ k = 6 := by omega
    rcases this with rfl | rfl | rfl | rfl | rfl | rfl | rfl <;> decide
  split
  · decide
  · rename_i h
    split
    · split
      · decide
      · exact key _ (by omega) (by omega)
    · split
      · decide
      · exact key _ (by omega) (by omega)
end Go.Proofs.Ytojebioolflbkaa
