/-
  exec.Put and LoftPut: plain words. Printed by gen_exp.py.
-/
import Derived.Test.YtkbijjglodnfbaaGreatQcExL
namespace Go.Proofs.YtkbijjglodnfbaaGreat
open Go.RowKit

/-- A loft, and what is wrong. -/
def PfRes (o : LfOut) (w : World) (e : Ending) (w' : World) : Prop :=
  ∃ v1 v2 v3 v4, e = .returned (.tuple #[.agg #[v1, v2, .int .i64 o.store.room, .int .i64 o.store.clock, .int .i64 o.coll.phase, v3, .string o.coll.place, v4], .int .i64 o.err]) ∧
    RBl w' v1 o.store.blobs ∧ RE w' v2 o.store.entries ∧ RT w' v3 o.coll.grey ∧ RF w' v4 o.flights ∧ Below w.heap.size w w'
theorem pf_no {o : LfOut} {n : Int} {w w' : World} (h : o = noLf n) (hb : Below w.heap.size w w') :
    PfRes o w (.returned (.tuple #[.agg #[.slice none 0 0, .slice none 0 0, .int .i64 0, .int .i64 0, .int .i64 0, .slice none 0 0, .string ⟨#[]⟩, .slice none 0 0], .int .i64 n])) w' := by
  subst h
  exact ⟨_, _, _, _, rfl, RS.nil, RS.nil, RS.nil, RS.nil, hb⟩
theorem pf_ok {o : LfOut} {bs : List Blob} {es : List Entry} {r t ph : Int} {gy : List ByteArray} {pl : ByteArray} {fl : List Flight} {w w' : World} {v1 v2 v3 v4 : Value} (h : o = ⟨0, ⟨bs, es, r, t⟩, ⟨ph, gy, pl⟩, fl, []⟩)
    (h1 : RBl w' v1 bs) (h2 : RE w' v2 es) (h3 : RT w' v3 gy) (h4 : RF w' v4 fl) (hb : Below w.heap.size w w') :
    PfRes o w (.returned (.tuple #[.agg #[v1, v2, .int .i64 r, .int .i64 t, .int .i64 ph, v3, .string pl, v4], .int .i64 0])) w' := by
  subst h
  exact ⟨_, _, _, _, rfl, h1, h2, h3, h4, hb⟩
/-- It is put: z is wrong with the loft, somebody makes it (f); O is what the barrier answers. -/
def lputOut (z : Int) (f : Bool) (O : CoOut) (L : List Flight) : LfOut :=
  if z ≠ 0 then noLf z else if f = true then noLf 10 else if O.err ≠ 0 then noLf O.err else ⟨0, O.store, O.coll, L, []⟩
section
variable {z : Int} {f : Bool} {O : CoOut} {L : List Flight}
theorem lput_bad (h : z ≠ 0) : lputOut z f O L = noLf z := if_pos h
theorem lput_held : lputOut 0 true O L = noLf 10 := by unfold lputOut; rw [if_neg (by simp), if_pos rfl]
theorem lput_put (h : O.err ≠ 0) : lputOut 0 false O L = noLf O.err := by unfold lputOut; rw [if_neg (by simp), if_neg (by simp), if_pos h]
theorem lput_ok {S : Store} {C : Coll} : lputOut 0 false ⟨0, S, C⟩ L = ⟨0, S, C, L, []⟩ := by unfold lputOut; rw [if_neg (by simp), if_neg (by simp), if_neg (by simp)]
end
theorem heap_drewN {w : World} {n k : Nat} {x : Obj} (h : w.heap[k]? = some x) : (w.drewN n).heap[k]? = some x := h
end Go.Proofs.YtkbijjglodnfbaaGreat
