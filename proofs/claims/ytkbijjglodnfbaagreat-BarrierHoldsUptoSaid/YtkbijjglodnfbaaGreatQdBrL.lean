/-
  What a barrier answers; digests of parts. Printed by gen_bar.py.
-/
import Derived.Test.YtkbijjglodnfbaaGreatQdKep
import Derived.Test.YtkbijjglodnfbaaGreatQdSkx
import Derived.Test.YtkbijjglodnfbaaGreatQdChn
namespace Go.Proofs.YtkbijjglodnfbaaGreat
open Go.RowKit

/-- A store and a collector whose texts are the call's own. -/
def CoResO (o : CoOut) (w : World) (e : Ending) (w' : World) : Prop :=
  ∃ v gv, e = .returned (.tuple #[v, .agg #[.int .i64 o.coll.phase, gv, .string o.coll.place], .int .i64 o.err]) ∧ VS w' v o.store ∧ RT w' gv o.coll.grey ∧ OS 9 1 cStr w' w.heap.size gv o.coll.grey ∧ Below w.heap.size w w'
theorem CoResO.co {o : CoOut} {w w' : World} {e : Ending} (h : CoResO o w e w') : CoRes o w e w' := by
  obtain ⟨v, gv, h1, h2, h3, -, h4⟩ := h
  exact ⟨v, gv, h1, h2, h3, h4⟩
theorem coO_no {o : CoOut} {n : Int} {w w' : World} (h : o = ⟨n, noStore, noColl⟩) (hb : Below w.heap.size w w') :
    CoResO o w (.returned (.tuple #[.agg #[.slice none 0 0, .slice none 0 0, .int .i64 0, .int .i64 0], .agg #[.int .i64 0, .slice none 0 0, .string ⟨#[]⟩], .int .i64 n])) w' := by
  subst h
  exact ⟨_, _, rfl, ⟨_, _, rfl, RS.nil, RS.nil⟩, RS.nil, OS.nil, hb⟩
theorem coO_ok {o : CoOut} {k : Int} {s : ByteArray} {G : List ByteArray} {bs : List Blob} {es : List Entry} {r t : Int} {v1 v2 gv : Value} {w w' : World} (h : o = ⟨0, ⟨bs, es, r, t⟩, ⟨k, G, s⟩⟩) (h1 : RBl w' v1 bs) (h2 : RE w' v2 es) (h3 : RT w' gv G) (h4 : OS 9 1 cStr w' w.heap.size gv G) (hb : Below w.heap.size w w') :
    CoResO o w (.returned (.tuple #[.agg #[v1, v2, .int .i64 r, .int .i64 t], .agg #[.int .i64 k, gv, .string s], .int .i64 0])) w' := by
  subst h
  exact ⟨_, _, rfl, ⟨v1, v2, rfl, h1, h2⟩, h3, h4, hb⟩
/-- What a barrier answers: z is wrong with what is given, or e with what is done; S is the store behind it, l are the digests that are kept. -/
noncomputable def barOut (z e : Int) (S : Store) (ph : Int) (gy : List ByteArray) (pl : ByteArray) (l : List ByteArray) : CoOut :=
  if z ≠ 0 then ⟨z, noStore, noColl⟩ else if e ≠ 0 then ⟨e, noStore, noColl⟩ else ⟨0, ⟨keptB ph S.blobs l, S.entries, S.room, S.clock⟩, ⟨ph, keptG ph gy l, pl⟩⟩
section
variable {z e ph : Int} {S : Store} {gy l : List ByteArray} {pl d : ByteArray}
theorem bar_bad (h : z ≠ 0) : barOut z e S ph gy pl l = ⟨z, noStore, noColl⟩ := if_pos h
theorem bar_op (h : e ≠ 0) : barOut 0 e S ph gy pl l = ⟨e, noStore, noColl⟩ := by unfold barOut; rw [if_neg (by simp), if_pos h]
theorem bar_ok : barOut 0 0 S ph gy pl l = ⟨0, ⟨keptB ph S.blobs l, S.entries, S.room, S.clock⟩, ⟨ph, keptG ph gy l, pl⟩⟩ := by unfold barOut; rw [if_neg (by simp), if_neg (by simp)]
end
theorem rt_one (W : World) (d : ByteArray) (k : Nat) (hk : k = W.heap.size) (hd : d.size ≤ 140737488351232) : RT (W.alloc (Obj.cells #[.string d] 9)) (.slice (some ⟨k, 0, none⟩) 1 1) [d] := by
  subst hk
  refine ⟨_, _, rfl, by simp, by simp [maxLen], by simp, fun h => by simp at h, fun j x hj => ⟨W.heap.size, 0, rfl, by simp, ?_, ?_⟩⟩
  · obtain rfl : j = 0 := by have := (List.getElem?_eq_some_iff.1 hj).1; simp at this; omega
    simp only [List.getElem?_cons_zero, Option.some.injEq] at hj
    subst hj
    rw [cell_of_row _ _ _ _ _ _ (heap_alloc_new W _)]
    simp
  · obtain rfl : j = 0 := by have := (List.getElem?_eq_some_iff.1 hj).1; simp at this; omega
    simp only [List.getElem?_cons_zero, Option.some.injEq] at hj
    subst hj
    exact hd

end Go.Proofs.YtkbijjglodnfbaaGreat
