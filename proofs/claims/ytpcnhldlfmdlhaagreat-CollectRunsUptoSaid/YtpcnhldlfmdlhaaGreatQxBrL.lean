/-
  What a barrier answers; digests of parts. Printed by gen_bar.py.
-/
import Derived.Test.YtpcnhldlfmdlhaaGreatQxKep
import Derived.Test.YtpcnhldlfmdlhaaGreatQxSkx
import Derived.Test.YtpcnhldlfmdlhaaGreatQxChn
namespace Go.Proofs.YtpcnhldlfmdlhaaGreat
open Go.RowKit

/-- A store and a collector whose texts are the call's own. -/
def CoResO (o : CoOut) (w : World) (e : Ending) (w' : World) : Prop :=
  ∃ v gv, e = .returned (.tuple #[v, .agg #[.int .i64 o.coll.phase, gv, .string o.coll.place], .int .i64 o.err]) ∧ VS w' v o.store ∧ RT w' gv o.coll.grey ∧ OS 9 1 cStr w' w.heap.size gv o.coll.grey ∧ Below w.heap.size w w'
theorem CoResO.co {o : CoOut} {w w' : World} {e : Ending} (h : CoResO o w e w') : CoRes o w e w' := by
  obtain ⟨v, gv, h1, h2, h3, -, h4⟩ := h
  exact ⟨v, gv, h1, h2, h3, h4⟩
def CoResD (o : CoOut) (d : ByteArray) (w : World) (e : Ending) (w' : World) : Prop :=
  ∃ v gv, e = .returned (.tuple #[v, .agg #[.int .i64 o.coll.phase, gv, .string o.coll.place], .string d, .int .i64 o.err]) ∧ VS w' v o.store ∧ RT w' gv o.coll.grey ∧ OS 9 1 cStr w' w.heap.size gv o.coll.grey ∧ Below w.heap.size w w'
theorem coO_no {o : CoOut} {n : Int} {w w' : World} (h : o = ⟨n, noStore, noColl⟩) (hb : Below w.heap.size w w') :
    CoResO o w (.returned (.tuple #[.agg #[.slice none 0 0, .slice none 0 0, .int .i64 0, .int .i64 0], .agg #[.int .i64 0, .slice none 0 0, .string ⟨#[]⟩], .int .i64 n])) w' := by
  subst h
  exact ⟨_, _, rfl, ⟨_, _, rfl, RS.nil, RS.nil⟩, RS.nil, OS.nil, hb⟩
theorem coO_ok {o : CoOut} {k : Int} {s : ByteArray} {G : List ByteArray} {bs : List Blob} {es : List Entry} {r t : Int} {v1 v2 gv : Value} {w w' : World} (h : o = ⟨0, ⟨bs, es, r, t⟩, ⟨k, G, s⟩⟩) (h1 : RBl w' v1 bs) (h2 : RE w' v2 es) (h3 : RT w' gv G) (h4 : OS 9 1 cStr w' w.heap.size gv G) (hb : Below w.heap.size w w') :
    CoResO o w (.returned (.tuple #[.agg #[v1, v2, .int .i64 r, .int .i64 t], .agg #[.int .i64 k, gv, .string s], .int .i64 0])) w' := by
  subst h
  exact ⟨_, _, rfl, ⟨v1, v2, rfl, h1, h2⟩, h3, h4, hb⟩
theorem coD_no {o : CoOut} {n : Int} {d : ByteArray} {w w' : World} (h : o = ⟨n, noStore, noColl⟩ ∧ d = ⟨#[]⟩) (hb : Below w.heap.size w w') :
    CoResD o d w (.returned (.tuple #[.agg #[.slice none 0 0, .slice none 0 0, .int .i64 0, .int .i64 0], .agg #[.int .i64 0, .slice none 0 0, .string ⟨#[]⟩], .string ⟨#[]⟩, .int .i64 n])) w' := by
  obtain ⟨rfl, rfl⟩ := h
  exact ⟨_, _, rfl, ⟨_, _, rfl, RS.nil, RS.nil⟩, RS.nil, OS.nil, hb⟩
section
variable {z e ph : Int} {S : Store} {gy l : List ByteArray} {pl d : ByteArray}
end
/-- A store in an old box and a collector in a new one, behind the calls that keep digests. -/
def BpMid (w wb : World) (q : Nat) (B2 : List Blob) (E : List Entry) (r1 t1 ph : Int) (G2 : List ByteArray) (pl : ByteArray) (s14 : Value) (wx : World) : Prop :=
  ∃ q14 a7 c7 a8 c8 a9 c9, s14 = .pointer (some ⟨q14, 0, none⟩) ∧ wb.heap.size ≤ q14 ∧ wx.heap[q]? = some (.cells #[.slice a7 B2.length c7, .slice a8 E.length c8, .int .i64 r1, .int .i64 t1] 29 (0, 0)) ∧
    wx.heap[q14]? = some (.cells #[.int .i64 ph, .slice a9 G2.length c9, .string pl] 32 (0, 0)) ∧
    wx.heap[w.heap.size + 1 + 1]? = some (.cells #[.slice none 0 0, .slice none 0 0, .int .i64 0, .int .i64 0] 29 (0, 0)) ∧ wx.heap[w.heap.size + 1 + 1 + 1]? = some (.cells #[.int .i64 0, .slice none 0 0, .string ⟨#[]⟩] 32 (0, 0)) ∧
    G2.length * 16 ≤ 140737488351232 ∧ (∀ s ∈ G2, s.size ≤ 140737488351232) ∧ RBl wx (.slice a7 B2.length c7) B2 ∧ RE wx (.slice a8 E.length c8) E ∧ OS 9 1 cStr wx w.heap.size (.slice a9 G2.length c9) G2 ∧ Below w.heap.size w wx
end Go.Proofs.YtpcnhldlfmdlhaaGreat
