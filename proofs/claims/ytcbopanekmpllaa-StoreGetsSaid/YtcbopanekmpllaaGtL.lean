/-
  What getting an entry of a store answers. Printed by gen_gt.py.
-/
import Derived.Test.YtcbopanekmpllaaSpL
namespace Go.Proofs.Ytcbopanekmpllaa
open Go.RowKit

theorem cell_box4 {w : World} {p b o : Nat} {u0 u1 u2 u3 : Value} (hne : b ≠ p) : (World.box4 w p u0 u1 u2 u3).cell? ⟨b, o, none⟩ = w.cell? ⟨b, o, none⟩ :=
  (cell_apart hne).trans ((cell_apart hne).trans ((cell_apart hne).trans (cell_apart hne)))
/-- What is wrong with getting what a key has, z being what is wrong with the store; the entries then; the parts. -/
def gtE (z : Int) (s : ByteArray) (t : Int) (l : List Entry) : Int := if z ≠ 0 then z else match l[atKey (fun x : Entry => x.key) s l]? with | none => 5 | some _ => if (t == 1099511627776) = true then 4 else 0
def gtL (s : ByteArray) (t : Int) (l : List Entry) : List Entry := match l[atKey (fun x : Entry => x.key) s l]? with | none => l | some x => l.set (atKey (fun x : Entry => x.key) s l) { x with stamp := t + 1 }
def gtP (s : ByteArray) (l : List Entry) : List Part := match l[atKey (fun x : Entry => x.key) s l]? with | none => [] | some x => x.parts
section
variable {z t : Int} {s : ByteArray} {l : List Entry} {x : Entry}
theorem gtE_bad (h : z ≠ 0) : gtE z s t l = z := if_pos h
theorem gtE_none (h : atKey (fun x : Entry => x.key) s l = l.length) : gtE 0 s t l = 5 := by
  unfold gtE
  rw [if_neg (by simp), List.getElem?_eq_none (by omega)]
theorem gtE_some (h : l[atKey (fun x : Entry => x.key) s l]? = some x) : gtE 0 s t l = if (t == 1099511627776) = true then 4 else 0 := by
  unfold gtE
  rw [if_neg (by simp), h]
theorem gtL_some (h : l[atKey (fun x : Entry => x.key) s l]? = some x) : gtL s t l = l.set (atKey (fun x : Entry => x.key) s l) { x with stamp := t + 1 } := by unfold gtL; rw [h]
theorem gtP_some (h : l[atKey (fun x : Entry => x.key) s l]? = some x) : gtP s l = x.parts := by unfold gtP; rw [h]
end
def GtRes (err : Int) (S : Store) (P : List Part) (w : World) (e : Ending) (w' : World) : Prop :=
  ∃ v pv, e = .returned (.tuple #[v, pv, .int .i64 err]) ∧ VS w' v (if err = 0 then S else noStore) ∧ RP w' pv (if err = 0 then P else []) ∧ Below w.heap.size w w'
theorem gt_no {err n : Int} {S : Store} {P : List Part} {w w' : World} (h : err = n) (hn : n ≠ 0) (hb : Below w.heap.size w w') :
    GtRes err S P w (.returned (.tuple #[.agg #[.slice none 0 0, .slice none 0 0, .int .i64 0, .int .i64 0], .slice none 0 0, .int .i64 n])) w' := by
  subst h
  exact ⟨_, _, rfl, ⟨_, _, by rw [if_neg hn]; rfl, by rw [if_neg hn]; exact RS.nil, by rw [if_neg hn]; exact RS.nil⟩, by rw [if_neg hn]; exact RS.nil, hb⟩
theorem gt_ok {err : Int} {P : List Part} {w w' : World} {v1 v2 pv : Value} {bs : List Blob} {es : List Entry} {r t : Int} (h : err = 0) (h1 : RBl w' v1 bs) (h2 : RE w' v2 es) (h3 : RP w' pv P) (hb : Below w.heap.size w w') :
    GtRes err ⟨bs, es, r, t⟩ P w (.returned (.tuple #[.agg #[v1, v2, .int .i64 r, .int .i64 t], pv, .int .i64 0])) w' := by
  subst h
  exact ⟨_, _, rfl, ⟨v1, v2, rfl, h1, h2⟩, h3, hb⟩
end Go.Proofs.Ytcbopanekmpllaa
