/-
  Putting an entry into a list whose keys rise: what is left; one element of an owned row of entries written whole. No function of the program is named here.
-/
import Derived.Test.YtcbopanekmpllaaSrt
import Derived.Test.YtcbopanekmpllaaIdx
import Derived.Test.YtcbopanekmpllaaInsE
namespace Go.Proofs.Ytcbopanekmpllaa
open Go.RowKit

theorem rising_entries {l : List Entry} (h : entriesFault l = 0) : Rising (fun x : Entry => x.key) l ∧ l.length ≤ 10 := by
  unfold entriesFault at h
  split at h
  · cases h
  · rename_i h1
    exact ⟨(rising_of (fun p x h => (entryFault_zero h).2.1) h).1, by omega⟩
/-- The list with an entry put into it; an entry of its key hands on its pins. -/
def putL (x : Entry) (l : List Entry) : List Entry :=
  if hasKey (fun x : Entry => x.key) x.key l = true then (match l[lowAt (fun x : Entry => x.key) x.key l]? with | some y => l.set (lowAt (fun x : Entry => x.key) x.key l) { x with pins := y.pins } | none => [])
  else l.take (lowAt (fun x : Entry => x.key) x.key l) ++ x :: l.drop (lowAt (fun x : Entry => x.key) x.key l)
theorem putL_has {x y : Entry} {l : List Entry} (h : hasKey (fun x : Entry => x.key) x.key l = true) (hy : l[lowAt (fun x : Entry => x.key) x.key l]? = some y) : putL x l = l.set (lowAt (fun x : Entry => x.key) x.key l) { x with pins := y.pins } := by
  unfold putL; rw [if_pos h, hy]
theorem putL_no {x : Entry} {l : List Entry} (h : hasKey (fun x : Entry => x.key) x.key l = false) : putL x l = l.take (lowAt (fun x : Entry => x.key) x.key l) ++ x :: l.drop (lowAt (fun x : Entry => x.key) x.key l) := by
  unfold putL; rw [if_neg (by rw [h]; decide)]
/-- What a call that makes entries answers. -/
def EnRes (err : Int) (L : List Entry) (w : World) (e : Ending) (w' : World) : Prop := ∃ v', e = .returned (.tuple #[v', .int .i64 err]) ∧ RE w' v' (if err = 0 then L else []) ∧ Below w.heap.size w w'
theorem en_no {err n : Int} {L : List Entry} {w w' : World} (h : err = n) (hn : n ≠ 0) (hb : Below w.heap.size w w') : EnRes err L w (.returned (.tuple #[.slice none 0 0, .int .i64 n])) w' := by
  subst h
  exact ⟨_, rfl, by rw [if_neg hn]; exact RS.nil, hb⟩
theorem en_ok {err : Int} {L : List Entry} {w w' : World} {v' : Value} (h : err = 0) (hr : RE w' v' L) (hb : Below w.heap.size w w') : EnRes err L w (.returned (.tuple #[v', .int .i64 0])) w' := by
  subst h
  exact ⟨_, rfl, hr, hb⟩
def putErr (z z2 : Int) : Int := if z ≠ 0 then z else z2
theorem putErr_bad {z z2 : Int} (h : z ≠ 0) : putErr z z2 = z := if_pos h
theorem putErr_rest (z2 : Int) : putErr 0 z2 = z2 := rfl

theorem ins_all {α : Type} {Q : α → Prop} {l : List α} {i : Nat} {y : α} (h : ∀ x ∈ l, Q x) (hy : Q y) : ∀ x ∈ l.take i ++ y :: l.drop i, Q x := by
  intro x hx
  rcases List.mem_append.1 hx with hx | hx
  · exact h x (List.mem_of_mem_take hx)
  · rcases List.mem_cons.1 hx with rfl | hx
    · exact hy
    · exact h x (List.mem_of_mem_drop hx)
theorem ins_len {α : Type} {l : List α} {i : Nat} {y : α} (hi : i ≤ l.length) : (l.take i ++ y :: l.drop i).length = l.length + 1 := by
  rw [List.length_append, List.length_take, List.length_cons, List.length_drop, Nat.min_eq_left hi]; omega

/-- One entry of an owned row written whole. -/
theorem OEntry.put {w : World} {B g n cap i : Nat} {l : List Entry} {x y : Entry} {ca : Option Addr} {cc : Nat} (h : OEntry w B (.slice (some ⟨g, 0, none⟩) n cap) l) (hy : l[i]? = some y)
    (hcr : CO 102 3 cPart B w (.slice ca x.parts.length cc) x.parts) :
    OEntry ((((w.setCell ⟨g, i * 4, none⟩ (.string x.key)).setCell ⟨g, i * 4 + 1, none⟩ (.slice ca x.parts.length cc)).setCell ⟨g, i * 4 + 2, none⟩ (.int .i64 x.pins)).setCell ⟨g, i * 4 + 3, none⟩ (.int .i64 x.stamp)) B
      (.slice (some ⟨g, 0, none⟩) n cap) (l.set i x) := by
  obtain ⟨rs, rfl, h2, h3⟩ := h
  rw [List.getElem?_map] at hy
  obtain ⟨r, hr, rfl⟩ := Option.map_eq_some_iff.1 hy
  obtain ⟨cur, hcur⟩ := OS.owns h2
  have hil := (List.getElem?_eq_some_iff.1 hr).1
  have p1 := OS.put (o := 0) (x' := ⟨{ r.x with key := x.key }, r.a, r.c⟩) (u := .string x.key) h2 xcEntry_len hr (by decide) rfl
  have p2 := OS.put (o := 1) (x' := ⟨{ r.x with key := x.key, parts := x.parts }, ca, cc⟩) (u := .slice ca x.parts.length cc) p1 xcEntry_len (List.getElem?_set_self hil) (by decide) rfl
  have p3 := OS.put (o := 2) (x' := ⟨{ r.x with key := x.key, parts := x.parts, pins := x.pins }, ca, cc⟩) (u := .int .i64 x.pins) p2 xcEntry_len (List.getElem?_set_self (by rw [List.length_set]; exact hil)) (by decide) rfl
  have p4 := OS.put (o := 3) (x' := ⟨x, ca, cc⟩) (u := .int .i64 x.stamp) p3 xcEntry_len (List.getElem?_set_self (by rw [List.length_set, List.length_set]; exact hil)) (by decide) rfl
  rw [List.set_set, List.set_set, List.set_set] at p4
  rw [Nat.add_zero] at p4
  have kept : ∀ (W : World) (cs : Array Value) o u v l, W.heap[g]? = some (.cells cs 31 (0, 0)) → CO 102 3 cPart B W v l → CO 102 3 cPart B (W.setCell ⟨g, o, none⟩ u) v l :=
    fun W cs o u v l hc hC => World.ownsRow.kept (row := some g) hC ⟨rfl, rfl, rfl, by simp [World.setCell], fun k _ hk => Below.heap_setCell _ _ _ _ (fun e => hk (by simp [e]))⟩ (Or.inr (OS.block_ne hC hc (by decide)))
  obtain ⟨c1, hc1⟩ := OS.owns p1
  obtain ⟨c2, hc2⟩ := OS.owns p2
  obtain ⟨c3, hc3⟩ := OS.owns p3
  have all : ∀ v l, CO 102 3 cPart B w v l → CO 102 3 cPart B ((((w.setCell ⟨g, i * 4 + 0, none⟩ (.string x.key)).setCell ⟨g, i * 4 + 1, none⟩ (.slice ca x.parts.length cc)).setCell ⟨g, i * 4 + 2, none⟩ (.int .i64 x.pins)).setCell ⟨g, i * 4 + 3, none⟩ (.int .i64 x.stamp)) v l :=
    fun v l hC => kept _ _ _ _ _ _ hc3 (kept _ _ _ _ _ _ hc2 (kept _ _ _ _ _ _ hc1 (kept _ _ _ _ _ _ hcur hC)))
  refine ⟨rs.set i ⟨x, ca, cc⟩, by rw [List.map_set], p4, fun q hq => ?_⟩
  rcases List.mem_or_eq_of_mem_set hq with hq | rfl
  · exact all _ _ (h3 q hq)
  · exact all _ _ hcr
end Go.Proofs.Ytcbopanekmpllaa
