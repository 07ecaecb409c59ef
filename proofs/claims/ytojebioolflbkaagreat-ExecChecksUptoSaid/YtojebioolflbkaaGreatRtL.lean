/-
  What a store holds on to: the digests that its entries have and those of blobs that are pinned, each once, sorted.
-/
import Derived.Test.YtojebioolflbkaaGreatSkw
import Derived.Test.YtojebioolflbkaaGreatSkr
import Derived.Test.YtojebioolflbkaaGreatOpn
namespace Go.Proofs.YtojebioolflbkaaGreat
open Go.RowKit Go.Maps

/-- Digests met one by one, each once. -/
def metOf (D : List ByteArray) : List ByteArray := D.foldl addS []
theorem foldl_addS : ∀ (D M : List ByteArray), M.Nodup → (D.foldl addS M).Nodup ∧ (∀ x, x ∈ D.foldl addS M ↔ x ∈ M ∨ x ∈ D) ∧ (D.foldl addS M).length ≤ M.length + D.length
  | [], M, h => ⟨h, fun x => by simp, by simp⟩
  | d :: D, M, h => by
    obtain ⟨h1, h2, h3⟩ := foldl_addS D (addS M d) (addS_nodup h)
    have h4 := addS_len M d
    refine ⟨h1, fun x => ?_, ?_⟩
    · show x ∈ D.foldl addS (addS M d) ↔ _
      rw [h2 x, addS_mem, List.mem_cons, or_assoc]
    · show (D.foldl addS (addS M d)).length ≤ _
      simp only [List.length_cons]
      omega
theorem metOf_nodup (D : List ByteArray) : (metOf D).Nodup := (foldl_addS D [] List.nodup_nil).1
theorem metOf_mem (D : List ByteArray) (x : ByteArray) : x ∈ metOf D ↔ x ∈ D := by
  have h := (foldl_addS D [] List.nodup_nil).2.1 x
  unfold metOf
  rw [h]
  simp
theorem metOf_len (D : List ByteArray) : (metOf D).length ≤ D.length := by
  have h := (foldl_addS D [] List.nodup_nil).2.2
  simpa [metOf] using h
theorem metOf_add (D : List ByteArray) (d : ByteArray) : metOf (D ++ [d]) = addS (metOf D) d := by
  unfold metOf
  rw [List.foldl_append]
  rfl
def entD (x : Entry) : List ByteArray := x.parts.map (·.digest)
def entsD (es : List Entry) : List ByteArray := es.flatMap entD
def heldD (bs : List Blob) : List ByteArray := (bs.filter (fun x => decide (0 < x.pins))).map (·.digest)
theorem entsD_next {es : List Entry} {j : Nat} {x : Entry} (h : es.take (j + 1) = es.take j ++ [x]) : entsD (es.take (j + 1)) = entsD (es.take j) ++ entD x := by
  unfold entsD
  rw [h, List.flatMap_append]
  simp
theorem heldD_yes {bs : List Blob} {j : Nat} {x : Blob} (h : bs.take (j + 1) = bs.take j ++ [x]) (hp : 0 < x.pins) : heldD (bs.take (j + 1)) = heldD (bs.take j) ++ [x.digest] := by
  unfold heldD
  rw [h, List.filter_append]
  simp [hp]
theorem heldD_no {bs : List Blob} {j : Nat} {x : Blob} (h : bs.take (j + 1) = bs.take j ++ [x]) (hp : ¬ 0 < x.pins) : heldD (bs.take (j + 1)) = heldD (bs.take j) := by
  unfold heldD
  rw [h, List.filter_append]
  simp [hp]
theorem heldD_len (bs : List Blob) : (heldD bs).length ≤ bs.length := by
  unfold heldD
  rw [List.length_map]
  exact List.length_filter_le _ _
theorem entsD_len (es : List Entry) : (entsD es).length = (es.map (fun x => x.parts.length)).sum := by
  unfold entsD
  rw [List.length_flatMap]
  congr 1
  refine List.map_congr_left fun x _ => ?_
  unfold entD
  rw [List.length_map]
theorem entsD_take (es : List Entry) (j : Nat) : (entsD (es.take j)).length ≤ (entsD es).length := by
  have h : entsD es = entsD (es.take j) ++ entsD (es.drop j) := by
    unfold entsD
    rw [← List.flatMap_append, List.take_append_drop]
  rw [h, List.length_append]
  omega
/-- The roots of a store. -/
def rootsL (bs : List Blob) (es : List Entry) : List ByteArray := risingL (heldD bs ++ entsD es)
theorem roots_sort (bs : List Blob) (es : List Entry) : sortS (metOf (entsD es ++ heldD bs)) = rootsL bs es :=
  risingL_eq (fun x => by rw [metOf_mem, List.mem_append, List.mem_append, or_comm]) (metOf_nodup _)
theorem rootsL_mem (bs : List Blob) (es : List Entry) (x : ByteArray) : x ∈ rootsL bs es ↔ x ∈ heldD bs ∨ x ∈ entsD es := by
  rw [← roots_sort, sortS_mem, metOf_mem, List.mem_append, or_comm]
/-- How many blobs and parts a store has. -/
def bulkN (bs : List Blob) (es : List Entry) : Nat := bs.length + (es.map (fun x => x.parts.length)).sum
theorem rootsL_len (bs : List Blob) (es : List Entry) : (rootsL bs es).length ≤ bulkN bs es := by
  rw [← roots_sort, sortS_len]
  have h1 := metOf_len (entsD es ++ heldD bs)
  have h2 := heldD_len bs
  have h3 := entsD_len es
  rw [List.length_append] at h1
  unfold bulkN
  omega
theorem digs_size {bs : List Blob} {es : List Entry} (hb : ∀ x ∈ bs, FitBlob x) (he : ∀ x ∈ es, FitEntry x) : ∀ x ∈ heldD bs ++ entsD es, x.size ≤ 140737488351232 := fun x hx => by
  rcases List.mem_append.1 hx with h | h
  · obtain ⟨y, hy, rfl⟩ := List.mem_map.1 h
    exact (hb y (List.mem_filter.1 hy).1).1.1
  · obtain ⟨y, hy, h2⟩ := List.mem_flatMap.1 h
    obtain ⟨p, hp, rfl⟩ := List.mem_map.1 h2
    exact ((he y hy).2.2 p hp).2.1
theorem rootsL_size {bs : List Blob} {es : List Entry} (hb : ∀ x ∈ bs, FitBlob x) (he : ∀ x ∈ es, FitEntry x) : ∀ x ∈ rootsL bs es, x.size ≤ 140737488351232 := fun x hx =>
  digs_size hb he x (List.mem_append.2 ((rootsL_mem bs es x).1 hx))
/-- Block b holds a map of the texts that were met one by one. -/
def MetD (w : World) (b : Nat) (L : List ByteArray) : Prop := ∃ D : DataW Unit, w.ownsMap Tryz.prog 9 (plainElem Tryz.prog 4) b L.length D ∧ SeenS D (metOf L)
theorem MetD.after {w w' : World} {b : Nat} {L : List ByteArray} (h : MetD w b L) (hb : Below w.heap.size w w') : MetD w' b L := by
  obtain ⟨D, h1, h2⟩ := h
  exact ⟨D, h1.kept (row := none) (below_grown hb none) (by simp), h2⟩
theorem MetD.made (w : World) : MetD (w.alloc (.map #[] 0)) w.heap.size [] := ⟨.map [], World.ownsMap_made w _ _ _, SeenS.nil⟩
theorem MetD.put {w' : World} {b : Nat} {L : List ByteArray} {s : ByteArray} {D : DataW Unit} (hs : SeenS D (metOf L)) (h : w'.ownsMap Tryz.prog 9 (plainElem Tryz.prog 4) b (L.length + 1) (D.put (.string s.data.toList) (.lit (.bool true)))) : MetD w' b (L ++ [s]) :=
  ⟨_, by rw [List.length_append]; exact h, by rw [metOf_add]; exact hs.put (metOf_nodup _)⟩
theorem sorted_ofD (b : Nat) (L : List ByteArray) (w : World) (h : MetD w b L) (hl : L.length * 16 ≤ 140737488351232) :
    Calls Tryz.prog 88 #[.func (.func 137) #[] #[.pointer (some ⟨w.heap.size, 0, none⟩)]] (w.alloc (.cells #[.map (some b)] 102)) fun e w' =>
      ∃ v, e = .returned v ∧ OS 9 1 cStr w' (w.alloc (.cells #[.map (some b)] 102)).heap.size v (sortS (metOf L)) ∧ Below (w.alloc (.cells #[.map (some b)] 102)).heap.size (w.alloc (.cells #[.map (some b)] 102)) w' := by
  obtain ⟨D, h1, h2⟩ := h
  have hz := h2.size
  have hml := metOf_len L
  refine (callsIn_wide.1 (Tryz.slices_Sorted_keys_88_89 b L.length D _ w h1 (by rw [hz]; unfold maxLen; omega) (by rw [hz]; omega))).mono ?_
  rintro e w' ⟨v, ss, rfl, hp, hrow, -, hb⟩
  refine ⟨v, rfl, ?_, hb⟩
  have hs := h2.sorted hp
  have hlen : ss.length = (sortS (metOf L)).length := by
    have := congrArg List.length hs
    rw [List.length_mergeSort, List.length_map] at this
    exact this
  have e2 := congrArg (List.map Go.Proofs.encStr) hs
  rw [map_str] at e2
  unfold OS
  rw [← hlen, ← e2]
  exact hrow
def RootsPost (bs : List Blob) (es : List Entry) (w : World) (e : Ending) (w' : World) : Prop :=
  ∃ v, e = .returned v ∧ RT w' v (rootsL bs es) ∧ OS 9 1 cStr w' w.heap.size v (rootsL bs es) ∧ Below w.heap.size w w'
theorem rs_at {α : Type} {s bs : Nat} {E : World → Nat → Nat → α → Prop} {w : World} {a : Option Addr} {n c : Nat} {l : List α} (h : RS s bs E w (.slice a n c) l) {j : Nat} {x : α} (hj : l[j]? = some x) : ∃ b off, a = some ⟨b, off, none⟩ ∧ b < w.heap.size ∧ E w b (off + j * s) x := by
  obtain ⟨_, _, hv, _, _, _, _, hat⟩ := h
  simp only [Value.slice.injEq] at hv
  obtain ⟨rfl, -, -⟩ := hv
  exact hat j x hj
end Go.Proofs.YtojebioolflbkaaGreat
