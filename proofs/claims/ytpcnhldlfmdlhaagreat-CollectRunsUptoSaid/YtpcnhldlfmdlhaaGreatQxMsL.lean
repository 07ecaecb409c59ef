/-
  What a step of a collector that marks answers.
-/
import Derived.Test.YtpcnhldlfmdlhaaGreatQxCnx
import Derived.Test.YtpcnhldlfmdlhaaGreatQxRtx
import Derived.Test.YtpcnhldlfmdlhaaGreatQxSkx
import Derived.OwnWalk
import Derived.Handy
import Derived.IntWalk
import Derived.Deep.RegionHeld3
import Derived.StillTactics
namespace Go.Proofs.YtpcnhldlfmdlhaaGreat
open Go.RowKit

/-- The digests that a blob's parts have. -/
def digsOf (x : Blob) : List ByteArray := (decParts x.data).1.map (·.digest)
theorem digs_small (x : Blob) : (digsOf x).length ≤ 8 ∧ ∀ y ∈ digsOf x, y.size ≤ 140737488351232 := by
  obtain ⟨h1, h2⟩ := decParts_len x.data
  unfold digsOf
  refine ⟨by rw [List.length_map]; exact h1, fun y hy => ?_⟩
  obtain ⟨p, hp, rfl⟩ := List.mem_map.1 hy
  exact h2 p hp
def mst (bs : List Blob) (gy : List ByteArray) : List Blob × Coll := match gy[0]? with
  | none => (bs, ⟨2, [], ⟨#[]⟩⟩)
  | some d => match bs[atKey (fun x : Blob => x.digest) d bs]? with
    | none => (bs, ⟨1, gy.drop 1, ⟨#[]⟩⟩)
    | some x => if x.mark = true then (bs, ⟨1, gy.drop 1, ⟨#[]⟩⟩) else (bs.set (atKey (fun x : Blob => x.digest) d bs) { x with mark := true }, ⟨1, addedL (gy.drop 1) (digsOf x), ⟨#[]⟩⟩)
theorem mst_nil {bs : List Blob} {gy : List ByteArray} (h : gy[0]? = none) : mst bs gy = (bs, ⟨2, [], ⟨#[]⟩⟩) := by unfold mst; rw [h]
theorem mst_none {bs : List Blob} {gy : List ByteArray} {d : ByteArray} (h : gy[0]? = some d) (h2 : bs[atKey (fun x : Blob => x.digest) d bs]? = none) : mst bs gy = (bs, ⟨1, gy.drop 1, ⟨#[]⟩⟩) := by unfold mst; rw [h]; simp only []; rw [h2]
theorem mst_mark {bs : List Blob} {gy : List ByteArray} {d : ByteArray} {x : Blob} (h : gy[0]? = some d) (h2 : bs[atKey (fun x : Blob => x.digest) d bs]? = some x) (hm : x.mark = true) : mst bs gy = (bs, ⟨1, gy.drop 1, ⟨#[]⟩⟩) := by
  unfold mst; rw [h]; simp only []; rw [h2]; simp only []; rw [if_pos hm]
theorem mst_new {bs : List Blob} {gy : List ByteArray} {d : ByteArray} {x : Blob} (h : gy[0]? = some d) (h2 : bs[atKey (fun x : Blob => x.digest) d bs]? = some x) (hm : x.mark = false) :
    mst bs gy = (bs.set (atKey (fun x : Blob => x.digest) d bs) { x with mark := true }, ⟨1, addedL (gy.drop 1) (digsOf x), ⟨#[]⟩⟩) := by
  unfold mst; rw [h]; simp only []; rw [h2]; simp only []; rw [if_neg (by rw [hm]; decide)]
/-- Every block of another kind than a blob's stays. -/
def KT (w w' : World) : Prop := ∀ (p : Nat) (cs : Array Value) (T : TypeId) (fr : Nat × Nat), w.heap[p]? = some (.cells cs T fr) → T ≠ 50 → w'.heap[p]? = some (.cells cs T fr)
theorem KT.of {w w' : World} (h : Below w.heap.size w w') : KT w w' := fun _ _ _ _ hp _ => (h.block _ (heap_lt hp)).trans hp
theorem KT.call {w w1 w' : World} (h : KT w w1) (hb : Below w1.heap.size w1 w') : KT w w' := fun p cs T fr hp hT => KT.of hb p cs T fr (h p cs T fr hp hT) hT
theorem KT.set {w w1 : World} {g o : Nat} {cs : Array Value} {fr : Nat × Nat} {u : Value} (h : KT w w1) (hg : w1.heap[g]? = some (.cells cs 50 fr)) : KT w (w1.setCell ⟨g, o, none⟩ u) := fun _ _ _ _ hp hT =>
  box_other (h _ _ _ _ hp hT) (ne_type hg (h _ _ _ _ hp hT) (fun e => hT e.symm))
theorem KT.new {w w1 : World} {q o : Nat} {u : Value} (h : KT w w1) (hq : w.heap.size ≤ q) : KT w (w1.setCell ⟨q, o, none⟩ u) := fun _ _ _ _ hp hT =>
  box_other (h _ _ _ _ hp hT) (by have := heap_lt hp; omega)
theorem KT.box4 {w w1 : World} {q : Nat} (h : KT w w1) (hq : w.heap.size ≤ q) (u0 u1 u2 u3 : Value) : KT w (World.box4 w1 q u0 u1 u2 u3) := (((h.new hq).new hq).new hq).new hq
theorem KT.box3 {w w1 : World} {q : Nat} (h : KT w w1) (hq : w.heap.size ≤ q) (u0 u1 u2 : Value) : KT w (World.box3 w1 q u0 u1 u2) := ((h.new hq).new hq).new hq
def StepPost (o : List Blob × Coll) (es : List Entry) (r t : Int) (B : Nat) (w : World) (e : Ending) (w' : World) : Prop :=
  ∃ v1 v2 gv, e = .returned (.tuple #[.agg #[v1, v2, .int .i64 r, .int .i64 t], .agg #[.int .i64 o.2.phase, gv, .string o.2.place]]) ∧ RBl w' v1 o.1 ∧ RE w' v2 es ∧ RT w' gv o.2.grey ∧ OS 9 1 cStr w' w.heap.size gv o.2.grey ∧ Below B w w' ∧ KT w w'
theorem stp_ok {o : List Blob × Coll} {k : Int} {s : ByteArray} {G : List ByteArray} {bs : List Blob} {es : List Entry} {r t : Int} {B : Nat} {v1 v2 gv : Value} {w w' : World} (h : o = (bs, ⟨k, G, s⟩)) (h1 : RBl w' v1 bs) (h2 : RE w' v2 es) (h3 : RT w' gv G) (h4 : OS 9 1 cStr w' w.heap.size gv G) (hb : Below B w w') (hk : KT w w') :
    StepPost o es r t B w (.returned (.tuple #[.agg #[v1, v2, .int .i64 r, .int .i64 t], .agg #[.int .i64 k, gv, .string s]])) w' := by
  subst h
  exact ⟨_, _, _, rfl, h1, h2, h3, h4, hb, hk⟩
def mkOut (z ph : Int) (bs : List Blob) (es : List Entry) (r t : Int) (gy : List ByteArray) : CoOut :=
  if z ≠ 0 then ⟨z, noStore, noColl⟩ else if ph ≠ 1 then ⟨11, noStore, noColl⟩ else ⟨0, ⟨(mst bs gy).1, es, r, t⟩, (mst bs gy).2⟩
theorem mk_bad {z ph : Int} {bs : List Blob} {es : List Entry} {r t : Int} {gy : List ByteArray} (h : z ≠ 0) : mkOut z ph bs es r t gy = ⟨z, noStore, noColl⟩ := if_pos h
theorem mk_idle {ph : Int} {bs : List Blob} {es : List Entry} {r t : Int} {gy : List ByteArray} (h : ph ≠ 1) : mkOut 0 ph bs es r t gy = ⟨11, noStore, noColl⟩ := by unfold mkOut; rw [if_neg (by simp), if_pos h]
theorem mk_ok {bs : List Blob} {es : List Entry} {r t : Int} {gy : List ByteArray} : mkOut 0 1 bs es r t gy = ⟨0, ⟨(mst bs gy).1, es, r, t⟩, (mst bs gy).2⟩ := by unfold mkOut; rw [if_neg (by simp), if_neg (by simp)]
theorem bB_box4 {B : Nat} {w W : World} (h : Below B w W) {q : Nat} (hq : B ≤ q) (u0 u1 u2 u3 : Value) : Below B w (World.box4 W q u0 u1 u2 u3) :=
  (((h.setCell (p := ⟨q, 0, none⟩) hq u0).setCell (p := ⟨q, 1, none⟩) hq u1).setCell (p := ⟨q, 2, none⟩) hq u2).setCell (p := ⟨q, 3, none⟩) hq u3
theorem bB_box3 {B : Nat} {w W : World} (h : Below B w W) {q : Nat} (hq : B ≤ q) (u0 u1 u2 : Value) : Below B w (World.box3 W q u0 u1 u2) :=
  ((h.setCell (p := ⟨q, 0, none⟩) hq u0).setCell (p := ⟨q, 1, none⟩) hq u1).setCell (p := ⟨q, 2, none⟩) hq u2
theorem drop_sizes {l : List ByteArray} (h : ∀ s ∈ l, s.size ≤ 140737488351232) (k : Nat) : ∀ s ∈ l.drop k, s.size ≤ 140737488351232 := fun s hs => h s (List.mem_of_mem_drop hs)
theorem mark_fit {bs : List Blob} {x : Blob} {i : Nat} (h : ∀ x ∈ bs, FitBlob x) (hx : bs[i]? = some x) : ∀ y ∈ bs.set i { x with mark := true }, FitBlob y := set_all h (show FitBlob { x with mark := true } from h x (List.mem_of_getElem? hx))
theorem reach_PartsD (x : Blob) (dv : Value) (w : World) (h : RB w dv x.data) :
    Calls Tryz.prog 108 #[.agg #[.string x.digest, dv, .int .i64 x.pins, .bool x.mark]] w fun e w' => ∃ v', e = .returned v' ∧ OS 9 1 cStr w' w.heap.size v' (digsOf x) ∧ Below w.heap.size w w' :=
  reach_Parts' x dv w h (decParts x.data).1 (decParts x.data).2 (fun w g => manifest_Decode dv x.data w g)
theorem ref_PartsInD (x : Blob) (dv : Value) (w : World) (h : RB w dv x.data) :
    Calls Tryz.prog 122 #[.agg #[.string x.digest, dv, .int .i64 x.pins, .bool x.mark]] w fun e w' => ∃ v', e = .returned v' ∧ OS 9 1 cStr w' w.heap.size v' (digsOf x) ∧ Below w.heap.size w w' :=
  ref_PartsIn' x dv w h (decParts x.data).1 (decParts x.data).2 (fun w g => ref_PartsOf dv x.data w g)
end Go.Proofs.YtpcnhldlfmdlhaaGreat
