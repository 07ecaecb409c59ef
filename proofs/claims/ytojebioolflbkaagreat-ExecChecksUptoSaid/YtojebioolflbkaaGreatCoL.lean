/-
  What a step of a collector answers; blobs whose marks are taken away one by one; a whole store is small.
-/
import Derived.Test.YtojebioolflbkaaGreatRtL
import Derived.Test.YtojebioolflbkaaGreatOpC
import Derived.Test.YtojebioolflbkaaGreatMkL
import Derived.Test.YtojebioolflbkaaGreatSwL
namespace Go.Proofs.YtojebioolflbkaaGreat
open Go.RowKit

theorem ents_small {es : List Entry} (h : ∀ x ∈ es, x.parts.length ≤ 8) : (es.map (fun x => x.parts.length)).sum ≤ es.length * 8 := by
  induction es with
  | nil => simp
  | cons x l ih =>
    have h1 := h x List.mem_cons_self
    have h2 := ih (fun y hy => h y (List.mem_cons_of_mem _ hy))
    simp only [List.map_cons, List.sum_cons, List.length_cons]
    omega
theorem store_zero {bs : List Blob} {es : List Entry} {r t : Int} (h : storeFault bs es r t = 0) : blobsFault bs = 0 ∧ entriesFault es = 0 := by
  by_cases h1 : blobsFault bs = 0
  · by_cases h2 : entriesFault es = 0
    · exact ⟨h1, h2⟩
    · rw [st2 h1 h2] at h; exact absurd h h2
  · rw [st1 h1] at h; exact absurd h h1
theorem store_small {bs : List Blob} {es : List Entry} {r t : Int} (h : storeFault bs es r t = 0) : bs.length ≤ 24 ∧ es.length ≤ 10 ∧ bulkN bs es ≤ 104 := by
  obtain ⟨h1, h2⟩ := store_zero h
  have hb : bs.length ≤ 24 := by
    by_cases h3 : 24 < bs.length
    · rw [blobsFault_long h3] at h1; cases h1
    · omega
  have he : es.length ≤ 10 := by
    by_cases h3 : 10 < es.length
    · rw [entriesFault_long h3] at h2; cases h2
    · omega
  have hp : ∀ x ∈ es, x.parts.length ≤ 8 := fun x hx => by
    rw [entriesFault_short (by omega)] at h2
    obtain ⟨q, hq⟩ := fault_all (show faultFrom entryFault none es = 0 from h2) x hx
    exact (partsFault_zero (entryFault_zero hq).2.2.1).1
  have := ents_small hp
  refine ⟨hb, he, ?_⟩
  unfold bulkN
  omega
/-- A blob without its mark. -/
def umk (x : Blob) : Blob := { x with mark := false }
def umkTo (k : Nat) (bs : List Blob) : List Blob := (bs.take k).map umk ++ bs.drop k
theorem umkTo_len (k : Nat) (bs : List Blob) : (umkTo k bs).length = bs.length := by
  unfold umkTo
  rw [List.length_append, List.length_map, List.length_take, List.length_drop]
  omega
theorem umkTo_zero (bs : List Blob) : umkTo 0 bs = bs := by unfold umkTo; simp
theorem umkTo_all (bs : List Blob) : umkTo bs.length bs = bs.map umk := by unfold umkTo; simp
theorem umkTo_at {k : Nat} {bs : List Blob} {x : Blob} (h : bs[k]? = some x) : (umkTo k bs)[k]? = some x := by
  have hk := (List.getElem?_eq_some_iff.1 h).1
  unfold umkTo
  rw [List.getElem?_append_right (by rw [List.length_map, List.length_take]; omega), List.length_map, List.length_take, Nat.min_eq_left (by omega), Nat.sub_self, List.getElem?_drop]
  exact h
theorem umkTo_set {k : Nat} {bs : List Blob} {x : Blob} (h : bs[k]? = some x) : (umkTo k bs).set k { x with mark := false } = umkTo (k + 1) bs := by
  obtain ⟨hk, hx⟩ := List.getElem?_eq_some_iff.1 h
  unfold umkTo
  have hl : ((bs.take k).map umk).length = k := by rw [List.length_map, List.length_take]; omega
  rw [List.set_append_right _ _ (by omega), hl, Nat.sub_self, List.drop_eq_getElem_cons hk, List.set_cons_zero, List.take_succ_eq_append_getElem hk, List.map_append, List.append_assoc, hx]
  rfl
theorem umk_fit {bs : List Blob} (h : ∀ x ∈ bs, FitBlob x) : ∀ x ∈ bs.map umk, FitBlob x := fun x hx => by
  obtain ⟨y, hy, rfl⟩ := List.mem_map.1 hx
  exact h y hy
structure CoOut where
  err : Int
  store : Store
  coll : Coll
def noColl : Coll := ⟨0, [], ⟨#[]⟩⟩
def CoRes (o : CoOut) (w : World) (e : Ending) (w' : World) : Prop :=
  ∃ v gv, e = .returned (.tuple #[v, .agg #[.int .i64 o.coll.phase, gv, .string o.coll.place], .int .i64 o.err]) ∧ VS w' v o.store ∧ RT w' gv o.coll.grey ∧ Below w.heap.size w w'
theorem co_no {o : CoOut} {n : Int} {w w' : World} (h : o = ⟨n, noStore, noColl⟩) (hb : Below w.heap.size w w') :
    CoRes o w (.returned (.tuple #[.agg #[.slice none 0 0, .slice none 0 0, .int .i64 0, .int .i64 0], .agg #[.int .i64 0, .slice none 0 0, .string ⟨#[]⟩], .int .i64 n])) w' := by
  subst h
  exact ⟨_, _, rfl, ⟨_, _, rfl, RS.nil, RS.nil⟩, RS.nil, hb⟩
theorem co_ok {o : CoOut} {k : Int} {s : ByteArray} {G : List ByteArray} {bs : List Blob} {es : List Entry} {r t : Int} {v1 v2 gv : Value} {w w' : World} (h : o = ⟨0, ⟨bs, es, r, t⟩, ⟨k, G, s⟩⟩) (h1 : RBl w' v1 bs) (h2 : RE w' v2 es) (h3 : RT w' gv G) (hb : Below w.heap.size w w') :
    CoRes o w (.returned (.tuple #[.agg #[v1, v2, .int .i64 r, .int .i64 t], .agg #[.int .i64 k, gv, .string s], .int .i64 0])) w' := by
  subst h
  exact ⟨_, _, rfl, ⟨v1, v2, rfl, h1, h2⟩, h3, hb⟩
/-- Beginning to collect. -/
def begOut (z : Int) (bs : List Blob) (es : List Entry) (r t : Int) : CoOut := if z ≠ 0 then ⟨z, noStore, noColl⟩ else ⟨0, ⟨bs.map umk, es, r, t⟩, ⟨1, rootsL bs es, ⟨#[]⟩⟩⟩
theorem beg_bad {z : Int} {bs : List Blob} {es : List Entry} {r t : Int} (h : z ≠ 0) : begOut z bs es r t = ⟨z, noStore, noColl⟩ := if_pos h
theorem beg_ok {bs : List Blob} {es : List Entry} {r t : Int} : begOut 0 bs es r t = ⟨0, ⟨bs.map umk, es, r, t⟩, ⟨1, rootsL bs es, ⟨#[]⟩⟩⟩ := if_neg (by simp)
theorem ne_type {w : World} {p g : Nat} {cs cs' : Array Value} {T T' : TypeId} {fr fr' : Nat × Nat} (h : w.heap[g]? = some (.cells cs T fr)) (h' : w.heap[p]? = some (.cells cs' T' fr')) (hT : T ≠ T') : p ≠ g := by
  rintro rfl
  rw [h] at h'
  simp only [Option.some.injEq, Obj.cells.injEq] at h'
  exact hT h'.2.1
theorem EStr.write {w : World} {p q : Nat} {u : Value} (hp : SBox w p) {b o : Nat} {x : ByteArray} (h : EStr w b o x) : EStr (w.setCell ⟨p, q, none⟩ u) b o x := ⟨(cell_apart (hp.str h.1)).trans h.1, h.2⟩
theorem EStr.writes : ∀ (w : World) (p q : Nat) (u : Value), SBox w p → ∀ b o x, EStr w b o x → EStr (w.setCell ⟨p, q, none⟩ u) b o x := fun _ _ _ _ h _ _ _ => EStr.write h
theorem OS.boxS4 {w : World} {B q : Nat} {v a b c d u0 u1 u2 u3 : Value} {l : List ByteArray} {T : TypeId} (h : OS 9 1 cStr w B v l) (hq : w.heap[q]? = some (.cells #[a, b, c, d] T (0, 0))) (hT : T ≠ 9) : OS 9 1 cStr (World.box4 w q u0 u1 u2 u3) B v l :=
  OS.other (OS.other (OS.other (OS.other h hq hT) (box4_0 hq) hT) (box4_1 (box4_0 hq)) hT) (box4_2 (box4_1 (box4_0 hq))) hT
theorem OS.boxS3 {w : World} {B q : Nat} {v a b c u0 u1 u2 : Value} {l : List ByteArray} {T : TypeId} (h : OS 9 1 cStr w B v l) (hq : w.heap[q]? = some (.cells #[a, b, c] T (0, 0))) (hT : T ≠ 9) : OS 9 1 cStr (World.box3 w q u0 u1 u2) B v l :=
  OS.other (OS.other (OS.other h hq hT) (box3_0 hq) hT) (box3_1 (box3_0 hq)) hT
theorem rt_sizes {w : World} {v : Value} {l : List ByteArray} (h : RT w v l) : ∀ x ∈ l, x.size ≤ 140737488351232 := fun x hx => by
  obtain ⟨i, hi⟩ := List.getElem?_of_mem hx
  obtain ⟨_, _, _, _, _, _, _, hat⟩ := h
  obtain ⟨_, _, _, _, he⟩ := hat i x hi
  exact he.2
theorem rt_bound {w : World} {v : Value} {l : List ByteArray} (h : RT w v l) : l.length * 16 ≤ 140737488351232 := by
  obtain ⟨_, _, _, _, _, hre, _⟩ := h
  exact hre
end Go.Proofs.YtojebioolflbkaaGreat
