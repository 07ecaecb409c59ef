/-
  store.have and the reference's partsThere: are all parts there, of their sizes? What is wrong with a store: store.Check and the reference's StoreFault. Printed by gen_sto2.py.
-/
import Derived.Test.YtojebioolflbkaaKB
import Derived.Test.YtojebioolflbkaaRom
import Derived.Test.YtojebioolflbkaaBlb
import Derived.BigQuiet
import Derived.Deep.RegionHeld3
import Derived.StillTactics
import Derived.Handy
namespace Go.Proofs.Ytojebioolflbkaa
open Go.RowKit

def thereOne (l : List Blob) (p : Part) : Int := match l[atKey (·.digest) p.digest l]? with | none => 5 | some b => if (b.data.length : Int) = p.size then 0 else 4
/-- What is wrong with parts, as to the blobs that they name. -/
def thereFault (l : List Blob) : List Part → Int
  | [] => 0
  | p :: r => if thereOne l p = 0 then thereFault l r else thereOne l p
theorem there_step {l : List Blob} {ps : List Part} {k : Nat} {p : Part} {z : Int} (h : z = thereFault l (ps.drop k)) (hp : ps[k]? = some p) (h0 : thereOne l p = 0) : z = thereFault l (ps.drop (k + 1)) := by
  obtain ⟨hk, rfl⟩ := List.getElem?_eq_some_iff.1 hp
  rw [h, List.drop_eq_getElem_cons hk, thereFault, if_pos h0]
theorem there_stop {l : List Blob} {ps : List Part} {k : Nat} {p : Part} {z n : Int} (h : z = thereFault l (ps.drop k)) (hp : ps[k]? = some p) (h0 : thereOne l p = n) (hn : n ≠ 0) : z = n := by
  obtain ⟨hk, rfl⟩ := List.getElem?_eq_some_iff.1 hp
  rw [h, List.drop_eq_getElem_cons hk, thereFault, if_neg (by rw [h0]; exact hn), h0]
theorem there_end {l : List Blob} {ps : List Part} {z : Int} (h : z = thereFault l (ps.drop ps.length)) : z = 0 := by rw [h, List.drop_length]; rfl

end Go.Proofs.Ytojebioolflbkaa

namespace Go.Proofs.Ytojebioolflbkaa
open Go.RowKit

/-- What is wrong with entries, as to a store's blobs and clock. -/
def entsFault (bs : List Blob) (t : Int) : List Entry → Int
  | [] => 0
  | x :: r => if t < x.stamp ∨ thereFault bs x.parts ≠ 0 then 12 else entsFault bs t r
theorem ents_step {bs : List Blob} {t z : Int} {es : List Entry} {k : Nat} {x : Entry} (h : z = entsFault bs t (es.drop k)) (hx : es[k]? = some x) (h1 : ¬ t < x.stamp) (h2 : thereFault bs x.parts = 0) : z = entsFault bs t (es.drop (k + 1)) := by
  obtain ⟨hk, rfl⟩ := List.getElem?_eq_some_iff.1 hx
  rw [h, List.drop_eq_getElem_cons hk, entsFault, if_neg (fun g => g.elim (fun g => h1 g) (fun g => g h2))]
theorem ents_stop {bs : List Blob} {t z : Int} {es : List Entry} {k : Nat} {x : Entry} (h : z = entsFault bs t (es.drop k)) (hx : es[k]? = some x) (h1 : t < x.stamp ∨ thereFault bs x.parts ≠ 0) : z = 12 := by
  obtain ⟨hk, rfl⟩ := List.getElem?_eq_some_iff.1 hx
  rw [h, List.drop_eq_getElem_cons hk, entsFault, if_pos h1]
theorem ents_end {bs : List Blob} {t z : Int} {es : List Entry} (h : z = entsFault bs t (es.drop es.length)) : z = 0 := by rw [h, List.drop_length]; rfl

def badClock (t : Int) : Prop := t < 0 ∨ 1099511627776 < t
instance (t : Int) : Decidable (badClock t) := inferInstanceAs (Decidable (t < 0 ∨ 1099511627776 < t))
/-- What is wrong with the room: out of range, or too little. -/
def roomFault (bs : List Blob) (r : Int) : Int := if r < 0 ∨ 4000 < r then 4 else if r < used bs then 7 else 0
/-- What is wrong with a store. -/
def storeFault (bs : List Blob) (es : List Entry) (r t : Int) : Int :=
  if blobsFault bs ≠ 0 then blobsFault bs else if entriesFault es ≠ 0 then entriesFault es else if roomFault bs r ≠ 0 then roomFault bs r else if badClock t then 4 else entsFault bs t es
instance (a b : Int) : Decidable (inRoom a b) := by unfold inRoom; infer_instance
/-- What room.Fits answers. -/
def fitsV (bs : List Blob) (r : Int) : Int := if inRoom r 0 then (if lackV bs r 0 = 0 then 0 else 7) else 4
theorem wrap64_in' {n : Int} (h0 : -9223372036854775808 ≤ n) (h1 : n ≤ 9223372036854775807) : wrap64 n = n := by unfold wrap64; omega
theorem used_small : ∀ (l : List Blob) (n : Int), (∀ x ∈ l, x.data.length ≤ 300) → 0 ≤ n → n + 300 * (l.length : Int) ≤ 1000000 →
    0 ≤ l.foldl (fun n b => wrap64 (n + (b.data.length : Int))) n ∧ l.foldl (fun n b => wrap64 (n + (b.data.length : Int))) n ≤ 1000000
  | [], n, _, h0, h1 => by simp at h1 ⊢; omega
  | x :: l, n, hx, h0, h1 => by
    have h3 := hx x (List.mem_cons_self ..)
    simp only [List.length_cons] at h1
    rw [List.foldl_cons, wrap64_in' (by omega) (by omega)]
    exact used_small l _ (fun y hy => hx y (List.mem_cons_of_mem _ hy)) (by omega) (by omega)
theorem used_of {bs : List Blob} (h : blobsFault bs = 0) : 0 ≤ used bs ∧ used bs ≤ 1000000 := by
  unfold blobsFault at h
  split at h
  · cases h
  · refine used_small bs 0 (fun x hx => ?_) (Int.le_refl _) (by omega)
    obtain ⟨w.heap.size, hq⟩ := fault_all h x hx
    unfold blobFault at hq
    split at hq
    · rename_i h1; exact (blobErr_zero h1).2.1
    · rename_i h1; exact absurd hq h1
theorem fits_room {bs : List Blob} {r : Int} (h : blobsFault bs = 0) : fitsV bs r = roomFault bs r := by
  obtain ⟨u0, u1⟩ := used_of h
  unfold fitsV roomFault
  by_cases hr : r < 0 ∨ 4000 < r
  · rw [if_pos hr, if_neg (by unfold inRoom; omega)]
  · rw [if_neg hr, if_pos (by unfold inRoom; omega)]
    unfold lackV
    rw [wrap64_in' (n := used bs + 0) (by omega) (by omega), wrap64_in' (by omega) (by omega)]
    split <;> split <;> split <;> omega
section
variable {bs : List Blob} {es : List Entry} {r t : Int}
theorem st1 (h : blobsFault bs ≠ 0) : storeFault bs es r t = blobsFault bs := by unfold storeFault; rw [if_pos h]
theorem st2 (h : blobsFault bs = 0) (h2 : entriesFault es ≠ 0) : storeFault bs es r t = entriesFault es := by unfold storeFault; rw [if_neg (not_not_intro h), if_pos h2]
theorem st3 (h : blobsFault bs = 0) (h2 : entriesFault es = 0) (h3 : roomFault bs r ≠ 0) : storeFault bs es r t = roomFault bs r := by unfold storeFault; rw [if_neg (not_not_intro h), if_neg (not_not_intro h2), if_pos h3]
theorem st4 (h : blobsFault bs = 0) (h2 : entriesFault es = 0) (h3 : roomFault bs r = 0) (h4 : badClock t) : storeFault bs es r t = 4 := by unfold storeFault; rw [if_neg (not_not_intro h), if_neg (not_not_intro h2), if_neg (not_not_intro h3), if_pos h4]
theorem st5 (h : blobsFault bs = 0) (h2 : entriesFault es = 0) (h3 : roomFault bs r = 0) (h4 : ¬ badClock t) : storeFault bs es r t = entsFault bs t (es.drop 0) := by unfold storeFault; rw [if_neg (not_not_intro h), if_neg (not_not_intro h2), if_neg (not_not_intro h3), if_neg h4]; rfl
end
theorem box4f {w : World} {b : Nat} {c0 c1 c2 c3 : Value} {T : TypeId} (h : w.heap[b]? = some (.cells #[c0, c1, c2, c3] T (0, 0))) : w.cell? ⟨b, 0, none⟩ = some c0 ∧ w.cell? ⟨b, 1, none⟩ = some c1 ∧ w.cell? ⟨b, 2, none⟩ = some c2 ∧ w.cell? ⟨b, 3, none⟩ = some c3 :=
  ⟨cell_of_row _ _ 0 _ _ _ h, cell_of_row _ _ 1 _ _ _ h, cell_of_row _ _ 2 _ _ _ h, cell_of_row _ _ 3 _ _ _ h⟩

theorem rf_bad {bs : List Blob} {r : Int} (h : r < 0 ∨ 4000 < r) : roomFault bs r = 4 := if_pos h
theorem rf_full {bs : List Blob} {r : Int} (h : ¬ (r < 0 ∨ 4000 < r)) (h2 : r < used bs) : roomFault bs r = 7 := by unfold roomFault; rw [if_neg h, if_pos h2]
theorem rf_ok {bs : List Blob} {r : Int} (h : ¬ (r < 0 ∨ 4000 < r)) (h2 : ¬ r < used bs) : roomFault bs r = 0 := by unfold roomFault; rw [if_neg h, if_neg h2]
end Go.Proofs.Ytojebioolflbkaa
