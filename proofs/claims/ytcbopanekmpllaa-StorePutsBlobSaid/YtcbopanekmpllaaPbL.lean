/-
  What putting bytes into a store answers. Printed by gen_pbl.py.
-/
import Derived.Test.YtcbopanekmpllaaWrt
import Derived.Test.YtcbopanekmpllaaBpL
namespace Go.Proofs.Ytcbopanekmpllaa
open Go.RowKit

/-- What is wrong with putting bytes into a store: z with the store, e with its blobs; or there is no room. -/
def pblE (z e : Int) (L : List Blob) (r : Int) : Int := if z ≠ 0 then z else if e ≠ 0 then e else if r < used L then 7 else 0
section
variable {z e r : Int} {L : List Blob}
theorem pblE_bad (h : z ≠ 0) : pblE z e L r = z := if_pos h
theorem pblE_put (h : e ≠ 0) : pblE 0 e L r = e := by unfold pblE; rw [if_neg (by simp), if_pos h]
theorem pblE_full (h : r < used L) : pblE 0 0 L r = 7 := by unfold pblE; rw [if_neg (by simp), if_neg (by simp), if_pos h]
theorem pblE_ok (h : ¬ r < used L) : pblE 0 0 L r = 0 := by unfold pblE; rw [if_neg (by simp), if_neg (by simp), if_neg h]
end
def PbRes (err : Int) (d : ByteArray) (S : Store) (w : World) (e : Ending) (w' : World) : Prop :=
  ∃ v, e = .returned (.tuple #[v, .string (if err = 0 then d else ⟨#[]⟩), .int .i64 err]) ∧ VS w' v (if err = 0 then S else noStore) ∧ Below w.heap.size w w'
theorem pb_no {err n : Int} {d : ByteArray} {S : Store} {w w' : World} (h : err = n) (hn : n ≠ 0) (hb : Below w.heap.size w w') :
    PbRes err d S w (.returned (.tuple #[.agg #[.slice none 0 0, .slice none 0 0, .int .i64 0, .int .i64 0], .string ⟨#[]⟩, .int .i64 n])) w' := by
  subst h
  exact ⟨_, by rw [if_neg hn], ⟨_, _, by rw [if_neg hn]; rfl, by rw [if_neg hn]; exact RS.nil, by rw [if_neg hn]; exact RS.nil⟩, hb⟩
theorem pb_ok {err : Int} {d : ByteArray} {w w' : World} {v1 v2 : Value} {L : List Blob} {es : List Entry} {r t : Int} (h : err = 0) (h1 : RBl w' v1 L) (h2 : RE w' v2 es) (hb : Below w.heap.size w w') :
    PbRes err d ⟨L, es, r, t⟩ w (.returned (.tuple #[.agg #[v1, v2, .int .i64 r, .int .i64 t], .string d, .int .i64 0])) w' := by
  subst h
  exact ⟨_, rfl, ⟨v1, v2, rfl, h1, h2⟩, hb⟩
theorem room_of {bs : List Blob} {es : List Entry} {r t : Int} (h : storeFault bs es r t = 0) : 0 ≤ r ∧ r ≤ 4000 := by
  by_cases h1 : blobsFault bs = 0
  · by_cases h2 : entriesFault es = 0
    · by_cases h3 : roomFault bs r = 0
      · unfold roomFault at h3
        split at h3
        · cases h3
        · omega
      · rw [st3 h1 h2 h3] at h; exact absurd h h3
    · rw [st2 h1 h2] at h; exact absurd h h2
  · rw [st1 h1] at h; exact absurd h h1
theorem fits_used {bs : List Blob} {r : Int} (h0 : 0 ≤ used bs) (h1 : used bs ≤ 1000000) (hr : 0 ≤ r ∧ r ≤ 4000) : fitsV bs r = if r < used bs then 7 else 0 := by
  unfold fitsV
  rw [if_pos (by unfold inRoom; omega)]
  unfold lackV
  rw [wrap64_in' (n := used bs + 0) (by omega) (by omega), wrap64_in' (by omega) (by omega)]
  split <;> split <;> split <;> omega
theorem bputL_small {d : ByteArray} {data : List UInt8} {l : List Blob} {z : Int} (hz : z = blobsFault l) (he : bputE z d data l = 0) : 0 ≤ used (bputL d data l) ∧ used (bputL d data l) ≤ 1000000 := by
  have h0 : z = 0 := by
    apply Classical.byContradiction; intro h; rw [bputE_bad h] at he; exact h he
  subst h0
  have hall : ∀ x ∈ l, x.data.length ≤ 300 := by
    intro x hx
    have hb := hz.symm
    unfold blobsFault at hb
    split at hb
    · cases hb
    · obtain ⟨q, hq⟩ := fault_all hb x hx
      unfold blobFault at hq
      split at hq
      · rename_i h1; exact (blobErr_zero h1).2.1
      · rename_i h1; exact absurd hq h1
  have hl : l.length ≤ 24 := (rising_blobs hz.symm).2
  have hd : data.length ≤ 300 := by
    apply Classical.byContradiction; intro h; rw [bputE_long (by omega)] at he; cases he
  refine used_small _ 0 (fun x hx => ?_) (Int.le_refl _) ?_
  · unfold bputL at hx
    split at hx
    · exact hall x hx
    · exact insB_all hall (show data.length ≤ 300 from hd) x hx
  · unfold bputL
    split
    · omega
    · rw [insB_len (lowAt_le _ _ _)]; omega
end Go.Proofs.Ytcbopanekmpllaa
