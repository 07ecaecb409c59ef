/-
  Putting bytes among blobs whose digests rise: what is left. No function of the program is named here.
-/
import Derived.Test.YtcbopanekmpllaaSrt
import Derived.Test.YtcbopanekmpllaaBlb
import Derived.Test.YtcbopanekmpllaaInsB
namespace Go.Proofs.Ytcbopanekmpllaa
open Go.RowKit

theorem rising_blobs {l : List Blob} (h : blobsFault l = 0) : Rising (fun x : Blob => x.digest) l ∧ l.length ≤ 24 := by
  unfold blobsFault at h
  split at h
  · cases h
  · rename_i h1
    refine ⟨(rising_of (fun p x h => ?_) h).1, by omega⟩
    unfold blobFault at h
    split at h
    · split at h
      · cases h
      · rename_i h2; simpa using h2
    · rename_i h2; exact absurd h h2
/-- What is wrong with putting bytes of the digest d, z being what is wrong with the list. -/
def bputE (z : Int) (d : ByteArray) (data : List UInt8) (l : List Blob) : Int :=
  if z ≠ 0 then z else if 300 < data.length then 1 else if hasKey (fun x : Blob => x.digest) d l = true then 0 else if 24 ≤ l.length then 7 else 0
def bputL (d : ByteArray) (data : List UInt8) (l : List Blob) : List Blob :=
  if hasKey (fun x : Blob => x.digest) d l = true then l else l.take (lowAt (fun x : Blob => x.digest) d l) ++ ⟨d, data, 0, false⟩ :: l.drop (lowAt (fun x : Blob => x.digest) d l)
section
variable {z : Int} {d : ByteArray} {data : List UInt8} {l : List Blob}
theorem bputE_bad (h : z ≠ 0) : bputE z d data l = z := if_pos h
theorem bputE_long (h : 300 < data.length) : bputE 0 d data l = 1 := by unfold bputE; rw [if_neg (by simp), if_pos h]
theorem bputE_has (h : ¬ 300 < data.length) (h2 : hasKey (fun x : Blob => x.digest) d l = true) : bputE 0 d data l = 0 := by unfold bputE; rw [if_neg (by simp), if_neg h, if_pos h2]
theorem bputE_full (h : ¬ 300 < data.length) (h2 : hasKey (fun x : Blob => x.digest) d l = false) (h3 : 24 ≤ l.length) : bputE 0 d data l = 7 := by unfold bputE; rw [if_neg (by simp), if_neg h, if_neg (by rw [h2]; decide), if_pos h3]
theorem bputE_new (h : ¬ 300 < data.length) (h2 : hasKey (fun x : Blob => x.digest) d l = false) (h3 : ¬ 24 ≤ l.length) : bputE 0 d data l = 0 := by unfold bputE; rw [if_neg (by simp), if_neg h, if_neg (by rw [h2]; decide), if_neg h3]
theorem bputL_has (h : hasKey (fun x : Blob => x.digest) d l = true) : bputL d data l = l := if_pos h
theorem bputL_new (h : hasKey (fun x : Blob => x.digest) d l = false) : bputL d data l = l.take (lowAt (fun x : Blob => x.digest) d l) ++ ⟨d, data, 0, false⟩ :: l.drop (lowAt (fun x : Blob => x.digest) d l) := by unfold bputL; rw [if_neg (by rw [h]; decide)]
end
def BlRes (err : Int) (d : ByteArray) (L : List Blob) (w : World) (e : Ending) (w' : World) : Prop :=
  ∃ v', e = .returned (.tuple #[v', .string (if err = 0 then d else ⟨#[]⟩), .int .i64 err]) ∧ RBl w' v' (if err = 0 then L else []) ∧ Below w.heap.size w w'
theorem bl_no {err n : Int} {d : ByteArray} {L : List Blob} {w w' : World} (h : err = n) (hn : n ≠ 0) (hb : Below w.heap.size w w') : BlRes err d L w (.returned (.tuple #[.slice none 0 0, .string ⟨#[]⟩, .int .i64 n])) w' := by
  subst h
  exact ⟨_, by rw [if_neg hn], by rw [if_neg hn]; exact RS.nil, hb⟩
theorem bl_ok {err : Int} {d : ByteArray} {L : List Blob} {w w' : World} {v' : Value} (h : err = 0) (hr : RBl w' v' L) (hb : Below w.heap.size w w') : BlRes err d L w (.returned (.tuple #[v', .string d, .int .i64 0])) w' := by
  subst h
  exact ⟨_, rfl, hr, hb⟩
theorem fit_new {d : ByteArray} {data : List UInt8} (hd : d.size ≤ 140737488351232) (h : data.length * 1 ≤ 140737488351232) : FitBlob ⟨d, data, 0, false⟩ := ⟨⟨hd, show (Lit.int .i64 0).wf = true by decide⟩, h⟩
theorem insB_all {Q : Blob → Prop} {l : List Blob} {i : Nat} {y : Blob} (h : ∀ x ∈ l, Q x) (hy : Q y) : ∀ x ∈ l.take i ++ y :: l.drop i, Q x := by
  intro x hx
  rcases List.mem_append.1 hx with hx | hx
  · exact h x (List.mem_of_mem_take hx)
  · rcases List.mem_cons.1 hx with rfl | hx
    · exact hy
    · exact h x (List.mem_of_mem_drop hx)
theorem insB_len {l : List Blob} {i : Nat} {y : Blob} (hi : i ≤ l.length) : (l.take i ++ y :: l.drop i).length = l.length + 1 := by
  rw [List.length_append, List.length_take, List.length_cons, List.length_drop, Nat.min_eq_left hi]; omega
end Go.Proofs.Ytcbopanekmpllaa
