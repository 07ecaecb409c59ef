/-
  blob.Right, blob.Check and the references' BlobFault, BlobsFault: what each answers.
-/
import Derived.Test.YtojebioolflbkaaSum
import Derived.Test.YtojebioolflbkaaIdx
namespace Go.Proofs.Ytojebioolflbkaa
open Go.RowKit

/-- What is wrong with a blob whose bytes have the digest D. -/
def blobErrOf (D : ByteArray) (x : Blob) : Int :=
  if hexFault x.digest = 0 then (if 300 < x.data.length then 1 else if D = x.digest then pinErr x.pins else 9) else hexFault x.digest
def blobErr (x : Blob) : Int := blobErrOf (sumStr x.data) x
section
variable {D : ByteArray} {x : Blob}
theorem blobErr_digest (h : hexFault x.digest ≠ 0) : blobErrOf D x = hexFault x.digest := by unfold blobErrOf; rw [if_neg h]
theorem blobErr_size (h : hexFault x.digest = 0) (h2 : 300 < x.data.length) : blobErrOf D x = 1 := by unfold blobErrOf; rw [if_pos h, if_pos h2]
theorem blobErr_sum (h : hexFault x.digest = 0) (h2 : ¬ 300 < x.data.length) (h3 : D ≠ x.digest) : blobErrOf D x = 9 := by unfold blobErrOf; rw [if_pos h, if_neg h2, if_neg h3]
theorem blobErr_pins (h : hexFault x.digest = 0) (h2 : ¬ 300 < x.data.length) (h3 : D = x.digest) : blobErrOf D x = pinErr x.pins := by unfold blobErrOf; rw [if_pos h, if_neg h2, if_pos h3]
theorem blobErr_zero (h : blobErrOf D x = 0) : hexFault x.digest = 0 ∧ x.data.length ≤ 300 ∧ D = x.digest ∧ 0 ≤ x.pins ∧ x.pins ≤ 5 := by
  unfold blobErrOf at h
  split at h
  · rename_i h1
    split at h
    · cases h
    · rename_i h2
      split at h
      · rename_i h3; exact ⟨h1, by omega, h3, pinErr_zero h⟩
      · cases h
  · rename_i h1; exact absurd h h1
end
theorem str_ne {a b : ByteArray} (h : a ≠ b) : (a.toList == b.toList) = false := by
  simp only [beq_eq_false_iff_ne, ne_eq]
  exact fun e => h (toList_inj e)

/-- What is wrong with a blob beside the one ahead of it. -/
def blobFault (p : Option Blob) (x : Blob) : Int := if blobErr x = 0 then (if notAfter (p.map (·.digest)) x.digest = true then 6 else 0) else blobErr x
def blobsFault (l : List Blob) : Int := if 24 < l.length then 1 else faultFrom blobFault none l
section
variable {p : Option Blob} {x : Blob}
theorem blobFault_err (h : blobErr x ≠ 0) : blobFault p x = blobErr x := by unfold blobFault; rw [if_neg h]
theorem blobFault_twice (h : blobErr x = 0) (h2 : notAfter (p.map (·.digest)) x.digest = true) : blobFault p x = 6 := by unfold blobFault; rw [if_pos h, if_pos h2]
theorem blobFault_ok (h : blobErr x = 0) (h2 : notAfter (p.map (·.digest)) x.digest = false) : blobFault p x = 0 := by unfold blobFault; rw [if_pos h, if_neg (by rw [h2]; decide)]
end
theorem blobsFault_long {l : List Blob} (h : 24 < l.length) : blobsFault l = 1 := by unfold blobsFault; rw [if_pos h]
theorem blobsFault_short {l : List Blob} (h : ¬ 24 < l.length) : blobsFault l = faultFrom blobFault (ahead l 0) (l.drop 0) := by unfold blobsFault; rw [if_neg h]; rfl
theorem blobErr_pos {x : Blob} (h : blobErr x = 0) : 1 ≤ x.digest.size := hexFault_pos (blobErr_zero h).1

end Go.Proofs.Ytojebioolflbkaa
