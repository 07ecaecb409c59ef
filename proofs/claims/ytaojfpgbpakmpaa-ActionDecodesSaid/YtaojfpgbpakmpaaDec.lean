/-
  What bytes read as, as parts. No function of the program is named here.
-/
import Derived.Test.YtaojfpgbpakmpaaMan
import Derived.Test.YtaojfpgbpakmpaaPrt
import Derived.Test.YtaojfpgbpakmpaaHexR
import Derived.Test.YtaojfpgbpakmpaaWire3
namespace Go.Proofs.Ytaojfpgbpakmpaa
open Go.RowKit

def noPart : Part := ⟨⟨#[]⟩, ⟨#[]⟩, 0⟩
/-- The part that bytes begin with, what is behind it, and what is wrong. -/
def readPart (l : List UInt8) : Part × List UInt8 × Int :=
  if (readText l).2.2 ≠ 0 then (noPart, [], (readText l).2.2)
  else if (readText l).2.1.length < 32 then (noPart, [], 8)
  else if (readNum ((readText l).2.1.drop 32)).2.2 ≠ 0 then (noPart, [], (readNum ((readText l).2.1.drop 32)).2.2)
  else (⟨(readText l).1, bstr (hexOf ((readText l).2.1.take 32)), (readNum ((readText l).2.1.drop 32)).1⟩, (readNum ((readText l).2.1.drop 32)).2.1, 0)
/-- So many parts more, behind these. -/
def decRest : Nat → List Part → List UInt8 → List Part × Int
  | 0, out, l => if l ≠ [] then ([], 3) else if partsFault out ≠ 0 then ([], partsFault out) else (out, 0)
  | n + 1, out, l => if (readPart l).2.2 ≠ 0 then ([], (readPart l).2.2) else decRest n (out ++ [(readPart l).1]) (readPart l).2.1
/-- What bytes are, as parts, and what is wrong with them. -/
def decParts (b : List UInt8) : List Part × Int :=
  if 2000 < b.length then ([], 1) else if b.take 3 ≠ [65, 77, 49] then ([], 3) else if (readNum (b.drop 3)).2.2 ≠ 0 then ([], (readNum (b.drop 3)).2.2)
  else if 8 < (readNum (b.drop 3)).1 then ([], 1) else decRest (readNum (b.drop 3)).1.toNat [] (readNum (b.drop 3)).2.1

theorem dec_size {b : List UInt8} (h : 2000 < b.length) : decParts b = ([], 1) := by unfold decParts; rw [if_pos h]
theorem dec_sign {b : List UInt8} (h : ¬ 2000 < b.length) (h2 : b.take 3 ≠ [65, 77, 49]) : decParts b = ([], 3) := by unfold decParts; rw [if_neg h, if_pos h2]
theorem dec_num {b r : List UInt8} {n e : Int} (h : ¬ 2000 < b.length) (h2 : b.take 3 = [65, 77, 49]) (h3 : readNum (b.drop 3) = (n, r, e)) :
    decParts b = if e ≠ 0 then ([], e) else if 8 < n then ([], 1) else decRest n.toNat [] r := by
  unfold decParts; rw [if_neg h, if_neg (not_not_intro h2), h3]
theorem dec_step_text {n : Nat} {out : List Part} {l r : List UInt8} {s : ByteArray} {e : Int} (h : readText l = (s, r, e)) (he : e ≠ 0) : decRest (n + 1) out l = ([], e) := by
  have hp : readPart l = (noPart, [], e) := by unfold readPart; rw [h]; simp only; rw [if_pos he]
  rw [decRest, hp, if_pos he]
theorem dec_step_short {n : Nat} {out : List Part} {l r : List UInt8} {s : ByteArray} (h : readText l = (s, r, 0)) (hr : r.length < 32) : decRest (n + 1) out l = ([], 8) := by
  have hp : readPart l = (noPart, [], 8) := by unfold readPart; rw [h]; simp only; rw [if_neg (by decide), if_pos hr]
  rw [decRest, hp, if_pos (by simp)]
theorem dec_step_num {n : Nat} {out : List Part} {l r q : List UInt8} {s : ByteArray} {m e : Int} (h : readText l = (s, r, 0)) (hr : 32 ≤ r.length) (h2 : readNum (r.drop 32) = (m, q, e)) (he : e ≠ 0) : decRest (n + 1) out l = ([], e) := by
  have hp : readPart l = (noPart, [], e) := by unfold readPart; rw [h]; simp only; rw [if_neg (by decide), if_neg (by omega), h2]; simp only; rw [if_pos he]
  rw [decRest, hp, if_pos he]
theorem dec_step_ok {n : Nat} {out : List Part} {l r q : List UInt8} {s : ByteArray} {m : Int} (h : readText l = (s, r, 0)) (hr : 32 ≤ r.length) (h2 : readNum (r.drop 32) = (m, q, 0)) :
    decRest (n + 1) out l = decRest n (out ++ [⟨s, bstr (hexOf (r.take 32)), m⟩]) q := by
  have hp : readPart l = (⟨s, bstr (hexOf (r.take 32)), m⟩, q, 0) := by unfold readPart; rw [h]; simp only; rw [if_neg (by decide), if_neg (by omega), h2]; simp only; rw [if_neg (by decide)]
  rw [decRest, hp, if_neg (by simp)]
theorem dec_end_more {out : List Part} {l : List UInt8} (h : l ≠ []) : decRest 0 out l = ([], 3) := by rw [decRest, if_pos h]
theorem dec_end_fault {out : List Part} (h : partsFault out ≠ 0) : decRest 0 out [] = ([], partsFault out) := by rw [decRest, if_neg (by simp), if_pos h]
theorem dec_end_ok {out : List Part} (h : partsFault out = 0) : decRest 0 out [] = (out, 0) := by rw [decRest, if_neg (by simp), if_neg (not_not_intro h)]

/-- What is wrong stays so: a name for later. -/
theorem dec_ne {e : Int} {l : List Part} (he : e ≠ 0) : (if e ≠ 0 then (([] : List Part), e) else (l, 0)) = ([], e) := if_pos he
/-- A part of modest size. -/
def Modest1 (x : Part) : Prop := x.name.size ≤ 2000 ∧ x.digest.size = 64 ∧ 0 ≤ x.size ∧ x.size ≤ 4294967295
theorem readText_size {l r : List UInt8} {s : ByteArray} (h : readText l = (s, r, 0)) : s.size ≤ 2000 ∧ r.length ≤ l.length := by
  have h2 := readText_rest_le l
  rw [h] at h2
  refine ⟨?_, h2⟩
  unfold readText at h
  split at h
  · simp only [Prod.mk.injEq] at h; obtain ⟨rfl, _⟩ := h; exact Nat.zero_le _
  · split at h
    · simp only [Prod.mk.injEq] at h; obtain ⟨rfl, _⟩ := h; exact Nat.zero_le _
    · split at h
      · simp only [Prod.mk.injEq] at h; obtain ⟨rfl, _⟩ := h; exact Nat.zero_le _
      · simp only [Prod.mk.injEq] at h
        obtain ⟨rfl, _⟩ := h
        show (List.toArray _).size ≤ 2000
        rw [List.size_toArray, List.length_take]
        omega
theorem hex32 {r : List UInt8} (h : 32 ≤ r.length) : (bstr (hexOf (r.take 32))).size = 64 := by
  show (List.toArray _).size = 64
  rw [List.size_toArray, hexOf_len, List.length_take]
  omega

end Go.Proofs.Ytaojfpgbpakmpaa
