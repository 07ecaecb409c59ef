/-
  action.Check and the reference's ActionFault: what each answers.
-/
import Derived.Test.YtojebioolflbkaaMnf
namespace Go.Proofs.Ytojebioolflbkaa
open Go.RowKit

/-- What is wrong with an action: its command's fault, then its inputs'. -/
def actFault (s : ByteArray) (l : List Part) : Int := if textFault 32 60 s = 0 then partsFault l else textFault 32 60 s
theorem actFault_no {s : ByteArray} {l : List Part} (h : textFault 32 60 s ≠ 0) : actFault s l = textFault 32 60 s := by unfold actFault; rw [if_neg h]
theorem actFault_yes {s : ByteArray} {l : List Part} (h : textFault 32 60 s = 0) : actFault s l = partsFault l := by unfold actFault; rw [if_pos h]
theorem actFault_val {s : ByteArray} {l : List Part} {n : Int} (h : textFault 32 60 s = n) (hn : n ≠ 0) : actFault s l = n := by rw [actFault_no (by rw [h]; exact hn), h]

end Go.Proofs.Ytojebioolflbkaa
