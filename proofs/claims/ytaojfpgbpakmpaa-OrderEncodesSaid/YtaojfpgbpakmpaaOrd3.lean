/-
  The reference's with: has a kind of order a field?
-/
import Derived.Test.YtaojfpgbpakmpaaOrd2
namespace Go.Proofs.Ytaojfpgbpakmpaa
open Go.RowKit

theorem hasS_size (k : Int) : (hasS k).size ≤ 5 := by
  show (hasL k).toArray.size ≤ 5
  rw [List.size_toArray]
  unfold hasL
  repeat' split
  all_goals decide
/-- The letter c is among the letters of kind k. -/
def withB (k : Int) (c : UInt8) : Bool := decide (∃ j, ∃ hj : j < (hasS k).size, (hasS k)[j] = c)
end Go.Proofs.Ytaojfpgbpakmpaa
