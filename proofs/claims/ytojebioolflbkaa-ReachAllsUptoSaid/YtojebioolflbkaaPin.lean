/-
  pin.Check, pin.Move and the reference's PinMoved: what each computes.
-/
import Derived.Test.YtojebioolflbkaaBas
namespace Go.Proofs.Ytojebioolflbkaa
open Go.RowKit

def pinErr (n : Int) : Int := if n < 0 ∨ 5 < n then 4 else 0
def pinMove (n : Int) (up : Bool) : Int × Int :=
  if n < 0 ∨ 5 < n then (0, 4) else if up then (if n = 5 then (0, 7) else (n + 1, 0)) else if n = 0 then (0, 11) else (n - 1, 0)

end Go.Proofs.Ytojebioolflbkaa
