/-
  The law IndexChecks: its walk.
-/
import Derived.Test.YtkkfjfhbikipbaaIdx
namespace Go.Proofs.Ytkkfjfhbikipbaa
open Go.RowKit

set_option maxRecDepth 100000 in
set_option maxHeartbeats 400000 in
theorem IndexChecks_walk (w : World) (v : Value) (l : List Entry) (hl : RE w v l) :
    Calls Try.prog 7 #[v] w fun e w' => e = .returned (.bool true) ∧ Below w.heap.size w w' := by
  go_enter Try.func7, Try.ntmps7
  go_wp2_with fail
  refine (index_Check _ _ _ hl).mono ?_
  rintro e w1 ⟨rfl, b1⟩
  go_wp2_with fail
  refine (ref_EntriesFault _ _ _ (hl.mono EEntry.stable b1)).mono ?_
  rintro e w3 ⟨rfl, b3⟩
  go_wp2_with fail
  go_ret
  exact ⟨rfl, b_call b1 b3⟩
end Go.Proofs.Ytkkfjfhbikipbaa
