/-
  The law ManifestChecks: its walk.
-/
import Derived.Test.YtkkfjfhbikipbaaMan
namespace Go.Proofs.Ytkkfjfhbikipbaa
open Go.RowKit

set_option maxRecDepth 100000 in
set_option maxHeartbeats 400000 in
theorem ManifestChecks_walk (w : World) (v : Value) (l : List Part) (s : ByteArray) (hl : RP w v l) (hs : s.size ≤ 140737488351232) :
    Calls Try.prog 6 #[v, .string s] w fun e w' => e = .returned (.bool true) ∧ Below w.heap.size w w' := by
  go_enter Try.func6, Try.ntmps6
  go_wp2_with fail
  refine (manifest_Check _ _ _ hl).mono ?_
  rintro e w1 ⟨rfl, b1⟩
  go_wp2_with fail
  refine (manifest_Name _ _ hs).mono ?_
  rintro e w2 ⟨rfl, rfl⟩
  go_wp2_with fail
  refine (ref_PartsFault _ _ _ (hl.mono EPart.stable b1)).mono ?_
  rintro e w3 ⟨rfl, b3⟩
  go_wp2_with fail
  refine (ref_NameFault _ _ hs).mono ?_
  rintro e w4 ⟨rfl, b4⟩
  go_wp2_with fail
  go_ret
  exact ⟨rfl, b_call b1 (b_call b3 b4)⟩
end Go.Proofs.Ytkkfjfhbikipbaa
