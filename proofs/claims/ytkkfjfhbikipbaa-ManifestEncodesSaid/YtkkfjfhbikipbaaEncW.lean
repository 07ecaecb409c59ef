/-
  The law ManifestEncodes: its walk.
-/
import Derived.Test.YtkkfjfhbikipbaaEnc2
namespace Go.Proofs.Ytkkfjfhbikipbaa
open Go.RowKit

set_option maxRecDepth 100000 in
set_option maxHeartbeats 400000 in
theorem ManifestEncodes_walk (w : World) (v : Value) (l : List Part) (h : RP w v l) :
    Calls Try.prog 9 #[v] w fun e w' => e = .returned (.bool true) ∧ Below w.heap.size w w' := by
  go_enter Try.func9, Try.ntmps9
  go_wp2_with fail
  ((with_reducible refine (manifest_Encode _ l _ h).mono ?_); rintro e w1 ⟨v1, rfl, r1, b1⟩)
  go_wp2_with fail
  ((with_reducible refine (ref_PartsBytes _ l _ (h.mono EPart.stable b1)).mono ?_); rintro e w2 ⟨v2, rfl, r2, b2⟩)
  go_wp2_with fail
  ((with_reducible refine (law_sameBytes_yes _ _ _ _ (r1.mono EU8.stable b2) r2).mono ?_); rintro e w3 ⟨rfl, rfl⟩)
  go_wp2_with fail
  go_ret
  exact ⟨rfl, b_call b1 b2⟩
end Go.Proofs.Ytkkfjfhbikipbaa
