/-
  The law HexTexts: its walk.
-/
import Derived.Test.YtkkfjfhbikipbaaHexR
import Derived.Test.YtkkfjfhbikipbaaHexB
namespace Go.Proofs.Ytkkfjfhbikipbaa
open Go.RowKit

set_option maxRecDepth 100000 in
set_option maxHeartbeats 400000 in
theorem HexTexts_walk (w : World) (v : Value) (b : List UInt8) (s : ByteArray) (hb : RB w v b) (hs : s.size ≤ 140737488351232) (hl : b.length ≤ 1048576) :
    Calls Try.prog 4 #[v, .string s] w fun e w' => e = .returned (.bool true) ∧ Below w.heap.size w w' := by
  go_enter Try.func4, Try.ntmps4
  go_wp2_with fail
  refine (hex_Text _ _ _ hb (by omega)).mono ?_
  rintro e w1 ⟨rfl, b1⟩
  go_wp2_with fail
  refine (hex_Bytes_any s _ hs).mono ?_
  rintro e w2 ⟨v2, rfl, r2, b2⟩
  go_wp2_with fail
  refine (ref_HexText _ _ _ (hb.mono EU8.stable (b_call b1 b2)) (by omega)).mono ?_
  rintro e w3 ⟨rfl, b3⟩
  go_wp2_with fail
  refine (ref_HexBytes_any s _ hs).mono ?_
  rintro e w4 ⟨v4, rfl, r4, b4⟩
  have r2 := r2.mono EU8.stable (b_call b3 b4)
  have bel := b_call b1 (b_call b2 (b_call b3 b4))
  go_wp2_with fail
  refine (law_sameBytes_yes _ _ _ _ r2 r4).mono ?_
  rintro e w5 ⟨rfl, rfl⟩
  go_wp2_with fail
  go_ret
  exact ⟨rfl, bel⟩
end Go.Proofs.Ytkkfjfhbikipbaa
