/-
  The law ManifestDecodes: its walk.
-/
import Derived.Test.YtaojfpgbpakmpaaDec3
import Derived.Test.YtaojfpgbpakmpaaSp
namespace Go.Proofs.Ytaojfpgbpakmpaa
open Go.RowKit

set_option maxRecDepth 100000 in
set_option maxHeartbeats 400000 in
theorem ManifestDecodes_walk (w : World) (v : Value) (b : List UInt8) (h : RB w v b) :
    Calls Try.prog 8 #[v] w fun e w' => e = .returned (.bool true) ∧ Below w.heap.size w w' := by
  have f1 := hid fun w (g : RB w v b) => manifest_Decode v b w g
  have f2 := hid fun w (g : RB w v b) => ref_PartsOf v b w g
  unfold DecPost at f1 f2
  generalize decParts b = z at *
  obtain ⟨l, n⟩ := z
  simp only at f1 f2
  go_enter Try.func8, Try.ntmps8
  go_wp2_with fail
  ((with_reducible refine (f1.out _ h).mono ?_); rintro e w1 ⟨v1, rfl, r1, b1⟩)
  have hb1 := hid b1
  replace r1 := hid r1
  clear b1
  go_wp2_with fail
  ((with_reducible refine (f2.out _ (h.mono EU8.stable hb1.out)).mono ?_); rintro e w2 ⟨v2, rfl, r2, b2⟩)
  have hb2 := hid (b_call hb1.out b2)
  have r1' := hid (r1.out.mono EPart.stable b2)
  replace r2 := hid r2
  clear b2
  go_wp2_with fail
  ((with_reducible refine (law_sameParts_yes _ _ _ l r1'.out r2.out).mono ?_); rintro e w3 ⟨rfl, b3⟩)
  have hb3 := hid (b_call hb2.out b3)
  clear b3
  go_wp2_with fail
  go_ret
  exact ⟨rfl, hb3.out⟩
end Go.Proofs.Ytaojfpgbpakmpaa
