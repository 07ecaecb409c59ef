import Derived.Test.YtkbijjglodnfbaaGreatQcBas
namespace Go.Proofs.YtkbijjglodnfbaaGreat
open Go.RowKit
theorem qcpin_1 {P : Prop} (h : P := by
 go_enter Tryz.func181, Tryz.ntmps181
 go_wp2
 go_ret
 exact ⟨ret_i hr.out.symm, rfl⟩) : P := h
def pinErr (n : Int) : Int := if n < 0 ∨ 5 < n then 4 else 0
set_option maxRecDepth 100000 in
set_option maxHeartbeats 400000 in
theorem pin_Check (n : Int) (w : World) :
 Calls Tryz.prog 181 #[.int .i64 n] w fun e w' => e = .returned (.int .i64 (pinErr n)) ∧ w = w' := by
 by_cases h1 : n < 0
 · have hr : Hid (pinErr n = 4) := by show pinErr n = 4; unfold pinErr; rw [if_pos (.inl h1)]
   exact qcpin_1
 by_cases h2 : 5 < n
 · have hr : Hid (pinErr n = 4) := by show pinErr n = 4; unfold pinErr; rw [if_pos (.inr h2)]
   exact qcpin_1
 · have hr : Hid (pinErr n = 0) := by show pinErr n = 0; unfold pinErr; rw [if_neg (by omega)]
   exact qcpin_1
end Go.Proofs.YtkbijjglodnfbaaGreat
