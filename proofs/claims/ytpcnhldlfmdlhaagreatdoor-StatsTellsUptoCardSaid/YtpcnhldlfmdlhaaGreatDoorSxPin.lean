/-
  pin.Check, pin.Move and the reference's PinMoved: what each computes.
-/
import Derived.Test.YtpcnhldlfmdlhaaGreatDoorSxBas
namespace Go.Proofs.YtpcnhldlfmdlhaaGreatDoor
open Go.RowKit

def pinErr (n : Int) : Int := if n < 0 ∨ 5 < n then 4 else 0
set_option maxRecDepth 100000 in
set_option maxHeartbeats 400000 in
theorem pin_Check (n : Int) (w : World) :
    Calls Tryz.prog 81 #[.int .i64 n] w fun e w' => e = .returned (.int .i64 (pinErr n)) ∧ w = w' := by
  by_cases h1 : n < 0
  · have hr : Hid (pinErr n = 4) := by show pinErr n = 4; unfold pinErr; rw [if_pos (.inl h1)]
    go_enter Tryz.func81, Tryz.ntmps81
    go_wp2
    go_ret
    exact ⟨ret_i hr.out.symm, rfl⟩
  by_cases h2 : 5 < n
  · have hr : Hid (pinErr n = 4) := by show pinErr n = 4; unfold pinErr; rw [if_pos (.inr h2)]
    go_enter Tryz.func81, Tryz.ntmps81
    go_wp2
    go_ret
    exact ⟨ret_i hr.out.symm, rfl⟩
  · have hr : Hid (pinErr n = 0) := by show pinErr n = 0; unfold pinErr; rw [if_neg (by omega)]
    go_enter Tryz.func81, Tryz.ntmps81
    go_wp2
    go_ret
    exact ⟨ret_i hr.out.symm, rfl⟩

end Go.Proofs.YtpcnhldlfmdlhaaGreatDoor
