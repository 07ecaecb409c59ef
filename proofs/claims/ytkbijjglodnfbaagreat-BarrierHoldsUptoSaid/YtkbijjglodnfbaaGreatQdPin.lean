/-
  pin.Check, pin.Move and the reference's PinMoved: what each computes.
-/
import Derived.Test.YtkbijjglodnfbaaGreatQdBas
namespace Go.Proofs.YtkbijjglodnfbaaGreat
open Go.RowKit

def pinErr (n : Int) : Int := if n < 0 ∨ 5 < n then 4 else 0
def pinMove (n : Int) (up : Bool) : Int × Int :=
  if n < 0 ∨ 5 < n then (0, 4) else if up then (if n = 5 then (0, 7) else (n + 1, 0)) else if n = 0 then (0, 11) else (n - 1, 0)

set_option maxRecDepth 100000 in
set_option maxHeartbeats 400000 in
theorem pin_Check (n : Int) (w : World) :
    Calls Tryz.prog 181 #[.int .i64 n] w fun e w' => e = .returned (.int .i64 (pinErr n)) ∧ w = w' := by
  by_cases h1 : n < 0
  · have hr : Hid (pinErr n = 4) := by show pinErr n = 4; unfold pinErr; rw [if_pos (.inl h1)]
    go_enter Tryz.func181, Tryz.ntmps181
    go_wp2
    go_ret
    exact ⟨ret_i hr.out.symm, rfl⟩
  by_cases h2 : 5 < n
  · have hr : Hid (pinErr n = 4) := by show pinErr n = 4; unfold pinErr; rw [if_pos (.inr h2)]
    go_enter Tryz.func181, Tryz.ntmps181
    go_wp2
    go_ret
    exact ⟨ret_i hr.out.symm, rfl⟩
  · have hr : Hid (pinErr n = 0) := by show pinErr n = 0; unfold pinErr; rw [if_neg (by omega)]
    go_enter Tryz.func181, Tryz.ntmps181
    go_wp2
    go_ret
    exact ⟨ret_i hr.out.symm, rfl⟩

set_option maxRecDepth 100000 in
set_option maxHeartbeats 400000 in
theorem pin_Move (n : Int) (up : Bool) (w : World) :
    Calls Tryz.prog 158 #[.int .i64 n, .bool up] w fun e w' => e = .returned (.tuple #[.int .i64 (pinMove n up).1, .int .i64 (pinMove n up).2]) ∧ w = w' := by
  by_cases h1 : n < 0 ∨ 5 < n
  · have hr : Hid (pinErr n = 4) := by show pinErr n = 4; unfold pinErr; rw [if_pos h1]
    have hm : Hid (pinMove n up = (0, 4)) := by show pinMove n up = (0, 4); unfold pinMove; rw [if_pos h1]
    clear h1
    go_enter Tryz.func158, Tryz.ntmps158
    go_wp2_with fail
    refine (pin_Check _ _).mono ?_
    rintro e w' ⟨rfl, rfl⟩
    rw [hr.out]
    go_wp2
    go_ret2
    rw [hm.out]
    exact ⟨rfl, rfl⟩
  · have hr : Hid (pinErr n = 0) := by show pinErr n = 0; unfold pinErr; rw [if_neg h1]
    cases up
    · by_cases h0 : n = 0
      · subst h0
        go_enter Tryz.func158, Tryz.ntmps158
        go_wp2_with fail
        refine (pin_Check _ _).mono ?_
        rintro e w' ⟨rfl, rfl⟩
        rw [hr.out]
        go_wp2
        go_ret2
        exact ⟨rfl, rfl⟩
      · have hm : Hid (pinMove n false = (n - 1, 0)) := by show pinMove n false = _; unfold pinMove; rw [if_neg h1, if_neg (by simp), if_neg h0]
        have hb : (n == 0) = false := by simpa using h0
        have g1 : 0 ≤ n := by omega
        have g2 : n ≤ 5 := by omega
        clear h0 h1
        go_enter Tryz.func158, Tryz.ntmps158
        go_wp2_with fail
        refine (pin_Check _ _).mono ?_
        rintro e w' ⟨rfl, rfl⟩
        rw [hr.out]
        go_wp2
        go_ret2
        rw [hm.out]
        exact ⟨rfl, rfl⟩
    · by_cases h0 : n = 5
      · subst h0
        go_enter Tryz.func158, Tryz.ntmps158
        go_wp2_with fail
        refine (pin_Check _ _).mono ?_
        rintro e w' ⟨rfl, rfl⟩
        rw [hr.out]
        go_wp2
        go_ret2
        exact ⟨rfl, rfl⟩
      · have hm : Hid (pinMove n true = (n + 1, 0)) := by show pinMove n true = _; unfold pinMove; rw [if_neg h1, if_pos rfl, if_neg h0]
        have hb : (n == 5) = false := by simpa using h0
        have g1 : 0 ≤ n := by omega
        have g2 : n ≤ 5 := by omega
        clear h0 h1
        go_enter Tryz.func158, Tryz.ntmps158
        go_wp2_with fail
        refine (pin_Check _ _).mono ?_
        rintro e w' ⟨rfl, rfl⟩
        rw [hr.out]
        go_wp2
        go_ret2
        rw [hm.out]
        exact ⟨rfl, rfl⟩

set_option maxRecDepth 100000 in
set_option maxHeartbeats 400000 in
theorem ref_PinMoved (n : Int) (up : Bool) (w : World) :
    Calls Tryz.prog 160 #[.int .i64 n, .bool up] w fun e w' => e = .returned (.tuple #[.int .i64 (pinMove n up).1, .int .i64 (pinMove n up).2]) ∧ w = w' := by
  by_cases h1 : n < 0
  · have hm : Hid (pinMove n up = (0, 4)) := by show pinMove n up = (0, 4); unfold pinMove; rw [if_pos (.inl h1)]
    go_enter Tryz.func160, Tryz.ntmps160
    go_wp2
    go_ret2
    rw [hm.out]
    exact ⟨rfl, rfl⟩
  by_cases h2 : 5 < n
  · have hm : Hid (pinMove n up = (0, 4)) := by show pinMove n up = (0, 4); unfold pinMove; rw [if_pos (.inr h2)]
    go_enter Tryz.func160, Tryz.ntmps160
    go_wp2
    go_ret2
    rw [hm.out]
    exact ⟨rfl, rfl⟩
  have h3 : ¬ (n < 0 ∨ 5 < n) := by omega
  cases up
  · by_cases h0 : n = 0
    · subst h0
      go_enter Tryz.func160, Tryz.ntmps160
      go_wp2
      go_ret2
      exact ⟨rfl, rfl⟩
    · have hm : Hid (pinMove n false = (n - 1, 0)) := by show pinMove n false = _; unfold pinMove; rw [if_neg h3, if_neg (by simp), if_neg h0]
      have hb : (n == 0) = false := by simpa using h0
      clear h3 h0
      go_enter Tryz.func160, Tryz.ntmps160
      go_wp2
      go_ret2
      rw [hm.out]
      exact ⟨rfl, rfl⟩
  · by_cases h0 : n = 5
    · subst h0
      go_enter Tryz.func160, Tryz.ntmps160
      go_wp2
      go_ret2
      exact ⟨rfl, rfl⟩
    · have hm : Hid (pinMove n true = (n + 1, 0)) := by show pinMove n true = _; unfold pinMove; rw [if_neg h3, if_pos rfl, if_neg h0]
      have hb : (n == 5) = false := by simpa using h0
      clear h3 h0
      go_enter Tryz.func160, Tryz.ntmps160
      go_wp2
      go_ret2
      rw [hm.out]
      exact ⟨rfl, rfl⟩

end Go.Proofs.YtkbijjglodnfbaaGreat
