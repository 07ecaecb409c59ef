/-
  The reference's has and with: which fields a kind of order has.
-/
import Derived.Test.YtaojfpgbpakmpaaOrd
namespace Go.Proofs.Ytaojfpgbpakmpaa
open Go.RowKit

/-- The fields' letters. -/
def hasL (k : Int) : List UInt8 :=
  (if hasN k = true then [110] else []) ++ (if hasD k = true then [100] else []) ++ (if hasB k = true then [98] else []) ++ (if hasP k = true then [112] else []) ++ (if k = 10 then [45] else [])
def hasS (k : Int) : ByteArray := ⟨(hasL k).toArray⟩

set_option maxRecDepth 100000 in
set_option maxHeartbeats 1000000 in
theorem ref_has (k : Int) (w : World) :
    Calls Try.prog 113 #[.int .i64 k] w fun e w' => e = .returned (.string (hasS k)) ∧ Below w.heap.size w w' := by
  by_cases h : 1 ≤ k ∧ k ≤ 14
  · rcases kind_cases h with rfl | rfl | rfl | rfl | rfl | rfl | rfl | rfl | rfl | rfl | rfl | rfl | rfl | rfl
    all_goals
      go_enter Try.func113, Try.ntmps113
      go_wp2_with fail
      go_ret
      refine ⟨rfl, ?_⟩
      first | exact Below.refl _ _ | exact b_alloc (Below.refl _ _) _ | exact below_drewN (b_alloc (Below.refl _ _) _) _
  · have hr : hasS k = ⟨#[]⟩ := by
      have z2 : hasN k = false := by simp [hasN]; omega
      have z3 : hasD k = false := by simp [hasD]; omega
      have z4 : hasB k = false := by simp [hasB]; omega
      have z5 : hasP k = false := by simp [hasP]; omega
      have z6 : ¬ k = 10 := by omega
      simp [hasS, hasL, z2, z3, z4, z5, z6]
    rw [hr]
    clear hr
    by_cases h1 : k < 1
    · have q1 : decide (k < 1) = true := by simp; omega
      go_enter Try.func113, Try.ntmps113
      go_wp2_with fail
      go_ret
      exact ⟨rfl, Below.refl _ _⟩
    · have q1 : decide (k < 1) = false := by simp; omega
      have q2 : decide (14 < k) = true := by simp; omega
      go_enter Try.func113, Try.ntmps113
      go_wp2_with fail
      go_ret
      exact ⟨rfl, Below.refl _ _⟩
end Go.Proofs.Ytaojfpgbpakmpaa
