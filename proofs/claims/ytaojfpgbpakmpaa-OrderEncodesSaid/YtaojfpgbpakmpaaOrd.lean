/-
  order.of: which fields a kind of order has.
-/
import Derived.Test.YtaojfpgbpakmpaaAct
import Derived.Handy
namespace Go.Proofs.Ytaojfpgbpakmpaa
open Go.RowKit

def isKind (k : Int) : Bool := decide (1 ≤ k ∧ k ≤ 14)
def hasN (k : Int) : Bool := decide (k = 9 ∨ k = 11 ∨ k = 12)
def hasD (k : Int) : Bool := decide ((2 ≤ k ∧ k ≤ 8) ∨ (12 ≤ k ∧ k ≤ 14))
def hasB (k : Int) : Bool := decide (k = 1)
def hasP (k : Int) : Bool := decide (k = 5 ∨ k = 13)
theorem kind_cases {k : Int} (h : 1 ≤ k ∧ k ≤ 14) : k = 1 ∨ k = 2 ∨ k = 3 ∨ k = 4 ∨ k = 5 ∨ k = 6 ∨ k = 7 ∨ k = 8 ∨ k = 9 ∨ k = 10 ∨ k = 11 ∨ k = 12 ∨ k = 13 ∨ k = 14 := by omega

set_option maxRecDepth 100000 in
set_option maxHeartbeats 1000000 in
theorem order_of (k : Int) (w : World) :
    Calls Try.prog 105 #[.int .i64 k] w fun e w' => e = .returned (.tuple #[.agg #[.bool (hasN k), .bool (hasD k), .bool (hasB k), .bool (hasP k)], .bool (isKind k)]) ∧ Below w.heap.size w w' := by
  by_cases h : 1 ≤ k ∧ k ≤ 14
  · rcases kind_cases h with rfl | rfl | rfl | rfl | rfl | rfl | rfl | rfl | rfl | rfl | rfl | rfl | rfl | rfl
    all_goals
      go_enter Try.func105, Try.ntmps105
      go_wp2_with fail
      go_returns
      refine ⟨rfl, ?_⟩
      first | exact Below.refl _ _ | exact b_alloc (Below.refl _ _) _
  · have q1 : (k == 1) = false := by simp; omega
    have q2 : (k == 2) = false := by simp; omega
    have q3 : (k == 3) = false := by simp; omega
    have q4 : (k == 4) = false := by simp; omega
    have q5 : (k == 5) = false := by simp; omega
    have q6 : (k == 6) = false := by simp; omega
    have q7 : (k == 7) = false := by simp; omega
    have q8 : (k == 8) = false := by simp; omega
    have q9 : (k == 9) = false := by simp; omega
    have q10 : (k == 10) = false := by simp; omega
    have q11 : (k == 11) = false := by simp; omega
    have q12 : (k == 12) = false := by simp; omega
    have q13 : (k == 13) = false := by simp; omega
    have q14 : (k == 14) = false := by simp; omega
    have z1 : isKind k = false := by simp [isKind]; omega
    have z2 : hasN k = false := by simp [hasN]; omega
    have z3 : hasD k = false := by simp [hasD]; omega
    have z4 : hasB k = false := by simp [hasB]; omega
    have z5 : hasP k = false := by simp [hasP]; omega
    rw [z1, z2, z3, z4, z5]
    clear h z1 z2 z3 z4 z5
    go_enter Try.func105, Try.ntmps105
    go_wp2_with fail
    go_returns
    refine ⟨rfl, ?_⟩
    first | exact Below.refl _ _ | exact b_alloc (Below.refl _ _) _
end Go.Proofs.Ytaojfpgbpakmpaa
