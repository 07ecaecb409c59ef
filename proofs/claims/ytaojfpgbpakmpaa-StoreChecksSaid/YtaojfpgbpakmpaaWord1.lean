/-
  word.Choose, word.Most and the reference's Chosen, MostOf: what each computes.
-/
import Derived.Test.YtaojfpgbpakmpaaW32
import Derived.BigQuiet
import Derived.Deep.QuietTactic
namespace Go.Proofs.Ytaojfpgbpakmpaa
open Go.RowKit

def choose (x y z : UInt32) : UInt32 := (x &&& y) ||| (~~~x &&& z)
def most (x y z : UInt32) : UInt32 := ((x &&& y) ||| (x &&& z)) ||| (y &&& z)

theorem choose_bit (x y z : UInt32) (k : Nat) (hk : k < 32) : (choose x y z).toNat.testBit k = (if x.toNat.testBit k then y.toNat.testBit k else z.toNat.testBit k) := by
  have e : ∀ u : UInt32, u.toNat.testBit k = u.toBitVec.getLsbD k := fun u => rfl
  simp only [e, choose, UInt32.toBitVec_or, UInt32.toBitVec_and, UInt32.toBitVec_not, BitVec.getLsbD_or, BitVec.getLsbD_and, BitVec.getLsbD_not, hk, decide_true, Bool.true_and]
  cases x.toBitVec.getLsbD k <;> simp
theorem most_bit (x y z : UInt32) (k : Nat) : (most x y z).toNat.testBit k = decide ((x.toNat.testBit k).toNat + (y.toNat.testBit k).toNat + (z.toNat.testBit k).toNat > 1) := by
  have e : ∀ u : UInt32, u.toNat.testBit k = u.toBitVec.getLsbD k := fun u => rfl
  simp only [e, most, UInt32.toBitVec_or, UInt32.toBitVec_and, BitVec.getLsbD_or, BitVec.getLsbD_and]
  cases x.toBitVec.getLsbD k <;> cases y.toBitVec.getLsbD k <;> cases z.toBitVec.getLsbD k <;> simp

set_option maxRecDepth 100000 in
set_option maxHeartbeats 400000 in
theorem word_Choose (x y z : UInt32) (w : World) :
    Calls Try.prog 213 #[.int .u32 (x.toNat : Int), .int .u32 (y.toNat : Int), .int .u32 (z.toNat : Int)] w fun e w' => e = .returned (.int .u32 ((choose x y z).toNat : Int)) ∧ w = w' := by
  go_enter Try.func213, Try.ntmps213
  go_wp2
  go_ret
  exact ⟨ret_i (by rw [w_not, w_and, w_and, w_or]; rfl), rfl⟩

set_option maxRecDepth 100000 in
set_option maxHeartbeats 400000 in
theorem word_Most (x y z : UInt32) (w : World) :
    Calls Try.prog 214 #[.int .u32 (x.toNat : Int), .int .u32 (y.toNat : Int), .int .u32 (z.toNat : Int)] w fun e w' => e = .returned (.int .u32 ((most x y z).toNat : Int)) ∧ w = w' := by
  go_enter Try.func214, Try.ntmps214
  go_wp2
  go_ret
  exact ⟨ret_i (by rw [w_and, w_and, w_and, w_or, w_or]; rfl), rfl⟩

end Go.Proofs.Ytaojfpgbpakmpaa
