/-
  word.Choose, word.Most and the reference's Chosen, MostOf: what each computes.
-/
import Derived.Test.YtkclbhmlciafiaaW32
import Derived.BigQuiet
import Derived.Deep.QuietTactic
namespace Go.Proofs.Ytkclbhmlciafiaa
open Go.RowKit

def choose (x y z : UInt32) : UInt32 := (x &&& y) ||| (~~~x &&& z)
def most (x y z : UInt32) : UInt32 := ((x &&& y) ||| (x &&& z)) ||| (y &&& z)

theorem choose_bit (x y z : UInt32) (k : Nat) (hk : k < 32) : (choose x y z).toNat.testBit k = (if x.toNat.testBit k then y.toNat.testBit k else z.toNat.testBit k) := by
  have e : ∀ u : UInt32, u.toNat.testBit k = u.toBitVec.getLsbD k := fun u => rfl
  simp only [e, choose, UInt32.toBitVec_or, UInt32.toBitVec_and, UInt32.toBitVec_not, BitVec.getLsbD_or, BitVec.getLsbD_and, BitVec.getLsbD_not, hk, decide_true, Bool.true_and]
  cases x.toBitVec.getLsbD k <;> simp
theorem most_bit (x y z : UInt32) (k : Nat) : (most x y z).toNat.testBit k = decide ((x.toNat.testBit k).toNat + (y.toNat.testBit k).toNat + (z.toNat.testBit k).toNat > 1) := by
  have e : ∀ u : UInt32, u.toNat.testBit k = u.toBitVec.getLsbD k := fun u => rfl
  simp only [e, most, UInt32.toBitVec_or, UInt32.toBitVec_and, BitVec.getLsbD_or, BitVec.getLsbD_and]
  cases x.toBitVec.getLsbD k <;> cases y.toBitVec.getLsbD k <;> cases z.toBitVec.getLsbD k <;> simp

set_option maxHeartbeats 400000 in
theorem word_Choose (x y z : UInt32) (w : World) :
    Calls Try.prog 9 #[.int .u32 (x.toNat : Int), .int .u32 (y.toNat : Int), .int .u32 (z.toNat : Int)] w fun e w' => e = .returned (.int .u32 ((choose x y z).toNat : Int)) ∧ w = w' := by
  go_enter Try.func9, Try.ntmps9
  go_wp2
  go_ret
  exact ⟨ret_i (by rw [w_not, w_and, w_and, w_or]; rfl), rfl⟩

set_option maxHeartbeats 400000 in
theorem word_Most (x y z : UInt32) (w : World) :
    Calls Try.prog 10 #[.int .u32 (x.toNat : Int), .int .u32 (y.toNat : Int), .int .u32 (z.toNat : Int)] w fun e w' => e = .returned (.int .u32 ((most x y z).toNat : Int)) ∧ w = w' := by
  go_enter Try.func10, Try.ntmps10
  go_wp2
  go_ret
  exact ⟨ret_i (by rw [w_and, w_and, w_and, w_or, w_or]; rfl), rfl⟩

set_option maxHeartbeats 400000 in
theorem ref_Chosen (x y z : UInt32) (w : World) :
    Calls Try.prog 11 #[.int .u32 (x.toNat : Int), .int .u32 (y.toNat : Int), .int .u32 (z.toNat : Int)] w fun e w' => e = .returned (.int .u32 ((choose x y z).toNat : Int)) ∧ w = w' := by
  obtain ⟨R, hR⟩ : ∃ R, R = (choose x y z).toNat := ⟨_, rfl⟩
  have hl : R < 4294967296 := by rw [hR]; exact (choose x y z).toNat_lt
  have hbit : Hid (∀ k, k < 32 → R.testBit k = (if x.toNat.testBit k then y.toNat.testBit k else z.toNat.testBit k)) := by
    show ∀ k, _ → _ = _
    intro k hk
    rw [hR, choose_bit x y z k hk]
  rw [← hR]
  clear hR
  have hx : x.toNat < 4294967296 := x.toNat_lt
  have hy : y.toNat < 4294967296 := y.toNat_lt
  have hz : z.toNat < 4294967296 := z.toNat_lt
  go_enter Try.func11, Try.ntmps11
  go_wp2
  go_loop [7, 8, 9] (fun t i b => ∃ k : Nat, k ≤ 32 ∧ i = .int .i64 k ∧ t = .int .u32 ((R % 2 ^ k : Nat) : Int)) (fun _ i _ => 32 - (intOf i).toNat)
  case atStart => exact ⟨0, by omega, rfl, by simp [Nat.mod_one]⟩
  case round =>
    obtain ⟨k, hk, rfl, rfl⟩ := hrel
    by_cases hlt : k < 32
    · have hb := hid (hbit.out k hlt)
      have ex := hid (and_one_bit x.toNat k hx)
      by_cases hxk : x.toNat.testBit k = true
      · have ht : (bits BinOp.and IntKind.u32 ((x.toNat : Int) / 2 ^ k) 1 == 1) = true := by rw [ex.out, hxk]; rfl
        have Hx := hid hxk
        clear hxk
        go_wp2
        go_round
        case rel => exact ⟨k + 1, by omega, by go_num, by rw [← bit_round R k hl _ rfl, hb.out, Hx.out, if_pos rfl, and_one_bit _ _ hy]; simp⟩
        case measure => simp [intOf]; omega
      · have ht : (bits BinOp.and IntKind.u32 ((x.toNat : Int) / 2 ^ k) 1 == 1) = false := by rw [ex.out]; simp [hxk]
        have Hx := hid hxk
        clear hxk
        go_wp2
        go_round
        case rel => exact ⟨k + 1, by omega, by go_num, by rw [← bit_round R k hl _ rfl, hb.out, if_neg Hx.out, and_one_bit _ _ hz]; simp⟩
        case measure => simp [intOf]; omega
    · obtain rfl : k = 32 := by omega
      go_wp2
      go_ret
      exact ⟨ret_i (by omega), rfl⟩

set_option maxHeartbeats 400000 in
theorem ref_MostOf (x y z : UInt32) (w : World) :
    Calls Try.prog 12 #[.int .u32 (x.toNat : Int), .int .u32 (y.toNat : Int), .int .u32 (z.toNat : Int)] w fun e w' => e = .returned (.int .u32 ((most x y z).toNat : Int)) ∧ Below w.heap.size w w' := by
  obtain ⟨R, hR⟩ : ∃ R, R = (most x y z).toNat := ⟨_, rfl⟩
  have hl : R < 4294967296 := by rw [hR]; exact (most x y z).toNat_lt
  have hbit : Hid (∀ k, R.testBit k = decide ((x.toNat.testBit k).toNat + (y.toNat.testBit k).toNat + (z.toNat.testBit k).toNat > 1)) := by
    show ∀ k, _ = _
    intro k
    rw [hR, most_bit x y z k]
  rw [← hR]
  clear hR
  have hx : x.toNat < 4294967296 := x.toNat_lt
  have hy : y.toNat < 4294967296 := y.toNat_lt
  have hz : z.toNat < 4294967296 := z.toNat_lt
  go_enter Try.func12, Try.ntmps12
  go_wp2
  go_loopw [7, 8] (fun t i wr => ∃ k : Nat, k ≤ 32 ∧ i = .int .i64 k ∧ t = .int .u32 ((R % 2 ^ k : Nat) : Int) ∧ Below w.heap.size w wr) (fun _ i _ => 32 - (intOf i).toNat)
  case atStart => exact ⟨0, by omega, rfl, by simp [Nat.mod_one], Below.refl _ _⟩
  case round =>
    obtain ⟨k, hk, rfl, rfl, hbw⟩ := hrel
    by_cases hlt : k < 32
    · have hb := hid (hbit.out k)
      have ex := and_one_bit x.toNat k hx
      have ey := and_one_bit y.toNat k hy
      have ez := and_one_bit z.toNat k hz
      have hstep := hid (bit_round R k hl _ rfl)
      generalize x.toNat.testBit k = bx at *
      generalize y.toNat.testBit k = by_ at *
      generalize z.toNat.testBit k = bz at *
      cases bx <;> cases by_ <;> cases bz
      all_goals
        simp [-Int.reduceDiv] at ex ey ez
        go_wp2
        go_quiet (fail)
        go_wp2
        go_roundw
        case rel => exact ⟨k + 1, by omega, by go_num, by first | (rw [mod_step R k _ hb.out]; simp; done) | (rw [← hstep.out, hb.out]; simp), below_drewN hbw _⟩
        case measure => simp [intOf]; omega
    · obtain rfl : k = 32 := by omega
      go_wp2
      go_ret
      exact ⟨ret_i (by omega), hbw⟩

set_option maxHeartbeats 400000 in
theorem WordBits_walk (w : World) (x y z : UInt32) :
    Calls Try.prog 4 #[.int .u32 (x.toNat : Int), .int .u32 (y.toNat : Int), .int .u32 (z.toNat : Int)] w fun e w' => e = .returned (.bool true) ∧ Below w.heap.size w w' := by
  go_enter Try.func4, Try.ntmps4
  go_wp2_with (first | (go_at_call 9; refine (word_Choose _ _ _ _).mono ?_; rintro e w' ⟨rfl, rfl⟩) | (go_at_call 10; refine (word_Most _ _ _ _).mono ?_; rintro e w' ⟨rfl, rfl⟩) | (go_at_call 11; refine (ref_Chosen _ _ _ _).mono ?_; rintro e w' ⟨rfl, rfl⟩) | (go_at_call 12; refine (ref_MostOf _ _ _ _).mono ?_; rintro e w' ⟨rfl, hb⟩))
  go_ret
  exact ⟨rfl, by assumption⟩

end Go.Proofs.Ytkclbhmlciafiaa
