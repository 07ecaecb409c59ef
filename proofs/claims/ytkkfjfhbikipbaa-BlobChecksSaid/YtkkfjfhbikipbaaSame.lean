/-
  sameWords of the laws: two slices that read as one list are the same.
-/
import Derived.Test.YtkkfjfhbikipbaaWord5
namespace Go.Proofs.Ytkkfjfhbikipbaa
open Go.RowKit

set_option maxRecDepth 100000 in
set_option maxHeartbeats 400000 in
theorem slices_Equal_u32 (a b : Value) (w : World) (l : List UInt32) (ha : RW w a l) (hb : RW w b l) :
    Calls Try.prog 98 #[a, b] w fun e w' => e = .returned (.bool true) ∧ Below w.heap.size w w' := by
  have hA := ha
  have hB := hb
  obtain ⟨a0, ca, rfl, hla, hca, hre, _, _⟩ := ha
  obtain ⟨b0, cb, rfl, hlb, hcb, _, _, _⟩ := hb
  unfold maxLen at hca hcb
  go_enter Try.func98, Try.ntmps98
  go_wp2_with fail
  go_loopw [13] (fun i wr => ∃ (k : Nat), i = .int .i64 (k : Int) ∧ k ≤ l.length ∧ Below w.heap.size w wr) (fun i _ => l.length - (intOf i).toNat)
  case atStart => exact ⟨0, rfl, by omega, Below.refl _ _⟩
  case round =>
    obtain ⟨k, rfl, hk, hb⟩ := hrel
    by_cases hlt : k < l.length
    · obtain ⟨b1, o1, c1, hv, hbl1, _, _, hc1⟩ := RW.block hA (by omega)
      simp only [Value.slice.injEq] at hv
      obtain ⟨rfl, -, -⟩ := hv
      obtain ⟨b2, o2, c2, hv, hbl2, _, _, hc2⟩ := RW.block hB (by omega)
      simp only [Value.slice.injEq] at hv
      obtain ⟨rfl, -, -⟩ := hv
      have d1 := cell_stays hb hbl1 (hc1 k hlt)
      have d2 := cell_stays hb hbl2 (hc2 k hlt)
      clear hc1 hc2 hA hB
      go_wp2_with fail
      go_quiet (fail)
      go_wp2_with fail
      go_roundw
      case rel => exact ⟨k + 1, by go_num, by omega, below_drewN hb _⟩
      case measure => simp [intOf]; omega
    · go_wp2_with fail
      go_ret
      exact ⟨rfl, hb⟩

set_option maxRecDepth 100000 in
theorem law_sameWords_yes (a b : Value) (w : World) (l : List UInt32) (ha : RW w a l) (hb : RW w b l) :
    Calls Try.prog 28 #[a, b] w fun e w' => e = .returned (.bool true) ∧ Below w.heap.size w w' := by
  go_enter Try.func28, Try.ntmps28
  go_wp2_with fail
  refine (slices_Equal_u32 _ _ _ _ ha hb).mono ?_
  rintro e w1 ⟨rfl, h1⟩
  go_wp2_with fail
  go_ret
  exact ⟨rfl, h1⟩
end Go.Proofs.Ytkkfjfhbikipbaa
