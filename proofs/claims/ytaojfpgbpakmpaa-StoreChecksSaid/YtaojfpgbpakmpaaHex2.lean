/-
  hex.Check and the reference's HexFault; the law HexChecks.
-/
import Derived.Test.YtaojfpgbpakmpaaHex
namespace Go.Proofs.Ytaojfpgbpakmpaa
open Go.RowKit

set_option maxRecDepth 100000 in
theorem hex_Check (s : ByteArray) (w : World) (h : s.size = 64) (ha : AllHex s) :
    Calls Try.prog 90 #[.string s] w fun e w' => e = .returned (.int .i64 0) ∧ Below w.heap.size w w' := by
  replace ha := hid ha
  go_enter Try.func90, Try.ntmps90
  go_wp2_with fail
  refine (hex_Bytes s _ (by omega) (by omega) ha.out).mono ?_
  rintro e w1 ⟨v, rfl, _, hb⟩
  go_wp2_with fail
  go_ret
  exact ⟨rfl, hb⟩

set_option maxRecDepth 100000 in
theorem hex_Check_no (s : ByteArray) (w : World) (h : s.size = 64) (ha : ¬ AllHex s) :
    Calls Try.prog 90 #[.string s] w fun e w' => e = .returned (.int .i64 3) ∧ Below w.heap.size w w' := by
  replace ha := hid ha
  go_enter Try.func90, Try.ntmps90
  go_wp2_with fail
  refine (hex_Bytes_no s _ (by omega) (by omega) ha.out).mono ?_
  rintro e w1 ⟨rfl, hb⟩
  go_wp2_with fail
  go_ret
  exact ⟨rfl, hb⟩

set_option maxRecDepth 100000 in
theorem hex_Check_size (s : ByteArray) (w : World) (h : s.size ≠ 64) (_hm : s.size ≤ 140737488351232) :
    Calls Try.prog 90 #[.string s] w fun e w' => e = .returned (.int .i64 1) ∧ w = w' := by
  have q : ((s.size : Int) != 64) = true := by simp; omega
  go_enter Try.func90, Try.ntmps90
  go_wp2_with fail
  go_ret
  exact ⟨rfl, rfl⟩

set_option maxRecDepth 100000 in
theorem ref_HexFault (s : ByteArray) (w : World) (h : s.size = 64) (ha : AllHex s) :
    Calls Try.prog 97 #[.string s] w fun e w' => e = .returned (.int .i64 0) ∧ Below w.heap.size w w' := by
  replace ha := hid ha
  go_enter Try.func97, Try.ntmps97
  go_wp2_with fail
  refine (ref_HexBytes s _ (by omega) (by omega)).mono ?_
  rintro e w1 (⟨_, v, rfl, _, hb⟩ | ⟨hn, _, _⟩)
  · go_wp2_with fail
    go_ret
    exact ⟨rfl, hb⟩
  · exact absurd ha.out hn

set_option maxRecDepth 100000 in
theorem ref_HexFault_no (s : ByteArray) (w : World) (h : s.size = 64) (ha : ¬ AllHex s) :
    Calls Try.prog 97 #[.string s] w fun e w' => e = .returned (.int .i64 3) ∧ Below w.heap.size w w' := by
  replace ha := hid ha
  go_enter Try.func97, Try.ntmps97
  go_wp2_with fail
  refine (ref_HexBytes s _ (by omega) (by omega)).mono ?_
  rintro e w1 (⟨hy, _⟩ | ⟨_, rfl, hb⟩)
  · exact absurd hy ha.out
  · go_wp2_with fail
    go_ret
    exact ⟨rfl, hb⟩

set_option maxRecDepth 100000 in
theorem ref_HexFault_size (s : ByteArray) (w : World) (h : s.size ≠ 64) (_hm : s.size ≤ 140737488351232) :
    Calls Try.prog 97 #[.string s] w fun e w' => e = .returned (.int .i64 1) ∧ w = w' := by
  have q : ((s.size : Int) != 64) = true := by simp; omega
  go_enter Try.func97, Try.ntmps97
  go_wp2_with fail
  go_ret
  exact ⟨rfl, rfl⟩

end Go.Proofs.Ytaojfpgbpakmpaa
