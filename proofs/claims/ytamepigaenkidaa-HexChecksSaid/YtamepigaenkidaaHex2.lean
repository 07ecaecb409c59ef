/-
  hex.Check and the reference's HexFault; the law HexChecks.
-/
import Derived.Test.YtamepigaenkidaaHex
namespace Go.Proofs.Ytamepigaenkidaa
open Go.RowKit

set_option maxRecDepth 100000 in
theorem hex_Check (s : ByteArray) (w : World) (h : s.size = 64) (ha : AllHex s) :
    Calls Try.prog 63 #[.string s] w fun e w' => e = .returned (.int .i64 0) ∧ Below w.heap.size w w' := by
  replace ha := hid ha
  go_enter Try.func63, Try.ntmps63
  go_wp2_with fail
  refine (hex_Bytes s _ (by omega) (by omega) ha.out).mono ?_
  rintro e w1 ⟨v, rfl, _, hb⟩
  go_wp2_with fail
  go_ret
  exact ⟨rfl, hb⟩

set_option maxRecDepth 100000 in
theorem hex_Check_no (s : ByteArray) (w : World) (h : s.size = 64) (ha : ¬ AllHex s) :
    Calls Try.prog 63 #[.string s] w fun e w' => e = .returned (.int .i64 3) ∧ Below w.heap.size w w' := by
  replace ha := hid ha
  go_enter Try.func63, Try.ntmps63
  go_wp2_with fail
  refine (hex_Bytes_no s _ (by omega) (by omega) ha.out).mono ?_
  rintro e w1 ⟨rfl, hb⟩
  go_wp2_with fail
  go_ret
  exact ⟨rfl, hb⟩

set_option maxRecDepth 100000 in
theorem hex_Check_size (s : ByteArray) (w : World) (h : s.size ≠ 64) (_hm : s.size ≤ 140737488351232) :
    Calls Try.prog 63 #[.string s] w fun e w' => e = .returned (.int .i64 1) ∧ w = w' := by
  have q : ((s.size : Int) != 64) = true := by simp; omega
  go_enter Try.func63, Try.ntmps63
  go_wp2_with fail
  go_ret
  exact ⟨rfl, rfl⟩

set_option maxRecDepth 100000 in
theorem ref_HexFault (s : ByteArray) (w : World) (h : s.size = 64) (ha : AllHex s) :
    Calls Try.prog 64 #[.string s] w fun e w' => e = .returned (.int .i64 0) ∧ Below w.heap.size w w' := by
  replace ha := hid ha
  go_enter Try.func64, Try.ntmps64
  go_wp2_with fail
  refine (ref_HexBytes s _ (by omega) (by omega)).mono ?_
  rintro e w1 (⟨_, v, rfl, _, hb⟩ | ⟨hn, _, _⟩)
  · go_wp2_with fail
    go_ret
    exact ⟨rfl, hb⟩
  · exact absurd ha.out hn

set_option maxRecDepth 100000 in
theorem ref_HexFault_no (s : ByteArray) (w : World) (h : s.size = 64) (ha : ¬ AllHex s) :
    Calls Try.prog 64 #[.string s] w fun e w' => e = .returned (.int .i64 3) ∧ Below w.heap.size w w' := by
  replace ha := hid ha
  go_enter Try.func64, Try.ntmps64
  go_wp2_with fail
  refine (ref_HexBytes s _ (by omega) (by omega)).mono ?_
  rintro e w1 (⟨hy, _⟩ | ⟨_, rfl, hb⟩)
  · exact absurd hy ha.out
  · go_wp2_with fail
    go_ret
    exact ⟨rfl, hb⟩

set_option maxRecDepth 100000 in
theorem ref_HexFault_size (s : ByteArray) (w : World) (h : s.size ≠ 64) (_hm : s.size ≤ 140737488351232) :
    Calls Try.prog 64 #[.string s] w fun e w' => e = .returned (.int .i64 1) ∧ w = w' := by
  have q : ((s.size : Int) != 64) = true := by simp; omega
  go_enter Try.func64, Try.ntmps64
  go_wp2_with fail
  go_ret
  exact ⟨rfl, rfl⟩

set_option maxRecDepth 100000 in
theorem HexChecks_walk (w : World) (s : ByteArray) (hs : s.size ≤ 140737488351232) :
    Calls Try.prog 12 #[.string s] w fun e w' => e = .returned (.bool true) ∧ Below w.heap.size w w' := by
  by_cases h : s.size = 64
  · by_cases ha : AllHex s
    · replace ha := hid ha
      go_enter Try.func12, Try.ntmps12
      go_wp2_with fail
      refine (hex_Check s _ h ha.out).mono ?_
      rintro e w1 ⟨rfl, b1⟩
      go_wp2_with fail
      refine (ref_HexFault s _ h ha.out).mono ?_
      rintro e w2 ⟨rfl, b2⟩
      go_wp2_with fail
      go_ret
      exact ⟨rfl, b_call b1 b2⟩
    · replace ha := hid ha
      go_enter Try.func12, Try.ntmps12
      go_wp2_with fail
      refine (hex_Check_no s _ h ha.out).mono ?_
      rintro e w1 ⟨rfl, b1⟩
      go_wp2_with fail
      refine (ref_HexFault_no s _ h ha.out).mono ?_
      rintro e w2 ⟨rfl, b2⟩
      go_wp2_with fail
      go_ret
      exact ⟨rfl, b_call b1 b2⟩
  · go_enter Try.func12, Try.ntmps12
    go_wp2_with fail
    refine (hex_Check_size s _ h hs).mono ?_
    rintro e w1 ⟨rfl, rfl⟩
    go_wp2_with fail
    refine (ref_HexFault_size s _ h hs).mono ?_
    rintro e w2 ⟨rfl, rfl⟩
    go_wp2_with fail
    go_ret
    exact ⟨rfl, Below.refl _ _⟩
end Go.Proofs.Ytamepigaenkidaa
