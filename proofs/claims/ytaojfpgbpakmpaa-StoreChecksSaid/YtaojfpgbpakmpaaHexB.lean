/-
  hex.Bytes, hex.Check and the references' HexBytes, HexFault: what each answers, in one contract a function.
-/
import Derived.Test.YtaojfpgbpakmpaaHex
import Derived.Test.YtaojfpgbpakmpaaHex2
namespace Go.Proofs.Ytaojfpgbpakmpaa
open Go.RowKit

instance (s : ByteArray) : Decidable (AllHex s) := Nat.decidableBallLT s.size (fun k h => 0 ≤ hexv s[k])

/-- What is wrong with a text that is to be hexadecimal digits. -/
def hexErr (s : ByteArray) : Int := if 4000 < s.size then 1 else if s.size % 2 = 0 ∧ AllHex s then 0 else 3
/-- The bytes of such a text. -/
def hexRes (s : ByteArray) : List UInt8 := if hexErr s = 0 then hexDec s (s.size / 2) else []
/-- What is wrong with a digest. -/
def hexFault (s : ByteArray) : Int := if s.size = 64 then (if AllHex s then 0 else 3) else 1

theorem hexErr_zero {s : ByteArray} (h : hexErr s = 0) : s.size ≤ 4000 ∧ s.size % 2 = 0 ∧ AllHex s := by
  unfold hexErr at h
  split at h
  · cases h
  · split at h
    · rename_i h1 h2; exact ⟨by omega, h2⟩
    · cases h
theorem hexRes_len (s : ByteArray) : (hexRes s).length ≤ 2000 := by
  by_cases h : hexErr s = 0
  · unfold hexRes
    rw [if_pos h, hexDec_len]
    have := (hexErr_zero h).1
    omega
  · unfold hexRes
    rw [if_neg h]; simp
theorem hexFault_zero {s : ByteArray} (h : hexFault s = 0) : s.size = 64 ∧ AllHex s := by
  unfold hexFault at h
  split at h
  · split at h
    · exact ⟨by assumption, by assumption⟩
    · cases h
  · cases h

theorem hexRes_ok {s : ByteArray} (h : hexFault s = 0) : hexErr s = 0 ∧ hexRes s = hexDec s 32 ∧ (hexRes s).length = 32 := by
  obtain ⟨h1, h2⟩ := hexFault_zero h
  have e : hexErr s = 0 := by unfold hexErr; rw [if_neg (by omega), if_pos ⟨by omega, h2⟩]
  refine ⟨e, ?_, ?_⟩
  · unfold hexRes; rw [if_pos e, h1]
  · unfold hexRes; rw [if_pos e, hexDec_len, h1]

theorem hex_Bytes_any (s : ByteArray) (w : World) (hs : s.size ≤ 140737488351232) :
    Calls Try.prog 109 #[.string s] w fun e w' => ∃ v, e = .returned (.tuple #[v, .int .i64 (hexErr s)]) ∧ RB w' v (hexRes s) ∧ Below w.heap.size w w' := by
  by_cases h : 4000 < s.size
  · have e1 : hexErr s = 1 := by unfold hexErr; rw [if_pos h]
    refine (hex_Bytes_size s w h hs).mono ?_
    rintro e w' ⟨rfl, rfl⟩
    refine ⟨_, by rw [e1], ?_, Below.refl _ _⟩
    unfold hexRes; rw [if_neg (by rw [e1]; decide)]; exact RS.nil
  · by_cases h2 : s.size % 2 = 0
    · by_cases ha : AllHex s
      · have e1 : hexErr s = 0 := by unfold hexErr; rw [if_neg h, if_pos ⟨h2, ha⟩]
        refine (hex_Bytes s w (by omega) h2 ha).mono ?_
        rintro e w' ⟨v, rfl, ho, hb⟩
        refine ⟨v, by rw [e1], ?_, hb⟩
        unfold hexRes; rw [if_pos e1]; exact reads_u8 ho (by rw [hexDec_len]; omega)
      · have e1 : hexErr s = 3 := by unfold hexErr; rw [if_neg h, if_neg (fun g => ha g.2)]
        refine (hex_Bytes_no s w (by omega) h2 ha).mono ?_
        rintro e w' ⟨rfl, hb⟩
        refine ⟨_, by rw [e1], ?_, hb⟩
        unfold hexRes; rw [if_neg (by rw [e1]; decide)]; exact RS.nil
    · have e1 : hexErr s = 3 := by unfold hexErr; rw [if_neg h, if_neg (fun g => h2 g.1)]
      refine (hex_Bytes_odd s w (by omega) (by omega)).mono ?_
      rintro e w' ⟨rfl, rfl⟩
      refine ⟨_, by rw [e1], ?_, Below.refl _ _⟩
      unfold hexRes; rw [if_neg (by rw [e1]; decide)]; exact RS.nil

set_option maxRecDepth 100000 in
theorem ref_HexBytes_size (s : ByteArray) (w : World) (h : 4000 < s.size) (hm : s.size ≤ 140737488351232) :
    Calls Try.prog 117 #[.string s] w fun e w' => e = .returned (.tuple #[.slice none 0 0, .int .i64 1]) ∧ w = w' := by
  go_enter Try.func117, Try.ntmps117
  go_wp2_with fail
  go_ret2
  exact ⟨rfl, rfl⟩
set_option maxRecDepth 100000 in
theorem ref_HexBytes_odd (s : ByteArray) (w : World) (h : s.size ≤ 4000) (h2 : s.size % 2 = 1) :
    Calls Try.prog 117 #[.string s] w fun e w' => e = .returned (.tuple #[.slice none 0 0, .int .i64 3]) ∧ w = w' := by
  have q : (bits .and .i64 (s.size : Int) 1 == 1) = true := by rw [and1 _ (by omega), h2]; rfl
  go_enter Try.func117, Try.ntmps117
  go_wp2_with fail
  go_ret2
  exact ⟨rfl, rfl⟩

theorem ref_HexBytes_any (s : ByteArray) (w : World) (hs : s.size ≤ 140737488351232) :
    Calls Try.prog 117 #[.string s] w fun e w' => ∃ v, e = .returned (.tuple #[v, .int .i64 (hexErr s)]) ∧ RB w' v (hexRes s) ∧ Below w.heap.size w w' := by
  by_cases h : 4000 < s.size
  · have e1 : hexErr s = 1 := by unfold hexErr; rw [if_pos h]
    refine (ref_HexBytes_size s w h hs).mono ?_
    rintro e w' ⟨rfl, rfl⟩
    refine ⟨_, by rw [e1], ?_, Below.refl _ _⟩
    unfold hexRes; rw [if_neg (by rw [e1]; decide)]; exact RS.nil
  · by_cases h2 : s.size % 2 = 0
    · refine (ref_HexBytes s w (by omega) h2).mono ?_
      rintro e w' (⟨ha, v, rfl, ho, hb⟩ | ⟨ha, rfl, hb⟩)
      · have e1 : hexErr s = 0 := by unfold hexErr; rw [if_neg h, if_pos ⟨h2, ha⟩]
        refine ⟨v, by rw [e1], ?_, hb⟩
        unfold hexRes; rw [if_pos e1]; exact reads_u8 ho (by rw [hexDec_len]; omega)
      · have e1 : hexErr s = 3 := by unfold hexErr; rw [if_neg h, if_neg (fun g => ha g.2)]
        refine ⟨_, by rw [e1], ?_, hb⟩
        unfold hexRes; rw [if_neg (by rw [e1]; decide)]; exact RS.nil
    · have e1 : hexErr s = 3 := by unfold hexErr; rw [if_neg h, if_neg (fun g => h2 g.1)]
      refine (ref_HexBytes_odd s w (by omega) (by omega)).mono ?_
      rintro e w' ⟨rfl, rfl⟩
      refine ⟨_, by rw [e1], ?_, Below.refl _ _⟩
      unfold hexRes; rw [if_neg (by rw [e1]; decide)]; exact RS.nil

theorem hex_Check_any (s : ByteArray) (w : World) (hs : s.size ≤ 140737488351232) :
    Calls Try.prog 90 #[.string s] w fun e w' => e = .returned (.int .i64 (hexFault s)) ∧ Below w.heap.size w w' := by
  by_cases h : s.size = 64
  · by_cases ha : AllHex s
    · have e1 : hexFault s = 0 := by unfold hexFault; rw [if_pos h, if_pos ha]
      rw [e1]; exact hex_Check s w h ha
    · have e1 : hexFault s = 3 := by unfold hexFault; rw [if_pos h, if_neg ha]
      rw [e1]; exact hex_Check_no s w h ha
  · have e1 : hexFault s = 1 := by unfold hexFault; rw [if_neg h]
    rw [e1]
    refine (hex_Check_size s w h hs).mono ?_
    rintro e w' ⟨rfl, rfl⟩
    exact ⟨rfl, Below.refl _ _⟩
theorem ref_HexFault_any (s : ByteArray) (w : World) (hs : s.size ≤ 140737488351232) :
    Calls Try.prog 97 #[.string s] w fun e w' => e = .returned (.int .i64 (hexFault s)) ∧ Below w.heap.size w w' := by
  by_cases h : s.size = 64
  · by_cases ha : AllHex s
    · have e1 : hexFault s = 0 := by unfold hexFault; rw [if_pos h, if_pos ha]
      rw [e1]; exact ref_HexFault s w h ha
    · have e1 : hexFault s = 3 := by unfold hexFault; rw [if_pos h, if_neg ha]
      rw [e1]; exact ref_HexFault_no s w h ha
  · have e1 : hexFault s = 1 := by unfold hexFault; rw [if_neg h]
    rw [e1]
    refine (ref_HexFault_size s w h hs).mono ?_
    rintro e w' ⟨rfl, rfl⟩
    exact ⟨rfl, Below.refl _ _⟩
end Go.Proofs.Ytaojfpgbpakmpaa
