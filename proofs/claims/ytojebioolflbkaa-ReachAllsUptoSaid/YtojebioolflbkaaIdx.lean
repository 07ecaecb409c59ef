/-
  index.Check and the reference's EntriesFault: what each answers.
-/
import Derived.Test.YtojebioolflbkaaMnf
import Derived.Test.YtojebioolflbkaaPin
namespace Go.Proofs.Ytojebioolflbkaa
open Go.RowKit

def stampBad (n : Int) : Bool := decide (n < 0) || decide (1099511627776 < n)
def entryFault (p : Option Entry) (x : Entry) : Int :=
  if hexFault x.key = 0 then (if notAfter (p.map (·.key)) x.key = true then 6 else if partsFault x.parts = 0 then (if pinErr x.pins = 0 then (if stampBad x.stamp = true then 4 else 0) else 4) else partsFault x.parts) else hexFault x.key
def entriesFault (l : List Entry) : Int := if 10 < l.length then 1 else faultFrom entryFault none l
theorem pinErr_val (n : Int) : pinErr n = 0 ∨ pinErr n = 4 := by unfold pinErr; split <;> simp
theorem pinErr_bad {n : Int} (h : n < 0 ∨ 5 < n) : pinErr n = 4 := by unfold pinErr; rw [if_pos h]
theorem pinErr_ok {n : Int} (h : ¬ (n < 0 ∨ 5 < n)) : pinErr n = 0 := by unfold pinErr; rw [if_neg h]
theorem pinErr_zero {n : Int} (h : pinErr n = 0) : 0 ≤ n ∧ n ≤ 5 := by
  unfold pinErr at h
  split at h
  · cases h
  · omega
section
variable {p : Option Entry} {x : Entry}
theorem entryFault_key (h : hexFault x.key ≠ 0) : entryFault p x = hexFault x.key := by unfold entryFault; rw [if_neg h]
theorem entryFault_twice (h : hexFault x.key = 0) (h2 : notAfter (p.map (·.key)) x.key = true) : entryFault p x = 6 := by unfold entryFault; rw [if_pos h, if_pos h2]
theorem entryFault_parts (h : hexFault x.key = 0) (h2 : notAfter (p.map (·.key)) x.key = false) (h3 : partsFault x.parts ≠ 0) : entryFault p x = partsFault x.parts := by unfold entryFault; rw [if_pos h, if_neg (by rw [h2]; decide), if_neg h3]
theorem entryFault_pins (h : hexFault x.key = 0) (h2 : notAfter (p.map (·.key)) x.key = false) (h3 : partsFault x.parts = 0) (h4 : pinErr x.pins ≠ 0) : entryFault p x = 4 := by unfold entryFault; rw [if_pos h, if_neg (by rw [h2]; decide), if_pos h3, if_neg h4]
theorem entryFault_stamp (h : hexFault x.key = 0) (h2 : notAfter (p.map (·.key)) x.key = false) (h3 : partsFault x.parts = 0) (h4 : pinErr x.pins = 0) (h5 : stampBad x.stamp = true) : entryFault p x = 4 := by unfold entryFault; rw [if_pos h, if_neg (by rw [h2]; decide), if_pos h3, if_pos h4, if_pos h5]
theorem entryFault_ok (h : hexFault x.key = 0) (h2 : notAfter (p.map (·.key)) x.key = false) (h3 : partsFault x.parts = 0) (h4 : pinErr x.pins = 0) (h5 : stampBad x.stamp = false) : entryFault p x = 0 := by unfold entryFault; rw [if_pos h, if_neg (by rw [h2]; decide), if_pos h3, if_pos h4, if_neg (by rw [h5]; decide)]
theorem entryFault_zero (h : entryFault p x = 0) : hexFault x.key = 0 ∧ notAfter (p.map (·.key)) x.key = false ∧ partsFault x.parts = 0 ∧ (0 ≤ x.pins ∧ x.pins ≤ 5) ∧ 0 ≤ x.stamp ∧ x.stamp ≤ 1099511627776 := by
  unfold entryFault at h
  split at h
  · rename_i h1
    split at h
    · cases h
    · rename_i h2
      split at h
      · rename_i h3
        split at h
        · rename_i h4
          split at h
          · cases h
          · rename_i h5
            simp only [stampBad, Bool.or_eq_true, decide_eq_true_eq] at h5
            exact ⟨h1, by simpa using h2, h3, pinErr_zero h4, by omega, by omega⟩
        · cases h
      · rename_i h3; exact absurd h h3
  · rename_i h1; exact absurd h h1
end
theorem entriesFault_long {l : List Entry} (h : 10 < l.length) : entriesFault l = 1 := by unfold entriesFault; rw [if_pos h]
theorem entriesFault_short {l : List Entry} (h : ¬ 10 < l.length) : entriesFault l = faultFrom entryFault (ahead l 0) (l.drop 0) := by unfold entriesFault; rw [if_neg h]; rfl
theorem hexFault_pos {s : ByteArray} (h : hexFault s = 0) : 1 ≤ s.size := by have := (hexFault_zero h).1; omega

end Go.Proofs.Ytojebioolflbkaa
