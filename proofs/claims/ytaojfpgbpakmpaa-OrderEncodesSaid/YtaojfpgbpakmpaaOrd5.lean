/-
  The letters of a kind say which fields it has; what is wrong with an order.
-/
import Derived.Test.YtaojfpgbpakmpaaOrd4
namespace Go.Proofs.Ytaojfpgbpakmpaa
open Go.RowKit

theorem with_iff (k : Int) (c : UInt8) : withB k c = true ↔ c ∈ hasL k := by
  unfold withB
  rw [decide_eq_true_eq]
  show (∃ j, ∃ hj : j < (hasL k).toArray.size, (hasL k).toArray[j] = c) ↔ _
  constructor
  · rintro ⟨j, hj, rfl⟩
    simp
  · intro h
    obtain ⟨j, hj, e⟩ := List.getElem_of_mem h
    exact ⟨j, by simpa using hj, by simpa using e⟩
theorem with_n (k : Int) : withB k 110 = hasN k := by
  rw [Bool.eq_iff_iff, with_iff]
  unfold hasL
  cases hasN k <;> cases hasD k <;> cases hasB k <;> cases hasP k <;> by_cases h : k = 10 <;> simp [h]
theorem with_d (k : Int) : withB k 100 = hasD k := by
  rw [Bool.eq_iff_iff, with_iff]
  unfold hasL
  cases hasN k <;> cases hasD k <;> cases hasB k <;> cases hasP k <;> by_cases h : k = 10 <;> simp [h]
theorem with_b (k : Int) : withB k 98 = hasB k := by
  rw [Bool.eq_iff_iff, with_iff]
  unfold hasL
  cases hasN k <;> cases hasD k <;> cases hasB k <;> cases hasP k <;> by_cases h : k = 10 <;> simp [h]
theorem with_p (k : Int) : withB k 112 = hasP k := by
  rw [Bool.eq_iff_iff, with_iff]
  unfold hasL
  cases hasN k <;> cases hasD k <;> cases hasB k <;> cases hasP k <;> by_cases h : k = 10 <;> simp [h]
theorem hasS_none (k : Int) : (hasS k).toList.isEmpty = !isKind k := by
  rw [toList_data]
  show (hasL k).toArray.toList.isEmpty = _
  by_cases h : 1 ≤ k ∧ k ≤ 14
  · rcases kind_cases h with rfl | rfl | rfl | rfl | rfl | rfl | rfl | rfl | rfl | rfl | rfl | rfl | rfl | rfl <;> decide
  · have z1 : isKind k = false := by simp [isKind]; omega
    have z2 : hasN k = false := by simp [hasN]; omega
    have z3 : hasD k = false := by simp [hasD]; omega
    have z4 : hasB k = false := by simp [hasB]; omega
    have z5 : hasP k = false := by simp [hasP]; omega
    have z6 : ¬ k = 10 := by omega
    simp [hasL, z1, z2, z3, z4, z5, z6]

structure Order where
  kind : Int
  n : Int
  digest : ByteArray
  data : List UInt8
  parts : List Part

/-- A field stands that the kind does not have. -/
def ordForm (fn fd fb fp : Bool) (n : Int) (d : ByteArray) (bl pl : Nat) : Bool :=
  decide ((n ≠ 0 ∧ fn = false) ∨ (d.size ≠ 0 ∧ fd = false) ∨ (bl ≠ 0 ∧ fb = false) ∨ (pl ≠ 0 ∧ fp = false))
/-- What is wrong behind the form. -/
def ordRest (fd : Bool) (n : Int) (d : ByteArray) (bl : Nat) (z : Int) : Int :=
  if n < 0 ∨ 4000 < n then 4 else if fd = true ∧ hexFault d ≠ 0 then hexFault d else if 300 < bl then 1 else z
def ordFault (o : Order) : Int :=
  if isKind o.kind = false then 2 else if ordForm (hasN o.kind) (hasD o.kind) (hasB o.kind) (hasP o.kind) o.n o.digest o.data.length o.parts.length = true then 3 else ordRest (hasD o.kind) o.n o.digest o.data.length (partsFault o.parts)
theorem ordFault_kind {o : Order} (h : isKind o.kind = false) : ordFault o = 2 := by unfold ordFault; rw [if_pos h]
theorem ordFault_form {o : Order} (h : isKind o.kind = true) (h2 : ordForm (hasN o.kind) (hasD o.kind) (hasB o.kind) (hasP o.kind) o.n o.digest o.data.length o.parts.length = true) : ordFault o = 3 := by
  unfold ordFault; rw [if_neg (by rw [h]; decide), if_pos h2]
theorem ordFault_rest {o : Order} (h : isKind o.kind = true) (h2 : ordForm (hasN o.kind) (hasD o.kind) (hasB o.kind) (hasP o.kind) o.n o.digest o.data.length o.parts.length = false) :
    ordFault o = ordRest (hasD o.kind) o.n o.digest o.data.length (partsFault o.parts) := by
  unfold ordFault; rw [if_neg (by rw [h]; decide), if_neg (by rw [h2]; decide)]
end Go.Proofs.Ytaojfpgbpakmpaa
