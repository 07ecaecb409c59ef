/-
  order.of: which fields a kind of order has. The reference's has and with: which fields a kind of order has. The reference's with: has a kind of order a field? The reference's with: what it answers. The letters of a kind say which fields it has; what is wrong with an order.
-/
import Derived.Test.YtojebioolflbkaaAct
import Derived.Handy
namespace Go.Proofs.Ytojebioolflbkaa
open Go.RowKit

def isKind (k : Int) : Bool := decide (1 ≤ k ∧ k ≤ 14)
def hasN (k : Int) : Bool := decide (k = 9 ∨ k = 11 ∨ k = 12)
def hasD (k : Int) : Bool := decide ((2 ≤ k ∧ k ≤ 8) ∨ (12 ≤ k ∧ k ≤ 14))
def hasB (k : Int) : Bool := decide (k = 1)
def hasP (k : Int) : Bool := decide (k = 5 ∨ k = 13)
theorem kind_cases {k : Int} (h : 1 ≤ k ∧ k ≤ 14) : k = 1 ∨ k = 2 ∨ k = 3 ∨ k = 4 ∨ k = 5 ∨ k = 6 ∨ k = 7 ∨ k = 8 ∨ k = 9 ∨ k = 10 ∨ k = 11 ∨ k = 12 ∨ k = 13 ∨ k = 14 := by omega

set_option maxRecDepth 100000 in
set_option maxHeartbeats 1000000 in
theorem order_of (k : Int) (w : World) :
    Calls Try.prog 40 #[.int .i64 k] w fun e w' => e = .returned (.tuple #[.agg #[.bool (hasN k), .bool (hasD k), .bool (hasB k), .bool (hasP k)], .bool (isKind k)]) ∧ Below w.heap.size w w' := by
  by_cases h : 1 ≤ k ∧ k ≤ 14
  · rcases kind_cases h with rfl | rfl | rfl | rfl | rfl | rfl | rfl | rfl | rfl | rfl | rfl | rfl | rfl | rfl
    all_goals
      go_enter Try.func40, Try.ntmps40
      go_wp2_with fail
      go_returns
      refine ⟨rfl, ?_⟩
      first | exact Below.refl _ _ | exact b_alloc (Below.refl _ _) _
  · have q1 : (k == 1) = false := by simp; omega
    have q2 : (k == 2) = false := by simp; omega
    have q3 : (k == 3) = false := by simp; omega
    have q4 : (k == 4) = false := by simp; omega
    have q5 : (k == 5) = false := by simp; omega
    have q6 : (k == 6) = false := by simp; omega
    have q7 : (k == 7) = false := by simp; omega
    have q8 : (k == 8) = false := by simp; omega
    have q9 : (k == 9) = false := by simp; omega
    have q10 : (k == 10) = false := by simp; omega
    have q11 : (k == 11) = false := by simp; omega
    have q12 : (k == 12) = false := by simp; omega
    have q13 : (k == 13) = false := by simp; omega
    have q14 : (k == 14) = false := by simp; omega
    have z1 : isKind k = false := by simp [isKind]; omega
    have z2 : hasN k = false := by simp [hasN]; omega
    have z3 : hasD k = false := by simp [hasD]; omega
    have z4 : hasB k = false := by simp [hasB]; omega
    have z5 : hasP k = false := by simp [hasP]; omega
    rw [z1, z2, z3, z4, z5]
    clear h z1 z2 z3 z4 z5
    go_enter Try.func40, Try.ntmps40
    go_wp2_with fail
    go_returns
    refine ⟨rfl, ?_⟩
    first | exact Below.refl _ _ | exact b_alloc (Below.refl _ _) _
end Go.Proofs.Ytojebioolflbkaa

namespace Go.Proofs.Ytojebioolflbkaa
open Go.RowKit

/-- The fields' letters. -/
def hasL (k : Int) : List UInt8 :=
  (if hasN k = true then [110] else []) ++ (if hasD k = true then [100] else []) ++ (if hasB k = true then [98] else []) ++ (if hasP k = true then [112] else []) ++ (if k = 10 then [45] else [])
def hasS (k : Int) : ByteArray := ⟨(hasL k).toArray⟩

set_option maxRecDepth 100000 in
set_option maxHeartbeats 1000000 in
theorem ref_has (k : Int) (w : World) :
    Calls Try.prog 46 #[.int .i64 k] w fun e w' => e = .returned (.string (hasS k)) ∧ Below w.heap.size w w' := by
  by_cases h : 1 ≤ k ∧ k ≤ 14
  · rcases kind_cases h with rfl | rfl | rfl | rfl | rfl | rfl | rfl | rfl | rfl | rfl | rfl | rfl | rfl | rfl
    all_goals
      go_enter Try.func46, Try.ntmps46
      go_wp2_with fail
      go_ret
      refine ⟨rfl, ?_⟩
      first | exact Below.refl _ _ | exact b_alloc (Below.refl _ _) _ | exact below_drewN (b_alloc (Below.refl _ _) _) _
  · have hr : hasS k = ⟨#[]⟩ := by
      have z2 : hasN k = false := by simp [hasN]; omega
      have z3 : hasD k = false := by simp [hasD]; omega
      have z4 : hasB k = false := by simp [hasB]; omega
      have z5 : hasP k = false := by simp [hasP]; omega
      have z6 : ¬ k = 10 := by omega
      simp [hasS, hasL, z2, z3, z4, z5, z6]
    rw [hr]
    clear hr
    by_cases h1 : k < 1
    · have q1 : decide (k < 1) = true := by simp; omega
      go_enter Try.func46, Try.ntmps46
      go_wp2_with fail
      go_ret
      exact ⟨rfl, Below.refl _ _⟩
    · have q1 : decide (k < 1) = false := by simp; omega
      have q2 : decide (14 < k) = true := by simp; omega
      go_enter Try.func46, Try.ntmps46
      go_wp2_with fail
      go_ret
      exact ⟨rfl, Below.refl _ _⟩
end Go.Proofs.Ytojebioolflbkaa

namespace Go.Proofs.Ytojebioolflbkaa
open Go.RowKit

theorem hasS_size (k : Int) : (hasS k).size ≤ 5 := by
  show (hasL k).toArray.size ≤ 5
  rw [List.size_toArray]
  unfold hasL
  repeat' split
  all_goals decide
/-- The letter c is among the letters of kind k. -/
def withB (k : Int) (c : UInt8) : Bool := decide (∃ j, ∃ hj : j < (hasS k).size, (hasS k)[j] = c)
end Go.Proofs.Ytojebioolflbkaa

namespace Go.Proofs.Ytojebioolflbkaa
open Go.RowKit

theorem byte_ne {a b : UInt8} (h : a ≠ b) : ((a.toNat : Int) == (b.toNat : Int)) = false := by
  simp only [beq_eq_false_iff_ne, ne_eq]
  intro e
  exact h (UInt8.toNat.inj (by omega))

set_option maxRecDepth 100000 in
set_option maxHeartbeats 400000 in
theorem ref_with (k : Int) (c : UInt8) (w : World) :
    Calls Try.prog 47 #[.int .i64 k, .int .u8 (c.toNat : Int)] w fun e w' => e = .returned (.bool (withB k c)) ∧ Below w.heap.size w w' := by
  have hs5 := hasS_size k
  have hyes := hid (fun j (hj : j < (hasS k).size) (he : (hasS k)[j] = c) => show withB k c = true from decide_eq_true ⟨j, hj, he⟩)
  have hno := hid (fun (hall : ∀ j (hj : j < (hasS k).size), (hasS k)[j] ≠ c) => show withB k c = false from decide_eq_false (fun ⟨j, hj, he⟩ => hall j hj he))
  have hh := hid fun w => ref_has k w
  generalize hasS k = s at *
  generalize withB k c = r at *
  go_enter Try.func47, Try.ntmps47
  go_wp2_with fail
  ((with_reducible refine (hh.out _).mono ?_); rintro e w1 ⟨rfl, b1⟩)
  have hcv := Lib.run_convert_string_bytes (P := Try.prog) w1 9 28 5 s Try.underlying9 Try.underlying28 Try.underlying5
  have hrd := conv_reads w1 5 s (by omega)
  have hbl := hid (b_call b1 (conv_below w1 5 s))
  have hat := conv_at hrd
  replace hat := hid hat
  clear hrd b1
  generalize Lib.bytesWorld w1 5 s = w2 at *
  generalize grownCap w1 s.size 0 5 = c1 at *
  generalize w1.heap.size = b1 at *
  go_wp2_with fail
  go_loopw [6, 11] (fun _ i wr => ∃ m : Nat, i = .int .i64 (m : Int) ∧ m ≤ s.size ∧ wr = w2 ∧ Hid (∀ j (hj : j < s.size), j < m → s[j] ≠ c)) (fun _ i _ => s.size - (intOf i).toNat)
  case atStart => exact ⟨0, rfl, by omega, rfl, hid (fun j _ hj => by omega)⟩
  case round =>
    obtain ⟨m, rfl, hm, rfl, hall⟩ := hrel
    by_cases hlt : m < s.size
    · have hcell := hat.out m hlt
      unfold EU8 at hcell
      by_cases g : s[m] = c
      · have hr := hid (hyes.out m hlt g)
        have d1 : ((s[m].toNat : Int) == (c.toNat : Int)) = true := by rw [g]; simp
        clear g
        go_wp2_with fail
        go_ret
        exact ⟨by rw [hr.out]; rfl, hbl.out⟩
      · have d1 := byte_ne g
        have hn := hid (upto_next (P := fun x => x ≠ c) hall.out hlt g)
        clear g
        go_wp2_with fail
        go_roundw
        case rel => exact ⟨m + 1, by go_num, by omega, trivial, hn⟩
        case measure => simp [intOf]; omega
    · obtain rfl : m = s.size := by omega
      have hr := hid (hno.out (fun j hj => hall.out j hj hj))
      clear hall
      go_wp2_with fail
      go_ret
      exact ⟨by rw [hr.out]; rfl, hbl.out⟩
end Go.Proofs.Ytojebioolflbkaa

namespace Go.Proofs.Ytojebioolflbkaa
open Go.RowKit

theorem with_iff (k : Int) (c : UInt8) : withB k c = true ↔ c ∈ hasL k := by
  unfold withB
  rw [decide_eq_true_eq]
  show (∃ j, ∃ hj : j < (hasL k).toArray.size, (hasL k).toArray[j] = c) ↔ _
  constructor
  · rintro ⟨j, hj, rfl⟩
    simp
  · intro h
    obtain ⟨j, hj, e⟩ := List.getElem_of_mem h
    exact ⟨j, by simpa using hj, by simpa using e⟩
theorem with_n (k : Int) : withB k 110 = hasN k := by
  rw [Bool.eq_iff_iff, with_iff]
  unfold hasL
  cases hasN k <;> cases hasD k <;> cases hasB k <;> cases hasP k <;> by_cases h : k = 10 <;> simp [h]
theorem with_d (k : Int) : withB k 100 = hasD k := by
  rw [Bool.eq_iff_iff, with_iff]
  unfold hasL
  cases hasN k <;> cases hasD k <;> cases hasB k <;> cases hasP k <;> by_cases h : k = 10 <;> simp [h]
theorem with_b (k : Int) : withB k 98 = hasB k := by
  rw [Bool.eq_iff_iff, with_iff]
  unfold hasL
  cases hasN k <;> cases hasD k <;> cases hasB k <;> cases hasP k <;> by_cases h : k = 10 <;> simp [h]
theorem with_p (k : Int) : withB k 112 = hasP k := by
  rw [Bool.eq_iff_iff, with_iff]
  unfold hasL
  cases hasN k <;> cases hasD k <;> cases hasB k <;> cases hasP k <;> by_cases h : k = 10 <;> simp [h]
theorem hasS_none (k : Int) : (hasS k).toList.isEmpty = !isKind k := by
  rw [toList_data]
  show (hasL k).toArray.toList.isEmpty = _
  by_cases h : 1 ≤ k ∧ k ≤ 14
  · rcases kind_cases h with rfl | rfl | rfl | rfl | rfl | rfl | rfl | rfl | rfl | rfl | rfl | rfl | rfl | rfl <;> decide
  · have z1 : isKind k = false := by simp [isKind]; omega
    have z2 : hasN k = false := by simp [hasN]; omega
    have z3 : hasD k = false := by simp [hasD]; omega
    have z4 : hasB k = false := by simp [hasB]; omega
    have z5 : hasP k = false := by simp [hasP]; omega
    have z6 : ¬ k = 10 := by omega
    simp [hasL, z1, z2, z3, z4, z5, z6]

structure Order where
  kind : Int
  n : Int
  digest : ByteArray
  data : List UInt8
  parts : List Part

/-- A field stands that the kind does not have. -/
def ordForm (fn fd fb fp : Bool) (n : Int) (d : ByteArray) (bl pl : Nat) : Bool :=
  decide ((n ≠ 0 ∧ fn = false) ∨ (d.size ≠ 0 ∧ fd = false) ∨ (bl ≠ 0 ∧ fb = false) ∨ (pl ≠ 0 ∧ fp = false))
/-- What is wrong behind the form. -/
def ordRest (fd : Bool) (n : Int) (d : ByteArray) (bl : Nat) (z : Int) : Int :=
  if n < 0 ∨ 4000 < n then 4 else if fd = true ∧ hexFault d ≠ 0 then hexFault d else if 300 < bl then 1 else z
def ordFault (o : Order) : Int :=
  if isKind o.kind = false then 2 else if ordForm (hasN o.kind) (hasD o.kind) (hasB o.kind) (hasP o.kind) o.n o.digest o.data.length o.parts.length = true then 3 else ordRest (hasD o.kind) o.n o.digest o.data.length (partsFault o.parts)
theorem ordFault_kind {o : Order} (h : isKind o.kind = false) : ordFault o = 2 := by unfold ordFault; rw [if_pos h]
theorem ordFault_form {o : Order} (h : isKind o.kind = true) (h2 : ordForm (hasN o.kind) (hasD o.kind) (hasB o.kind) (hasP o.kind) o.n o.digest o.data.length o.parts.length = true) : ordFault o = 3 := by
  unfold ordFault; rw [if_neg (by rw [h]; decide), if_pos h2]
theorem ordFault_rest {o : Order} (h : isKind o.kind = true) (h2 : ordForm (hasN o.kind) (hasD o.kind) (hasB o.kind) (hasP o.kind) o.n o.digest o.data.length o.parts.length = false) :
    ordFault o = ordRest (hasD o.kind) o.n o.digest o.data.length (partsFault o.parts) := by
  unfold ordFault; rw [if_neg (by rw [h]; decide), if_neg (by rw [h2]; decide)]
end Go.Proofs.Ytojebioolflbkaa
