import Derived.Test.YtkbijjglodnfbaaGreatQcMnf
import Derived.Test.YtkbijjglodnfbaaGreatQcBas
import Derived.Lib.Bytealg
namespace Go.Proofs.YtkbijjglodnfbaaGreat
open Go.RowKit
def Rising {α : Type} (key : α → ByteArray) (l : List α) : Prop := l.Pairwise fun a b => slt (key a) (key b) = true
theorem notAfter_slt {y s : ByteArray} (h : notAfter (some y) s = false) : slt y s = true := by
 unfold notAfter at h
 simpa using h
theorem rising_of {α : Type} {f : Option α → α → Int} {key : α → ByteArray} (hf : ∀ p x, f p x = 0 → notAfter (p.map key) (key x) = false) :
 ∀ {l : List α} {p : Option α}, faultFrom f p l = 0 → Rising key l ∧ ∀ y, p = some y → ∀ x ∈ l, slt (key y) (key x) = true
 | [], p, _ => ⟨.nil, fun _ _ x hx => by simp at hx⟩
 | x :: l, p, h => by
   rw [faultFrom] at h
   by_cases h0 : f p x = 0
   · rw [if_pos h0] at h
     obtain ⟨h1, h2⟩ := rising_of hf h
     refine ⟨List.pairwise_cons.2 ⟨fun a ha => h2 x rfl a ha, h1⟩, fun y hy a ha => ?_⟩
     subst hy
     have h3 := notAfter_slt (hf _ _ h0)
     rcases List.mem_cons.1 ha with rfl | ha
     · exact h3
     · exact slt_trans h3 (h2 x rfl a ha)
   · rw [if_neg h0] at h; exact absurd h h0
def lowAt {α : Type} (key : α → ByteArray) (s : ByteArray) : List α → Nat
 | [] => 0
 | x :: l => if slt (key x) s = true then lowAt key s l + 1 else 0
theorem lowAt_le {α : Type} (key : α → ByteArray) (s : ByteArray) : ∀ l : List α, lowAt key s l ≤ l.length
 | [] => Nat.le_refl _
 | x :: l => by
   rw [lowAt]
   have := lowAt_le key s l
   split <;> simp <;> omega
theorem lowAt_before {α : Type} {key : α → ByteArray} {s : ByteArray} : ∀ {l : List α} {j : Nat} {x : α}, j < lowAt key s l → l[j]? = some x → slt (key x) s = true
 | [], j, x, h, _ => by simp [lowAt] at h
 | y :: l, j, x, h, hx => by
   rw [lowAt] at h
   split at h
   · rename_i h0
     cases j with
     | zero => simp only [List.getElem?_cons_zero, Option.some.injEq] at hx; subst hx; exact h0
     | succ j => exact lowAt_before (l := l) (Nat.lt_of_succ_lt_succ h) (by simpa using hx)
   · omega
theorem lowAt_at {α : Type} {key : α → ByteArray} {s : ByteArray} : ∀ {l : List α} {x : α}, l[lowAt key s l]? = some x → slt (key x) s = false
 | [], x, h => by simp at h
 | y :: l, x, h => by
   rw [lowAt] at h
   split at h
   · exact lowAt_at (l := l) (by simpa using h)
   · rename_i h0
     simp only [List.getElem?_cons_zero, Option.some.injEq] at h
     subst h
     simpa using h0
theorem lowAt_behind {α : Type} {key : α → ByteArray} {s : ByteArray} {l : List α} (hr : Rising key l) {j : Nat} {x : α} (h : lowAt key s l ≤ j) (hx : l[j]? = some x) : slt (key x) s = false := by
 obtain ⟨hj, hxe⟩ := List.getElem?_eq_some_iff.1 hx
 have h1 : l[lowAt key s l]? = some l[lowAt key s l] := List.getElem?_eq_getElem (by omega)
 have h2 := lowAt_at h1
 by_cases he : lowAt key s l = j
 · exact lowAt_at (by rw [he]; exact hx)
 · have h3 : slt (key l[lowAt key s l]) (key l[j]) = true := List.pairwise_iff_getElem.1 hr _ _ (by omega) hj (by omega)
   rw [hxe] at h3
   cases h4 : slt (key x) s with
   | false => rfl
   | true => rw [slt_trans h3 h4] at h2; cases h2
theorem lowAt_next {α : Type} {key : α → ByteArray} {s : ByteArray} {l : List α} (hr : Rising key l) {j : Nat} {x : α} (h : lowAt key s l < j) (hx : l[j]? = some x) : slt s (key x) = true := by
 obtain ⟨hj, hxe⟩ := List.getElem?_eq_some_iff.1 hx
 have h1 : l[lowAt key s l]? = some l[lowAt key s l] := List.getElem?_eq_getElem (by omega)
 have h2 := lowAt_at h1
 have h3 : slt (key l[lowAt key s l]) (key l[j]) = true := List.pairwise_iff_getElem.1 hr _ _ (by omega) hj h
 rw [hxe] at h3
 cases h4 : slt s (key x) with
 | true => rfl
 | false =>
   cases h5 : slt (key x) s with
   | true => rw [lowAt_behind hr (Nat.le_of_lt h) hx] at h5; cases h5
   | false =>
     have := slt_tri h4 h5
     rw [← this] at h3
     rw [h3] at h2; cases h2
theorem lowAt_only {α : Type} {key : α → ByteArray} {s : ByteArray} {l : List α} {i : Nat} (hi : i ≤ l.length) (h1 : ∀ j x, j < i → l[j]? = some x → slt (key x) s = true) (h2 : ∀ x, l[i]? = some x → slt (key x) s = false) : lowAt key s l = i := by
 have hle := lowAt_le key s l
 rcases Nat.lt_trichotomy (lowAt key s l) i with h | h | h
 · have hx : l[lowAt key s l]? = some l[lowAt key s l] := List.getElem?_eq_getElem (by omega)
   have := h1 _ _ h hx
   rw [lowAt_at hx] at this; cases this
 · exact h
 · have hx : l[i]? = some l[i] := List.getElem?_eq_getElem (by omega)
   have := lowAt_before h hx
   rw [h2 _ hx] at this; cases this
def hasKey {α : Type} (key : α → ByteArray) (s : ByteArray) (l : List α) : Bool := match l[lowAt key s l]? with | none => false | some x => (key x).toList == s.toList
theorem hasKey_some {α : Type} {key : α → ByteArray} {s : ByteArray} {l : List α} {x : α} (h : l[lowAt key s l]? = some x) : hasKey key s l = ((key x).toList == s.toList) := by unfold hasKey; rw [h]
theorem hasKey_none {α : Type} {key : α → ByteArray} {s : ByteArray} {l : List α} (h : l[lowAt key s l]? = none) : hasKey key s l = false := by unfold hasKey; rw [h]
theorem key_eq {a b : ByteArray} : (a.toList == b.toList) = true ↔ a = b := ⟨fun h => toList_inj (by simpa using h), fun h => by rw [h]; simp⟩
theorem hasKey_at {α : Type} {key : α → ByteArray} {s : ByteArray} {l : List α} (h : hasKey key s l = true) : ∃ x, l[lowAt key s l]? = some x ∧ key x = s := by
 unfold hasKey at h
 split at h
 · cases h
 · rename_i x hx; exact ⟨x, hx, key_eq.1 h⟩
theorem hasKey_no {α : Type} {key : α → ByteArray} {s : ByteArray} {l : List α} (hr : Rising key l) (h : hasKey key s l = false) {j : Nat} {x : α} (hx : l[j]? = some x) : key x ≠ s := by
 intro he
 unfold hasKey at h
 have h1 : lowAt key s l = j := by
  rcases Nat.lt_trichotomy (lowAt key s l) j with h1 | h1 | h1
  · have := lowAt_next hr h1 hx; rw [he, slt_irrefl] at this; cases this
  · exact h1
  · have := lowAt_before h1 hx; rw [he, slt_irrefl] at this; cases this
 rw [h1, hx] at h
 simp only [] at h
 rw [key_eq.2 he] at h; cases h
theorem rising_low {α : Type} {key : α → ByteArray} {s : ByteArray} {l : List α} (hr : Rising key l) {i j : Nat} {x y : α} (hx : l[i]? = some x) (hk : slt (key x) s = true) (hj : j ≤ i) (hy : l[j]? = some y) : slt (key y) s = true := by
 by_cases he : j = i
 · subst he; rw [hx] at hy; obtain rfl := Option.some.inj hy; exact hk
 · obtain ⟨hi, rfl⟩ := List.getElem?_eq_some_iff.1 hx
   obtain ⟨hj2, rfl⟩ := List.getElem?_eq_some_iff.1 hy
   exact slt_trans (List.pairwise_iff_getElem.1 hr j i hj2 hi (by omega)) hk
theorem rising_high {α : Type} {key : α → ByteArray} {s : ByteArray} {l : List α} (hr : Rising key l) {i j : Nat} {x y : α} (hx : l[i]? = some x) (hk : slt (key x) s = false) (hj : i ≤ j) (hy : l[j]? = some y) : slt (key y) s = false := by
 cases h : slt (key y) s with
 | false => rfl
 | true => rw [rising_low hr hy h hj hx] at hk; cases hk
def cmpB (a b : ByteArray) : Int := if slt a b = true then -1 else if slt b a = true then 1 else 0
theorem cmpL_bytes : ∀ a b : List UInt8, Lib.compareBytes a b = if Op.bytesLess a b = true then -1 else if Op.bytesLess b a = true then 1 else 0
 | [], [] => by simp [Lib.compareBytes, Op.bytesLess]
 | [], _ :: _ => by simp [Lib.compareBytes, Op.bytesLess]
 | _ :: _, [] => by simp [Lib.compareBytes, Op.bytesLess]
 | a :: x, b :: y => by
   rw [Lib.compareBytes, cmpL_bytes x y]
   simp only [Op.bytesLess, Bool.or_eq_true, Bool.and_eq_true, beq_iff_eq, decide_eq_true_eq]
   by_cases h1 : a < b
   · simp [h1]
   · by_cases h2 : b < a
     · have hne : a ≠ b := fun e => by subst e; exact h1 h2
       simp [h1, h2, hne]
     · have he : a = b := by
        rw [UInt8.lt_iff_toNat_lt] at h1 h2
        apply UInt8.toNat_inj.1
        omega
       subst he
       simp [h1]
theorem cmpB_eq (a b : ByteArray) : Lib.compareBytes a.data.toList b.data.toList = cmpB a b := by
 rw [cmpL_bytes]
 unfold cmpB slt
 rw [toList_data, toList_data]
theorem cmpB_lt {a b : ByteArray} (h : slt a b = true) : cmpB a b = -1 := by unfold cmpB; rw [if_pos h]
theorem cmpB_ge {a b : ByteArray} (h : slt a b = false) : ∃ z, cmpB a b = z ∧ 0 ≤ z := by
 refine ⟨_, rfl, ?_⟩
 unfold cmpB
 rw [if_neg (by rw [h]; decide)]
 split <;> decide
theorem cmpB_zero (a b : ByteArray) : (cmpB a b == 0) = (a.toList == b.toList) := by
 unfold cmpB
 cases h : slt a b with
 | true =>
   rw [if_pos rfl]
   cases h2 : (a.toList == b.toList) with
   | false => rfl
   | true => rw [key_eq.1 h2, slt_irrefl] at h; cases h
 | false =>
   rw [if_neg (by decide)]
   cases h1 : slt b a with
   | true =>
     rw [if_pos rfl]
     cases h2 : (a.toList == b.toList) with
     | false => rfl
     | true => rw [key_eq.1 h2, slt_irrefl] at h1; cases h1
   | false =>
     rw [if_neg (by decide), slt_tri h h1]
     simp
end Go.Proofs.YtkbijjglodnfbaaGreat
