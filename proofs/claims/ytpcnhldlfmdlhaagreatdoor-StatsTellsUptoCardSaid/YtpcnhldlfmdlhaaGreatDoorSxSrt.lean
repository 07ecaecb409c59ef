/-
  Lists in which each key comes before the one behind it: where a key has its place, and what it is to put an element there. No function of the program is named here.
-/
import Derived.Test.YtpcnhldlfmdlhaaGreatDoorSxMnf
import Derived.Test.YtpcnhldlfmdlhaaGreatDoorSxBas
import Derived.Lib.Bytealg
namespace Go.Proofs.YtpcnhldlfmdlhaaGreatDoor
open Go.RowKit

/-- Each key comes before the ones behind it. -/
def Rising {α : Type} (key : α → ByteArray) (l : List α) : Prop := l.Pairwise fun a b => slt (key a) (key b) = true

theorem notAfter_slt {y s : ByteArray} (h : notAfter (some y) s = false) : slt y s = true := by
  unfold notAfter at h
  simpa using h
theorem rising_of {α : Type} {f : Option α → α → Int} {key : α → ByteArray} (hf : ∀ p x, f p x = 0 → notAfter (p.map key) (key x) = false) :
    ∀ {l : List α} {p : Option α}, faultFrom f p l = 0 → Rising key l ∧ ∀ y, p = some y → ∀ x ∈ l, slt (key y) (key x) = true
  | [], p, _ => ⟨.nil, fun _ _ x hx => by simp at hx⟩
  | x :: l, p, h => by
    rw [faultFrom] at h
    by_cases h0 : f p x = 0
    · rw [if_pos h0] at h
      obtain ⟨h1, h2⟩ := rising_of hf h
      refine ⟨List.pairwise_cons.2 ⟨fun a ha => h2 x rfl a ha, h1⟩, fun y hy a ha => ?_⟩
      subst hy
      have h3 := notAfter_slt (hf _ _ h0)
      rcases List.mem_cons.1 ha with rfl | ha
      · exact h3
      · exact slt_trans h3 (h2 x rfl a ha)
    · rw [if_neg h0] at h; exact absurd h h0

/-- How many keys come before s, from the front on. -/
def lowAt {α : Type} (key : α → ByteArray) (s : ByteArray) : List α → Nat
  | [] => 0
  | x :: l => if slt (key x) s = true then lowAt key s l + 1 else 0
theorem lowAt_le {α : Type} (key : α → ByteArray) (s : ByteArray) : ∀ l : List α, lowAt key s l ≤ l.length
  | [] => Nat.le_refl _
  | x :: l => by
    rw [lowAt]
    have := lowAt_le key s l
    split <;> simp <;> omega
theorem lowAt_before {α : Type} {key : α → ByteArray} {s : ByteArray} : ∀ {l : List α} {j : Nat} {x : α}, j < lowAt key s l → l[j]? = some x → slt (key x) s = true
  | [], j, x, h, _ => by simp [lowAt] at h
  | y :: l, j, x, h, hx => by
    rw [lowAt] at h
    split at h
    · rename_i h0
      cases j with
      | zero => simp only [List.getElem?_cons_zero, Option.some.injEq] at hx; subst hx; exact h0
      | succ j => exact lowAt_before (l := l) (Nat.lt_of_succ_lt_succ h) (by simpa using hx)
    · omega
theorem lowAt_at {α : Type} {key : α → ByteArray} {s : ByteArray} : ∀ {l : List α} {x : α}, l[lowAt key s l]? = some x → slt (key x) s = false
  | [], x, h => by simp at h
  | y :: l, x, h => by
    rw [lowAt] at h
    split at h
    · exact lowAt_at (l := l) (by simpa using h)
    · rename_i h0
      simp only [List.getElem?_cons_zero, Option.some.injEq] at h
      subst h
      simpa using h0
theorem lowAt_behind {α : Type} {key : α → ByteArray} {s : ByteArray} {l : List α} (hr : Rising key l) {j : Nat} {x : α} (h : lowAt key s l ≤ j) (hx : l[j]? = some x) : slt (key x) s = false := by
  obtain ⟨hj, hxe⟩ := List.getElem?_eq_some_iff.1 hx
  have h1 : l[lowAt key s l]? = some l[lowAt key s l] := List.getElem?_eq_getElem (by omega)
  have h2 := lowAt_at h1
  by_cases he : lowAt key s l = j
  · exact lowAt_at (by rw [he]; exact hx)
  · have h3 : slt (key l[lowAt key s l]) (key l[j]) = true := List.pairwise_iff_getElem.1 hr _ _ (by omega) hj (by omega)
    rw [hxe] at h3
    cases h4 : slt (key x) s with
    | false => rfl
    | true => rw [slt_trans h3 h4] at h2; cases h2
theorem lowAt_next {α : Type} {key : α → ByteArray} {s : ByteArray} {l : List α} (hr : Rising key l) {j : Nat} {x : α} (h : lowAt key s l < j) (hx : l[j]? = some x) : slt s (key x) = true := by
  obtain ⟨hj, hxe⟩ := List.getElem?_eq_some_iff.1 hx
  have h1 : l[lowAt key s l]? = some l[lowAt key s l] := List.getElem?_eq_getElem (by omega)
  have h2 := lowAt_at h1
  have h3 : slt (key l[lowAt key s l]) (key l[j]) = true := List.pairwise_iff_getElem.1 hr _ _ (by omega) hj h
  rw [hxe] at h3
  cases h4 : slt s (key x) with
  | true => rfl
  | false =>
    cases h5 : slt (key x) s with
    | true => rw [lowAt_behind hr (Nat.le_of_lt h) hx] at h5; cases h5
    | false =>
      have := slt_tri h4 h5
      rw [← this] at h3
      rw [h3] at h2; cases h2
/-- The place is the only one of its kind. -/
theorem lowAt_only {α : Type} {key : α → ByteArray} {s : ByteArray} {l : List α} {i : Nat} (hi : i ≤ l.length) (h1 : ∀ j x, j < i → l[j]? = some x → slt (key x) s = true) (h2 : ∀ x, l[i]? = some x → slt (key x) s = false) : lowAt key s l = i := by
  have hle := lowAt_le key s l
  rcases Nat.lt_trichotomy (lowAt key s l) i with h | h | h
  · have hx : l[lowAt key s l]? = some l[lowAt key s l] := List.getElem?_eq_getElem (by omega)
    have := h1 _ _ h hx
    rw [lowAt_at hx] at this; cases this
  · exact h
  · have hx : l[i]? = some l[i] := List.getElem?_eq_getElem (by omega)
    have := lowAt_before h hx
    rw [h2 _ hx] at this; cases this
theorem key_eq {a b : ByteArray} : (a.toList == b.toList) = true ↔ a = b := ⟨fun h => toList_inj (by simpa using h), fun h => by rw [h]; simp⟩
end Go.Proofs.YtpcnhldlfmdlhaaGreatDoor
