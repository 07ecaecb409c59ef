/-
  Where the first element with a key lies. No function of the program is named here.
-/
import Derived.Test.YtaojfpgbpakmpaaLib
import Derived.Test.YtaojfpgbpakmpaaStr
namespace Go.Proofs.Ytaojfpgbpakmpaa

/-- The first place where q holds; -1: there is none. -/
def idxOf {α : Type} (q : α → Bool) : List α → Int
  | [] => -1
  | x :: l => if q x = true then 0 else if idxOf q l = -1 then -1 else idxOf q l + 1
theorem idxOf_hit {α : Type} {q : α → Bool} : ∀ {l : List α} {k : Nat} {x : α}, l[k]? = some x → q x = true → (∀ j y, j < k → l[j]? = some y → q y = false) → idxOf q l = (k : Int)
  | [], k, x, hx, _, _ => by simp at hx
  | y :: l, 0, x, hx, hq, _ => by
    simp only [List.getElem?_cons_zero, Option.some.injEq] at hx
    subst hx
    rw [idxOf, if_pos hq]; rfl
  | y :: l, k + 1, x, hx, hq, ha => by
    have h0 := ha 0 y (by omega) rfl
    have h1 := idxOf_hit (q := q) (l := l) (k := k) (x := x) hx hq (fun j z hj hz => ha (j + 1) z (by omega) hz)
    rw [idxOf, if_neg (by rw [h0]; decide), h1, if_neg (by omega)]
    omega
theorem idxOf_miss {α : Type} {q : α → Bool} : ∀ {l : List α}, (∀ (j : Nat) y, l[j]? = some y → q y = false) → idxOf q l = -1
  | [], _ => rfl
  | y :: l, ha => by
    have h0 := ha 0 y rfl
    have h1 := idxOf_miss (q := q) (l := l) (fun j z hz => ha (j + 1) z hz)
    rw [idxOf, if_neg (by rw [h0]; decide), h1, if_pos rfl]
/-- The first place with a key; as many as there are: there is none. -/
def atKey {α : Type} (f : α → ByteArray) (s : ByteArray) : List α → Nat
  | [] => 0
  | x :: l => if (f x).toList == s.toList then 0 else atKey f s l + 1
theorem atKey_le {α : Type} (f : α → ByteArray) (s : ByteArray) : ∀ l : List α, atKey f s l ≤ l.length
  | [] => Nat.le_refl _
  | x :: l => by
    rw [atKey]
    split
    · omega
    · have := atKey_le f s l; simp; omega
theorem atKey_hit {α : Type} {f : α → ByteArray} {s : ByteArray} : ∀ {l : List α} {k : Nat} {x : α}, l[k]? = some x → ((f x).toList == s.toList) = true → (∀ j y, j < k → l[j]? = some y → ((f y).toList == s.toList) = false) → atKey f s l = k
  | [], k, x, hx, _, _ => by simp at hx
  | y :: l, 0, x, hx, hq, _ => by
    simp only [List.getElem?_cons_zero, Option.some.injEq] at hx
    subst hx
    rw [atKey, if_pos hq]
  | y :: l, k + 1, x, hx, hq, ha => by
    have h0 := ha 0 y (by omega) rfl
    have h1 := atKey_hit (f := f) (s := s) (l := l) (k := k) (x := x) hx hq (fun j z hj hz => ha (j + 1) z (by omega) hz)
    rw [atKey, if_neg (by rw [h0]; decide), h1]
theorem atKey_miss {α : Type} {f : α → ByteArray} {s : ByteArray} : ∀ {l : List α}, (∀ (j : Nat) y, l[j]? = some y → ((f y).toList == s.toList) = false) → atKey f s l = l.length
  | [], _ => rfl
  | y :: l, ha => by
    have h0 := ha 0 y rfl
    have h1 := atKey_miss (f := f) (s := s) (l := l) (fun j z hz => ha (j + 1) z hz)
    rw [atKey, if_neg (by rw [h0]; decide), h1]; rfl
theorem idx_at {α : Type} (f : α → ByteArray) (s : ByteArray) : ∀ l : List α, idxOf (fun x => (f x).toList == s.toList) l = if atKey f s l = l.length then -1 else (atKey f s l : Int)
  | [] => rfl
  | x :: l => by
    have ih := idx_at f s l
    have hle := atKey_le f s l
    rw [idxOf, atKey]
    by_cases h : ((f x).toList == s.toList) = true
    · rw [if_pos h, if_pos h, if_neg (by simp)]; rfl
    · rw [if_neg h, if_neg h, ih]
      by_cases h2 : atKey f s l = l.length
      · rw [if_pos h2, if_pos rfl, if_pos (by simp [h2])]
      · rw [if_neg h2, if_neg (by omega), if_neg (by simp; omega)]; omega
/-- What Find answers: the place, or 0; no error, or that there is none. -/
def findI {α : Type} (f : α → ByteArray) (s : ByteArray) (l : List α) : Int := if atKey f s l = l.length then 0 else (atKey f s l : Int)
def findE {α : Type} (f : α → ByteArray) (s : ByteArray) (l : List α) : Int := if atKey f s l = l.length then 5 else 0
theorem idx_cases {α : Type} (f : α → ByteArray) (s : ByteArray) (l : List α) :
    (idxOf (fun x => (f x).toList == s.toList) l = -1 ∧ findI f s l = 0 ∧ findE f s l = 5) ∨ (0 ≤ idxOf (fun x => (f x).toList == s.toList) l ∧ findI f s l = idxOf (fun x => (f x).toList == s.toList) l ∧ findE f s l = 0) := by
  rw [idx_at]
  unfold findI findE
  split
  · exact .inl ⟨rfl, rfl, rfl⟩
  · exact .inr ⟨by omega, rfl, rfl⟩
theorem upto_next_l {α : Type} {q : α → Bool} {l : List α} {k : Nat} {x : α} (h : ∀ j y, j < k → l[j]? = some y → q y = false) (hx : l[k]? = some x) (hq : q x = false) : ∀ j y, j < k + 1 → l[j]? = some y → q y = false := fun j y hj hy => by
  by_cases e : j = k
  · subst e; rw [hx] at hy; simp only [Option.some.injEq] at hy; subst hy; exact hq
  · exact h j y (by omega) hy
end Go.Proofs.Ytaojfpgbpakmpaa
