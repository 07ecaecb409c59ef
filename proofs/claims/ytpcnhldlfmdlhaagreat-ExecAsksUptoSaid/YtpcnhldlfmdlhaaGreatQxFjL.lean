/-
  Somebody joins a flight: what is right with the flights then, in plain lists.
-/
import Derived.Test.YtpcnhldlfmdlhaaGreatQxFlx
namespace Go.Proofs.YtpcnhldlfmdlhaaGreat
open Go.RowKit

theorem crew_app {c : List Int} {n : Int} (hn : 1 ≤ n ∧ n ≤ 1000) : ∀ (r : List Int) (k : Nat), k + r.length = c.length → c.drop k = r → crewFault c k r = 0 → crewFault (c ++ [n]) k (r ++ [n]) = if n ∈ c then 6 else 0
  | [], k, hk, _, _ => by
    simp only [List.length_nil, Nat.add_zero] at hk
    rw [List.nil_append, crewFault, if_neg (by omega), List.take_append_of_le_length (by omega), List.take_of_length_le (by omega), crewFault]
  | m :: r, k, hk, hd, h => by
    have hk' : k + 1 + r.length = c.length := by simp only [List.length_cons] at hk; omega
    have hd' : c.drop (k + 1) = r := by
      have := congrArg (List.drop 1) hd
      rw [List.drop_drop] at this
      simpa using this
    rw [crewFault] at h
    rw [List.cons_append, crewFault]
    split at h
    · cases h
    · rename_i h1
      rw [if_neg h1]
      split at h
      · cases h
      · rename_i h2
        rw [if_neg (by rw [List.take_append_of_le_length (by omega)]; exact h2)]
        exact crew_app hn r (k + 1) hk' hd' h
theorem crew_join {x : Flight} {n : Int} (hn : 1 ≤ n ∧ n ≤ 1000) (h : crewFault (crewOf x) 0 (crewOf x) = 0) :
    crewFault (crewOf { x with waiters := x.waiters ++ [n] }) 0 (crewOf { x with waiters := x.waiters ++ [n] }) = if n ∈ crewOf x then 6 else 0 :=
  crew_app (c := crewOf x) hn (crewOf x) 0 (by simp) rfl h
theorem atKey_set {l : List Flight} {i : Nat} {x y : Flight} (hx : l[i]? = some x) (hy : y.key = x.key) (s : ByteArray) : atKey (fun x : Flight => x.key) s (l.set i y) = atKey (fun x : Flight => x.key) s l := by
  induction l generalizing i with
  | nil => simp at hx
  | cons a l ih =>
    cases i with
    | zero =>
      simp only [List.getElem?_cons_zero, Option.some.injEq] at hx
      subst hx
      rw [List.set_cons_zero, atKey, atKey, hy]
    | succ i =>
      rw [List.set_cons_succ, atKey, atKey, ih (by simpa using hx)]
theorem flightFault_set {l : List Flight} {i k : Nat} {x y z : Flight} (hx : l[i]? = some x) (hy : y.key = x.key) : flightFault (l.set i y) k z = flightFault l k z := by
  unfold flightFault; rw [atKey_set hx hy]
/-- One flight is another now that bears the same key: what is wrong with it is wrong with all. -/
theorem from_set {l : List Flight} {i : Nat} {x y : Flight} (hx : l[i]? = some x) (hy : y.key = x.key) : ∀ (r : List Flight) (k : Nat), l.drop k = r → flightsFrom l k r = 0 →
    flightsFrom (l.set i y) k ((l.set i y).drop k) = if k ≤ i then flightFault l i y else 0
  | [], k, hd, h => by
    have hk : l.length ≤ k := by rw [← List.drop_eq_nil_iff]; exact hd
    have hi := (List.getElem?_eq_some_iff.1 hx).1
    rw [List.drop_eq_nil_of_le (by rw [List.length_set]; exact hk), if_neg (by omega), flightsFrom]
  | m :: r, k, hd, h => by
    have hkl : k < l.length := by
      rcases Nat.lt_or_ge k l.length with h1 | h1
      · exact h1
      · rw [List.drop_eq_nil_of_le h1] at hd; cases hd
    have hm : l[k] = m := by rw [List.drop_eq_getElem_cons hkl] at hd; exact (List.cons.inj hd).1
    have hd' : l.drop (k + 1) = r := by rw [List.drop_eq_getElem_cons hkl] at hd; exact (List.cons.inj hd).2
    rw [flightsFrom] at h
    split at h
    · rename_i h0
      have ih := from_set hx hy r (k + 1) hd' h
      rw [List.drop_eq_getElem_cons (by rw [List.length_set]; exact hkl), flightsFrom, flightFault_set hx hy, ih]
      by_cases hki : k = i
      · subst hki
        rw [List.getElem_set_self, if_pos (Nat.le_refl k), if_neg (show ¬ k + 1 ≤ k by omega)]
        split
        · rename_i h9; rw [h9]
        · rfl
      · rw [List.getElem_set_ne (by omega), hm, if_pos h0]
        by_cases h9 : k ≤ i
        · rw [if_pos h9, if_pos (by omega)]
        · rw [if_neg h9, if_neg (by omega)]
    · rename_i h0; exact absurd h h0
theorem flight_at {l : List Flight} (h : flightsFault l = 0) {i : Nat} {x : Flight} (hx : l[i]? = some x) : flightFault l i x = 0 := by
  have hl : ¬ 6 < l.length := fun h6 => by rw [flights_long h6] at h; cases h
  unfold flightsFault at h
  rw [if_neg hl] at h
  have h1 := from_set hx rfl l 0 rfl h
  rw [if_pos (Nat.zero_le i)] at h1
  have h2 : l.set i x = l := by
    obtain ⟨hi, rfl⟩ := List.getElem?_eq_some_iff.1 hx
    exact List.set_getElem_self hi
  rw [h2, List.drop_zero, h] at h1
  exact h1.symm
theorem flights_join {l : List Flight} (h : flightsFault l = 0) {i : Nat} {x : Flight} (hx : l[i]? = some x) {n : Int} (hn : 1 ≤ n ∧ n ≤ 1000) :
    flightsFault (l.set i { x with waiters := x.waiters ++ [n] }) = if x.waiters.length = 5 then 1 else if n ∈ crewOf x then 6 else 0 := by
  have h0 := flight_at h hx
  have h5 := flights_fit h x (List.mem_of_getElem? hx)
  have hl : ¬ 6 < l.length := fun h6 => by rw [flights_long h6] at h; cases h
  unfold flightsFault at h ⊢
  rw [if_neg hl] at h
  rw [List.length_set, if_neg hl]
  have h1 := from_set (y := { x with waiters := x.waiters ++ [n] }) hx rfl l 0 rfl h
  rw [if_pos (Nat.zero_le i), List.drop_zero] at h1
  rw [h1]
  unfold flightFault at h0 ⊢
  split at h0
  · rename_i h9; exact absurd h0 h9
  · rename_i h9
    rw [if_neg h9]
    split at h0
    · cases h0
    · rename_i h8
      rw [if_neg h8]
      split at h0
      · cases h0
      · simp only [List.length_append, List.length_cons, List.length_nil]
        by_cases h7 : x.waiters.length = 5
        · rw [if_pos (by omega), if_pos h7]
        · rw [if_neg (by omega), if_neg h7]
          exact crew_join hn h0

/-- What is wrong when somebody asks for a key: z is what is wrong with the flights, zk with the key. -/
def joinE (z zk n : Int) (s : ByteArray) (l : List Flight) : Int := if z ≠ 0 then z else if zk ≠ 0 then zk else if ¬ (1 ≤ n ∧ n ≤ 1000) then 4 else match l[atKey (·.key) s l]? with
  | none => if l.length = 6 then 7 else 0
  | some x => if n ∈ crewOf x then 6 else if x.waiters.length = 5 then 7 else 0
def joinL (z zk n : Int) (s : ByteArray) (l : List Flight) : List Flight := if joinE z zk n s l = 0 then (match l[atKey (·.key) s l]? with | none => l ++ [⟨s, n, []⟩] | some x => l.set (atKey (·.key) s l) { x with waiters := x.waiters ++ [n] }) else []
def joinB (z zk n : Int) (s : ByteArray) (l : List Flight) : Bool := if joinE z zk n s l = 0 then (match l[atKey (·.key) s l]? with | none => true | some _ => false) else false
end Go.Proofs.YtpcnhldlfmdlhaaGreat
