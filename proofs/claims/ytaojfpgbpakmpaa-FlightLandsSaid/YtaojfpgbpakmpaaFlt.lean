/-
  What is wrong with flights. No function of the program is named here.
-/
import Derived.Test.YtaojfpgbpakmpaaHexB
import Derived.Test.YtaojfpgbpakmpaaKey
import Derived.Maps.OwnOps
import Derived.Maps.Views
namespace Go.Proofs.Ytaojfpgbpakmpaa
open Go.RowKit

/-- What is wrong with a crew behind those of place k: nobody may be so, or somebody is in it twice. -/
def crewFault (c : List Int) : Nat → List Int → Int
  | _, [] => 0
  | k, n :: l => if n < 1 ∨ 1000 < n then 4 else if n ∈ c.take k then 6 else crewFault c (k + 1) l
theorem crew_step {c : List Int} {k : Nat} {n z : Int} (h : z = crewFault c k (c.drop k)) (hn : c[k]? = some n) (h1 : 1 ≤ n ∧ n ≤ 1000) (h2 : n ∉ c.take k) : z = crewFault c (k + 1) (c.drop (k + 1)) := by
  obtain ⟨hk, rfl⟩ := List.getElem?_eq_some_iff.1 hn
  rw [h, List.drop_eq_getElem_cons hk, crewFault, if_neg (by omega), if_neg h2]
theorem crew_range {c : List Int} {k : Nat} {n z : Int} (h : z = crewFault c k (c.drop k)) (hn : c[k]? = some n) (h1 : ¬ (1 ≤ n ∧ n ≤ 1000)) : z = 4 := by
  obtain ⟨hk, rfl⟩ := List.getElem?_eq_some_iff.1 hn
  rw [h, List.drop_eq_getElem_cons hk, crewFault, if_pos (by omega)]
theorem crew_twice {c : List Int} {k : Nat} {n z : Int} (h : z = crewFault c k (c.drop k)) (hn : c[k]? = some n) (h1 : 1 ≤ n ∧ n ≤ 1000) (h2 : n ∈ c.take k) : z = 6 := by
  obtain ⟨hk, rfl⟩ := List.getElem?_eq_some_iff.1 hn
  rw [h, List.drop_eq_getElem_cons hk, crewFault, if_neg (by omega), if_pos h2]
theorem crew_end {c : List Int} {z : Int} (h : z = crewFault c c.length (c.drop c.length)) : z = 0 := by rw [h, List.drop_length]; rfl

def crewOf (x : Flight) : List Int := x.leader :: x.waiters
/-- What is wrong with the flight at place k. -/
def flightFault (l : List Flight) (k : Nat) (x : Flight) : Int :=
  if hexFault x.key ≠ 0 then hexFault x.key else if atKey (·.key) x.key l < k then 6 else if 5 < x.waiters.length then 1 else crewFault (crewOf x) 0 (crewOf x)
def flightsFrom (l : List Flight) : Nat → List Flight → Int
  | _, [] => 0
  | k, x :: r => if flightFault l k x = 0 then flightsFrom l (k + 1) r else flightFault l k x
/-- What is wrong with flights. -/
def flightsFault (l : List Flight) : Int := if 6 < l.length then 1 else flightsFrom l 0 l
theorem flights_long {l : List Flight} (h : 6 < l.length) : flightsFault l = 1 := by unfold flightsFault; rw [if_pos h]
theorem flights_short {l : List Flight} (h : ¬ 6 < l.length) : flightsFault l = flightsFrom l 0 (l.drop 0) := by unfold flightsFault; rw [if_neg h]; rfl
theorem flights_step {l : List Flight} {k : Nat} {x : Flight} {z : Int} (h : z = flightsFrom l k (l.drop k)) (hx : l[k]? = some x) (h0 : flightFault l k x = 0) : z = flightsFrom l (k + 1) (l.drop (k + 1)) := by
  obtain ⟨hk, rfl⟩ := List.getElem?_eq_some_iff.1 hx
  rw [h, List.drop_eq_getElem_cons hk, flightsFrom, if_pos h0]
theorem flights_stop {l : List Flight} {k : Nat} {x : Flight} {z n : Int} (h : z = flightsFrom l k (l.drop k)) (hx : l[k]? = some x) (h0 : flightFault l k x = n) (hn : n ≠ 0) : z = n := by
  obtain ⟨hk, rfl⟩ := List.getElem?_eq_some_iff.1 hx
  rw [h, List.drop_eq_getElem_cons hk, flightsFrom, if_neg (by rw [h0]; exact hn), h0]
theorem flights_end {l : List Flight} {z : Int} (h : z = flightsFrom l l.length (l.drop l.length)) : z = 0 := by rw [h, List.drop_length]; rfl
theorem fl_hex {l : List Flight} {k : Nat} {x : Flight} (h : hexFault x.key ≠ 0) : flightFault l k x = hexFault x.key := by unfold flightFault; rw [if_pos h]
theorem fl_twice {l : List Flight} {k : Nat} {x : Flight} (h : hexFault x.key = 0) (h2 : atKey (·.key) x.key l < k) : flightFault l k x = 6 := by unfold flightFault; rw [if_neg (not_not_intro h), if_pos h2]
theorem fl_size {l : List Flight} {k : Nat} {x : Flight} (h : hexFault x.key = 0) (h2 : ¬ atKey (·.key) x.key l < k) (h3 : 5 < x.waiters.length) : flightFault l k x = 1 := by unfold flightFault; rw [if_neg (not_not_intro h), if_neg h2, if_pos h3]
theorem fl_crew {l : List Flight} {k : Nat} {x : Flight} (h : hexFault x.key = 0) (h2 : ¬ atKey (·.key) x.key l < k) (h3 : ¬ 5 < x.waiters.length) : flightFault l k x = crewFault (crewOf x) 0 ((crewOf x).drop 0) := by
  unfold flightFault; rw [if_neg (not_not_intro h), if_neg h2, if_neg h3]; rfl
theorem atKey_take {α : Type} (f : α → ByteArray) (s : ByteArray) : ∀ (l : List α) (i : Nat), i ≤ l.length → atKey f s (l.take i) = if atKey f s l < i then atKey f s l else i
  | _, 0, _ => by simp [atKey]
  | [], i + 1, h => by simp at h
  | x :: l, i + 1, h => by
    rw [List.take_succ_cons, atKey, atKey]
    split
    · simp
    · rw [atKey_take f s l i (by simpa using h)]
      split <;> split <;> omega

/-! ### A map of ints to true -/
open Go.Maps (Keyed)
/-- The map holds just these. -/
def SeenBy {H : Type} (D : DataW H) (l : List Int) : Prop := Maps.IsMap D ∧ ∀ n : Int, D.atKey (.int .i64 n) (.lit (.bool false)) = .lit (.bool (decide (n ∈ l)))
theorem seen_nil {H : Type} : SeenBy (H := H) (.map []) [] := ⟨⟨[], rfl⟩, fun n => by simp [DataW.atKey]⟩
theorem seen_put {H : Type} {D : DataW H} {l : List Int} {n : Int} (h : SeenBy D l) : SeenBy (D.put (.int .i64 n) (.lit (.bool true))) (l ++ [n]) := by
  obtain ⟨h1, h2⟩ := h
  refine ⟨h1.put _ _, fun m => ?_⟩
  by_cases e : m = n
  · subst e
    rw [Maps.atKey_put_same h1 (by first | trivial | exact ⟨⟩ | decide)]
    simp
  · rw [Maps.atKey_put_other (by simpa using e), h2 m]
    simp [e]
theorem plainBool_inv {H : Type} {P : Program} {e : TypeId} (he : P.underlying e = some .bool) {v : Value} {z : DataW H × List MemPlace} (h : plainElem P e v = some z) : ∃ x, v = .bool x ∧ z = (.lit (.bool x), []) := by
  unfold plainElem at h
  rw [he] at h
  cases v <;> simp at h
  exact ⟨_, rfl, h.symm⟩
/-- A look-up in a map of bools that the call made. -/
theorem wpList_lookup_bool {H : Type} {P : Program} (w : World) {ops : Array Oper} {rest : List Oper} {o : Oper} {a : Act} {Q : Exit → Act → World → Prop}
    (hg : o.guard = none) (m x : Operand) (t : TypeId) (hop : o.op = Op.lookup t m x false)
    (k e : TypeId) (K : Keyed P k) (ht : P.underlying t = some (.map k e)) (he : P.underlying e = some .bool) (hz : (zeroValue e).run P w = .ok (.bool false) w) (b n : Nat) (D : DataW H)
    (hm : a.eval m = .map (some b)) (hown : w.ownsMap P k (plainElem P e) b n D) (key : Value) (kl : Lit) (hx : a.eval x = key) (hkey : keyOf P k key = some kl)
    (y : Bool) (hy : D.atKey kl (.lit (.bool false)) = .lit (.bool y)) (hK : wpList P ops Q rest (a.put o.dst (.bool y)) w) :
    wpList P ops Q (o :: rest) a w := by
  refine wpList_plain hg fun K' hK' => ?_
  obtain ⟨v, ps, hrun, hv⟩ := hown.lookup K ht hz (plainElem_bool he false) hkey
  obtain ⟨c, rfl, hc⟩ := plainBool_inv he hv
  simp only [Prod.mk.injEq] at hc
  have hcy : c = y := by
    have := hc.1.symm.trans hy
    simpa using this
  subst hcy
  unfold Oper.wp
  simp [execOp, hop, hm, hx, hrun, Result.andThen]
  exact hK' _ _ hK
end Go.Proofs.Ytaojfpgbpakmpaa
