/-
  What is wrong with flights. No function of the program is named here. Small functions on ints: flight.crew, flight.who, the reference's someone, slices.Index and slices.Contains on ints. flight.Check: what it answers. The reference's FlightsFault: what it answers. It keeps a map of those whom it has met. The law FlightChecks: its walk. The end of a flight: what the program and the reference answer.
-/
import Derived.Test.YtpcnhldlfmdlhaaGreatDoorSxHx
import Derived.Test.YtpcnhldlfmdlhaaGreatDoorSxBas
import Derived.Test.YtpcnhldlfmdlhaaGreatDoorSxKF
import Derived.Test.YtpcnhldlfmdlhaaGreatDoorSxCl
import Derived.Maps.OwnOps
import Derived.Maps.Views
import Derived.Deep.RegionHeld3
import Derived.StillTactics
import Derived.OwnWalk
import Derived.IntWalk
namespace Go.Proofs.YtpcnhldlfmdlhaaGreatDoor
open Go.RowKit

/-- What is wrong with a crew behind those of place k: nobody may be so, or somebody is in it twice. -/
def crewFault (c : List Int) : Nat → List Int → Int
  | _, [] => 0
  | k, n :: l => if n < 1 ∨ 1000 < n then 4 else if n ∈ c.take k then 6 else crewFault c (k + 1) l
theorem crew_step {c : List Int} {k : Nat} {n z : Int} (h : z = crewFault c k (c.drop k)) (hn : c[k]? = some n) (h1 : 1 ≤ n ∧ n ≤ 1000) (h2 : n ∉ c.take k) : z = crewFault c (k + 1) (c.drop (k + 1)) := by
  obtain ⟨hk, rfl⟩ := List.getElem?_eq_some_iff.1 hn
  rw [h, List.drop_eq_getElem_cons hk, crewFault, if_neg (by omega), if_neg h2]
theorem crew_range {c : List Int} {k : Nat} {n z : Int} (h : z = crewFault c k (c.drop k)) (hn : c[k]? = some n) (h1 : ¬ (1 ≤ n ∧ n ≤ 1000)) : z = 4 := by
  obtain ⟨hk, rfl⟩ := List.getElem?_eq_some_iff.1 hn
  rw [h, List.drop_eq_getElem_cons hk, crewFault, if_pos (by omega)]
theorem crew_twice {c : List Int} {k : Nat} {n z : Int} (h : z = crewFault c k (c.drop k)) (hn : c[k]? = some n) (h1 : 1 ≤ n ∧ n ≤ 1000) (h2 : n ∈ c.take k) : z = 6 := by
  obtain ⟨hk, rfl⟩ := List.getElem?_eq_some_iff.1 hn
  rw [h, List.drop_eq_getElem_cons hk, crewFault, if_neg (by omega), if_pos h2]
theorem crew_end {c : List Int} {z : Int} (h : z = crewFault c c.length (c.drop c.length)) : z = 0 := by rw [h, List.drop_length]; rfl

def crewOf (x : Flight) : List Int := x.leader :: x.waiters
/-- What is wrong with the flight at place k. -/
def flightFault (l : List Flight) (k : Nat) (x : Flight) : Int :=
  if hexFault x.key ≠ 0 then hexFault x.key else if atKey (·.key) x.key l < k then 6 else if 5 < x.waiters.length then 1 else crewFault (crewOf x) 0 (crewOf x)
def flightsFrom (l : List Flight) : Nat → List Flight → Int
  | _, [] => 0
  | k, x :: r => if flightFault l k x = 0 then flightsFrom l (k + 1) r else flightFault l k x
/-- What is wrong with flights. -/
def flightsFault (l : List Flight) : Int := if 6 < l.length then 1 else flightsFrom l 0 l
theorem flights_long {l : List Flight} (h : 6 < l.length) : flightsFault l = 1 := by unfold flightsFault; rw [if_pos h]
theorem flights_short {l : List Flight} (h : ¬ 6 < l.length) : flightsFault l = flightsFrom l 0 (l.drop 0) := by unfold flightsFault; rw [if_neg h]; rfl
theorem flights_step {l : List Flight} {k : Nat} {x : Flight} {z : Int} (h : z = flightsFrom l k (l.drop k)) (hx : l[k]? = some x) (h0 : flightFault l k x = 0) : z = flightsFrom l (k + 1) (l.drop (k + 1)) := by
  obtain ⟨hk, rfl⟩ := List.getElem?_eq_some_iff.1 hx
  rw [h, List.drop_eq_getElem_cons hk, flightsFrom, if_pos h0]
theorem flights_stop {l : List Flight} {k : Nat} {x : Flight} {z n : Int} (h : z = flightsFrom l k (l.drop k)) (hx : l[k]? = some x) (h0 : flightFault l k x = n) (hn : n ≠ 0) : z = n := by
  obtain ⟨hk, rfl⟩ := List.getElem?_eq_some_iff.1 hx
  rw [h, List.drop_eq_getElem_cons hk, flightsFrom, if_neg (by rw [h0]; exact hn), h0]
theorem flights_end {l : List Flight} {z : Int} (h : z = flightsFrom l l.length (l.drop l.length)) : z = 0 := by rw [h, List.drop_length]; rfl
theorem fl_hex {l : List Flight} {k : Nat} {x : Flight} (h : hexFault x.key ≠ 0) : flightFault l k x = hexFault x.key := by unfold flightFault; rw [if_pos h]
theorem fl_twice {l : List Flight} {k : Nat} {x : Flight} (h : hexFault x.key = 0) (h2 : atKey (·.key) x.key l < k) : flightFault l k x = 6 := by unfold flightFault; rw [if_neg (not_not_intro h), if_pos h2]
theorem fl_size {l : List Flight} {k : Nat} {x : Flight} (h : hexFault x.key = 0) (h2 : ¬ atKey (·.key) x.key l < k) (h3 : 5 < x.waiters.length) : flightFault l k x = 1 := by unfold flightFault; rw [if_neg (not_not_intro h), if_neg h2, if_pos h3]
theorem fl_crew {l : List Flight} {k : Nat} {x : Flight} (h : hexFault x.key = 0) (h2 : ¬ atKey (·.key) x.key l < k) (h3 : ¬ 5 < x.waiters.length) : flightFault l k x = crewFault (crewOf x) 0 ((crewOf x).drop 0) := by
  unfold flightFault; rw [if_neg (not_not_intro h), if_neg h2, if_neg h3]; rfl
theorem atKey_take {α : Type} (f : α → ByteArray) (s : ByteArray) : ∀ (l : List α) (i : Nat), i ≤ l.length → atKey f s (l.take i) = if atKey f s l < i then atKey f s l else i
  | _, 0, _ => by simp [atKey]
  | [], i + 1, h => by simp at h
  | x :: l, i + 1, h => by
    rw [List.take_succ_cons, atKey, atKey]
    split
    · simp
    · rw [atKey_take f s l i (by simpa using h)]
      split <;> split <;> omega

/-! ### A map of ints to true -/
open Go.Maps (Keyed)
/-- The map holds just these. -/
def SeenBy {H : Type} (D : DataW H) (l : List Int) : Prop := Maps.IsMap D ∧ ∀ n : Int, D.atKey (.int .i64 n) (.lit (.bool false)) = .lit (.bool (decide (n ∈ l)))
theorem seen_nil {H : Type} : SeenBy (H := H) (.map []) [] := ⟨⟨[], rfl⟩, fun n => by simp [DataW.atKey]⟩
theorem seen_put {H : Type} {D : DataW H} {l : List Int} {n : Int} (h : SeenBy D l) : SeenBy (D.put (.int .i64 n) (.lit (.bool true))) (l ++ [n]) := by
  obtain ⟨h1, h2⟩ := h
  refine ⟨h1.put _ _, fun m => ?_⟩
  by_cases e : m = n
  · subst e
    rw [Maps.atKey_put_same h1 (by first | trivial | exact ⟨⟩ | decide)]
    simp
  · rw [Maps.atKey_put_other (by simpa using e), h2 m]
    simp [e]
theorem plainBool_inv {H : Type} {P : Program} {e : TypeId} (he : P.underlying e = some .bool) {v : Value} {z : DataW H × List MemPlace} (h : plainElem P e v = some z) : ∃ x, v = .bool x ∧ z = (.lit (.bool x), []) := by
  unfold plainElem at h
  rw [he] at h
  cases v <;> simp at h
  exact ⟨_, rfl, h.symm⟩
/-- A look-up in a map of bools that the call made. -/
theorem wpList_lookup_bool {H : Type} {P : Program} (w : World) {ops : Array Oper} {rest : List Oper} {o : Oper} {a : Act} {Q : Exit → Act → World → Prop}
    (hg : o.guard = none) (m x : Operand) (t : TypeId) (hop : o.op = Op.lookup t m x false)
    (k e : TypeId) (K : Keyed P k) (ht : P.underlying t = some (.map k e)) (he : P.underlying e = some .bool) (hz : (zeroValue e).run P w = .ok (.bool false) w) (b n : Nat) (D : DataW H)
    (hm : a.eval m = .map (some b)) (hown : w.ownsMap P k (plainElem P e) b n D) (key : Value) (kl : Lit) (hx : a.eval x = key) (hkey : keyOf P k key = some kl)
    (y : Bool) (hy : D.atKey kl (.lit (.bool false)) = .lit (.bool y)) (hK : wpList P ops Q rest (a.put o.dst (.bool y)) w) :
    wpList P ops Q (o :: rest) a w := by
  refine wpList_plain hg fun K' hK' => ?_
  obtain ⟨v, ps, hrun, hv⟩ := hown.lookup K ht hz (plainElem_bool he false) hkey
  obtain ⟨c, rfl, hc⟩ := plainBool_inv he hv
  simp only [Prod.mk.injEq] at hc
  have hcy : c = y := by
    have := hc.1.symm.trans hy
    simpa using this
  subst hcy
  unfold Oper.wp
  simp [execOp, hop, hm, hx, hrun, Result.andThen]
  exact hK' _ _ hK
end Go.Proofs.YtpcnhldlfmdlhaaGreatDoor

namespace Go.Proofs.YtpcnhldlfmdlhaaGreatDoor
open Go.RowKit

theorem os_oneI (w1 : World) (B k : Nat) (n : Int) (hk : k = w1.heap.size) (hB : B ≤ w1.heap.size) : OS 3 1 cI (w1.alloc (.cells #[.int .i64 n] 3)) B (.slice (some ⟨k, 0, none⟩) 1 1) [n] := by
  subst hk
  exact ⟨rfl, .inr ⟨w1.heap.size, 1, #[.int .i64 n], rfl, hB, heap_alloc_new w1 _, Nat.le_refl _, by simp [maxLen], rfl, rfl⟩⟩
def someB (n : Int) : Bool := decide (1 ≤ n ∧ n ≤ 1000)

set_option maxRecDepth 100000 in
theorem flight_who (n : Int) (w : World) : Calls Tryz.prog 38 #[.int .i64 n] w fun e w' => e = .returned (.bool (someB n)) ∧ w = w' := by
  by_cases h1 : 1 ≤ n
  · have q1 : decide (1 ≤ n) = true := by simp [h1]
    by_cases h2 : n ≤ 1000
    · have q2 : decide (n ≤ 1000) = true := by simp [h2]
      have hr : someB n = true := by simp [someB, h1, h2]
      rw [hr]
      clear hr
      go_enter Tryz.func38, Tryz.ntmps38
      go_wp2_with fail
      go_ret
      exact ⟨rfl, rfl⟩
    · have q2 : decide (n ≤ 1000) = false := by simp; omega
      have hr : someB n = false := by simp [someB]; omega
      rw [hr]
      clear hr
      go_enter Tryz.func38, Tryz.ntmps38
      go_wp2_with fail
      go_ret
      exact ⟨rfl, rfl⟩
  · have q1 : decide (1 ≤ n) = false := by simp; omega
    have hr : someB n = false := by simp [someB]; omega
    rw [hr]
    clear hr
    go_enter Tryz.func38, Tryz.ntmps38
    go_wp2_with fail
    go_ret
    exact ⟨rfl, rfl⟩
set_option maxRecDepth 100000 in
theorem ref_someone (n : Int) (w : World) : Calls Tryz.prog 50 #[.int .i64 n] w fun e w' => e = .returned (.bool (someB n)) ∧ w = w' := by
  by_cases h1 : 0 < n
  · have q1 : decide (0 < n) = true := by simp [h1]
    by_cases h2 : n ≤ 1000
    · have q2 : decide (n ≤ 1000) = true := by simp [h2]
      have hr : someB n = true := by simp [someB]; omega
      rw [hr]
      clear hr
      go_enter Tryz.func50, Tryz.ntmps50
      go_wp2_with fail
      go_ret
      exact ⟨rfl, rfl⟩
    · have q2 : decide (n ≤ 1000) = false := by simp; omega
      have hr : someB n = false := by simp [someB]; omega
      rw [hr]
      clear hr
      go_enter Tryz.func50, Tryz.ntmps50
      go_wp2_with fail
      go_ret
      exact ⟨rfl, rfl⟩
  · have q1 : decide (0 < n) = false := by simp; omega
    have hr : someB n = false := by simp [someB]; omega
    rw [hr]
    clear hr
    go_enter Tryz.func50, Tryz.ntmps50
    go_wp2_with fail
    go_ret
    exact ⟨rfl, rfl⟩

set_option maxRecDepth 100000 in
set_option maxHeartbeats 400000 in
theorem slices_Index_int (v : Value) (l : List Int) (n : Int) (w : World) (h : RI w v l) :
    Calls Tryz.prog 67 #[v, .int .i64 n] w fun e w' => e = .returned (.int .i64 (idxOf (fun x => n == x) l)) ∧ w = w' := by
  obtain ⟨a, c, rfl, hlc, hcm, hre, hno, hat⟩ := h
  unfold maxLen at hcm
  replace hat := hid hat
  have hy := hid (fun k x hx hq ha => idxOf_hit (q := fun x : Int => n == x) (l := l) (k := k) (x := x) hx hq ha)
  have hn := hid (fun ha => idxOf_miss (q := fun x : Int => n == x) (l := l) ha)
  clear hno
  go_enter Tryz.func67, Tryz.ntmps67
  go_wp2_with fail
  go_loopw [5, 8] (fun _ i wr => ∃ k : Nat, k ≤ l.length ∧ i = .int .i64 k ∧ Hid (∀ j x, j < k → l[j]? = some x → (n == x) = false) ∧ wr = w) (fun _ i _ => l.length - (intOf i).toNat)
  case atStart => exact ⟨0, by omega, rfl, hid (fun j x hj => by omega), rfl⟩
  case round =>
    obtain ⟨k, hk, rfl, hall, rfl⟩ := hrel
    by_cases hlt : k < l.length
    · have hx : l[k]? = some l[k] := List.getElem?_eq_getElem hlt
      generalize l[k] = x at hx
      obtain ⟨bb, off, rfl, hbb, he⟩ := hat.out k _ hx
      obtain ⟨c0, -⟩ := he
      rw [Nat.mul_one] at c0
      have hy1 := hid (fun hq => hy.out k x hx hq hall.out)
      have hnx := hid (fun (hq : (n == x) = false) => upto_next_l (q := fun x : Int => n == x) hall.out hx hq)
      clear hx
      cases hq : (n == x) with
      | true =>
        have hr := hid (hy1.out hq)
        clear hall
        go_wp2_with fail
        go_ret
        exact ⟨ret_i hr.out.symm, rfl⟩
      | false =>
        have hr := hid (hnx.out hq)
        clear hall
        go_wp2_with fail
        go_roundw
        case rel => exact ⟨k + 1, by omega, by go_num, hr, trivial⟩
        case measure => simp [intOf]; omega
    · obtain rfl : k = l.length := by omega
      have hr := hid (hn.out (fun j x hj => hall.out j x (List.getElem?_eq_some_iff.1 hj).1 hj))
      clear hall
      go_wp2_with fail
      go_ret
      exact ⟨ret_i hr.out.symm, rfl⟩
theorem idx_mem (n : Int) (l : List Int) : (0 ≤ idxOf (fun x => n == x) l) ↔ n ∈ l := by
  induction l with
  | nil => simp [idxOf]
  | cons x l ih =>
    rw [idxOf]
    by_cases h : (n == x) = true
    · rw [if_pos h]
      simp at h
      simp [h]
    · rw [if_neg h]
      simp at h
      simp only [List.mem_cons, h, false_or]
      rw [← ih]
      split
      · rename_i h2; omega
      · rename_i h2
        have hge : -1 ≤ idxOf (fun x => n == x) l := by
          clear ih h h2
          induction l with
          | nil => simp [idxOf]
          | cons y l ih =>
            rw [idxOf]
            split
            · omega
            · split <;> omega
        omega

set_option maxRecDepth 100000 in
set_option maxHeartbeats 400000 in
theorem slices_Contains_int (v : Value) (l : List Int) (n : Int) (w : World) (h : RI w v l) :
    Calls Tryz.prog 39 #[v, .int .i64 n] w fun e w' => e = .returned (.bool (decide (n ∈ l))) ∧ w = w' := by
  have hi := slices_Index_int v l n w h
  have hm := idx_mem n l
  have hd : decide (n ∈ l) = decide (0 ≤ idxOf (fun x => n == x) l) := by simp [hm]
  rw [hd]
  clear hd hm
  generalize idxOf (fun x => n == x) l = r at *
  replace hi := hid hi
  go_enter Tryz.func39, Tryz.ntmps39
  go_wp2_with fail
  ((with_reducible refine hi.out.mono ?_); rintro e w1 ⟨rfl, rfl⟩)
  go_wp2_with fail
  go_ret
  exact ⟨rfl, rfl⟩

set_option maxRecDepth 100000 in
set_option maxHeartbeats 400000 in
theorem flight_crew (x : Flight) (dv : Value) (w : World) (h : RI w dv x.waiters) :
    Calls Tryz.prog 37 #[.agg #[.string x.key, .int .i64 x.leader, dv]] w fun e w' => ∃ v', e = .returned v' ∧ OS 3 1 cI w' w.heap.size v' (x.leader :: x.waiters) ∧ Below w.heap.size w w' := by
  obtain ⟨i0, hi, hz0, hz1, hz2⟩ := info_parts info_int
  have hR := hid h
  obtain ⟨a, c, rfl, hlc, hcm, hre, -⟩ := h
  unfold maxLen at hcm
  go_enter Tryz.func37, Tryz.ntmps37
  go_wp2_with (at_builtin; go_must (refine wpL_append flat_i rfl (.tmp 5) (.tmp 7) 40 rfl 3 i0 (.int .i64 0) Tryz.underlying40 hi hz0 hz1 hz2 rfl w.heap.size _ [x.leader] rfl (os_oneI _ _ _ _ (by simp) (b_alloc (Below.refl w.heap.size w) _).size) _ x.waiters rfl (hR.out.mono EI.stable (b_alloc (b_alloc (Below.refl _ _) _) _)) ?c1 ?c2 ?c3 ?_))
  case c1 => simp; omega
  case c2 => simp [maxLen]; omega
  case c3 => simp; omega
  intro v' w1 hown hg
  have hb := b_grown (b_alloc (b_alloc (Below.refl w.heap.size w) (Obj.cells #[.string x.key, .int .i64 x.leader, .slice a x.waiters.length c] 42)) (Obj.cells #[.int .i64 x.leader] 3)) hg (fun k hk => by simp [Value.ownBlock] at hk; omega)
  replace hown := hid hown
  replace hb := hid hb
  clear hg
  go_wp2_with fail
  go_ret
  exact ⟨_, rfl, hown.out, hb.out⟩
end Go.Proofs.YtpcnhldlfmdlhaaGreatDoor

namespace Go.Proofs.YtpcnhldlfmdlhaaGreatDoor
open Go.RowKit

theorem ri_wf {w : World} {v : Value} {l : List Int} (h : RI w v l) : ∀ n ∈ l, (Lit.int .i64 n).wf = true := by
  intro n hn
  obtain ⟨i, hi⟩ := List.getElem?_of_mem hn
  obtain ⟨_, _, _, _, _, _, _, hat⟩ := h
  obtain ⟨_, _, _, _, he⟩ := hat i n hi
  exact he.2
theorem reads_i {e : TypeId} {w : World} {B : Nat} {v : Value} {l : List Int} (h : OS e 1 cI w B v l) (hb : l.length * 8 ≤ 140737488351232) (ho : ∀ n ∈ l, (Lit.int .i64 n).wf = true) : RI w v l :=
  OS.reads (cells := cI) (fun _ => rfl) (by decide) (fun b o n hn hc => ⟨hc 0 (by omega), ho n hn⟩) h hb
theorem ri_at {w : World} {a : Option Addr} {n c : Nat} {l : List Int} (h : RI w (.slice a n c) l) {j : Nat} {x : Int} (hj : l[j]? = some x) : ∃ b off, a = some ⟨b, off, none⟩ ∧ b < w.heap.size ∧ EI w b (off + j * 1) x := by
  obtain ⟨_, _, hv, _, _, _, _, hat⟩ := h
  simp only [Value.slice.injEq] at hv
  obtain ⟨rfl, -, -⟩ := hv
  exact hat j x hj
theorem take_findE (s : ByteArray) (l : List Flight) (k : Nat) (hk : k ≤ l.length) : findE (fun x : Flight => x.key) s (l.take k) = if atKey (fun x : Flight => x.key) s l < k then 0 else 5 := by
  unfold findE
  rw [atKey_take _ _ _ _ hk, List.length_take, Nat.min_eq_left hk]
  by_cases h : atKey (fun x : Flight => x.key) s l < k
  · rw [if_pos h, if_neg (by omega), if_pos h]
  · rw [if_neg h, if_pos rfl, if_neg h]

set_option maxRecDepth 100000 in
set_option maxHeartbeats 4000000 in
theorem flight_Check (v : Value) (l : List Flight) (w : World) (h : RF w v l) :
    Calls Tryz.prog 17 #[v] w fun e w' => e = .returned (.int .i64 (flightsFault l)) ∧ Below w.heap.size w w' := by
  have hR := hid h
  obtain ⟨a, c, rfl, hlc, hcm, hre, hno, hat⟩ := h
  unfold maxLen at hcm
  clear hno
  replace hat := hid hat
  by_cases h6 : 6 < l.length
  · have hr := hid (flights_long h6)
    go_enter Tryz.func17, Tryz.ntmps17
    go_wp2_with fail
    go_ret
    exact ⟨ret_i hr.out.symm, Below.refl _ _⟩
  · have hr := hid (flights_short h6)
    generalize flightsFault l = z at *
    go_enter Tryz.func17, Tryz.ntmps17
    go_wp2_with fail
    go_loopw [3, 4, 5, 6, 7, 8, 9, 10, 16] (fun _ _ _ _ _ _ _ _ i wr => ∃ (k : Nat), k ≤ l.length ∧ i = .int .i64 (k : Int) ∧ Hid (z = flightsFrom l k (l.drop k)) ∧ Hid (Below w.heap.size w wr)) (fun _ _ _ _ _ _ _ _ i _ => l.length - (intOf i).toNat)
    case atStart => exact ⟨0, by omega, rfl, hr, hid (Below.refl _ _)⟩
    case round =>
      obtain ⟨k, hk, rfl, hz, hb⟩ := hrel
      by_cases hlt : k < l.length
      · have hx : l[k]? = some l[k] := List.getElem?_eq_getElem hlt
        generalize l[k] = x at hx
        obtain ⟨bb, off, rfl, hbb, he⟩ := hat.out k _ hx
        obtain ⟨dv, c0, c1, c2, rdv, s0, wf⟩ := EFlight.stable _ _ _ _ _ hb.out hbb he
        have hbw : bb < wr.heap.size := Nat.lt_of_lt_of_le hbb hb.out.size
        have hstep := hid (fun h0 => flights_step hz.out hx h0)
        have hstop := hid (fun (n : Int) (h0 : flightFault l k x = n) (hn : n ≠ 0) => flights_stop hz.out hx h0 hn)
        have hfe := take_findE x.key l k (by omega)
        have hf1 := hid (fun hh => fl_hex (l := l) (k := k) (x := x) hh)
        have hf2 := hid (fun hh h2 => fl_twice (l := l) (k := k) (x := x) hh h2)
        have hf3 := hid (fun hh h2 h3 => fl_size (l := l) (k := k) (x := x) hh h2 h3)
        have hf4 := hid (fun hh h2 h3 => fl_crew (l := l) (k := k) (x := x) hh h2 h3)
        have hwl := ri_wf rdv
        obtain ⟨da, dc, rfl, -⟩ := id rdv
        replace rdv := hid rdv
        replace hwl := hid hwl
        have hup := hid (RS.upto hR.out k (by omega))
        clear he hx hz hr
        have hc := hid (fun w => hex_Check_any x.key w s0)
        have hba := hid (b_alloc (Below.refl _ wr) (Obj.cells #[.string x.key, .int .i64 x.leader, .slice da x.waiters.length dc] 42))
        have hq1 := hid (heap_alloc_new wr (Obj.cells #[.string x.key, .int .i64 x.leader, .slice da x.waiters.length dc] 42))
        have hsz1 : wr.heap.size < (wr.alloc (Obj.cells #[.string x.key, .int .i64 x.leader, .slice da x.waiters.length dc] 42)).heap.size := by simp
        by_cases hh : hexFault x.key = 0
        · rw [hh] at hc
          have hh' := hid hh
          clear hf1
          go_wp2_with fail
          ((with_reducible refine (hc.out _).mono ?_); rintro e w1 ⟨rfl, b1⟩)
          have hq2 := (b1.block wr.heap.size hsz1).trans hq1.out
          have hb2 := b_call hba.out b1
          obtain ⟨x0, x1, x2, f0, f1, f2⟩ := box3f hq2
          have hsz2 : wr.heap.size < w1.heap.size := (Array.getElem?_eq_some_iff.1 hq2).1
          replace hq2 := hid hq2
          replace hb2 := hid hb2
          clear b1 hq1 hba hsz1 hh
          have g1 : k ≤ c := by omega
          have g2 : k ≤ l.length := by omega
          have g3 : (0 : Int) ≤ (k : Int) := by omega
          have g4 : (k : Int) ≤ (c : Int) := by omega
          go_wp2_with fail
          have hFd := hid (flight_Find _ (l.take k) x.key w1.drew ((hup.out.mono EFlight.stable (hb.out.trans (hb2.out.mono hb.out.size))).mono EFlight.stable (Below.refl _ w1).drew))
          rw [hfe] at hFd
          generalize findI (fun x : Flight => x.key) x.key (l.take k) = fi at *
          generalize hfv : (if atKey (fun x : Flight => x.key) x.key l < k then (0 : Int) else 5) = fe at *
          clear hfe x1 x2 f0 f1 f2
          replace hfv := hid hfv
          go_region_held3 (fun w' => w'.cell? ⟨wr.heap.size, 0, none⟩ = some (.string x.key)) (first | go_keep | exact hx3)
            ((first
              | ((with_reducible refine hFd.out.mono ?_)
                 rintro e w3 ⟨rfl, b3⟩
                 have hq3 := (b3.block wr.heap.size hsz2).trans hq2.out
                 have hx3 : w3.cell? ⟨wr.heap.size, 0, none⟩ = some (.string x.key) := cell_of_row _ _ 0 _ _ _ hq3
                 have hb3 := b_call hb2.out (b_call (Below.refl _ w1).drew b3))
              | fail))
          clear hx3
          obtain ⟨y0, y1, y2, f0, f1, f2⟩ := box3f hq3
          replace hq3 := hid hq3
          replace hb3 := hid hb3
          clear hq2 hb2 b3 x0 hFd
          have hbT := hid (hb.out.trans (hb3.out.mono hb.out.size))
          by_cases ht : atKey (fun x : Flight => x.key) x.key l < k
          · have h0 := hfv.out
            rw [if_pos ht] at h0
            subst h0
            have hz6 := hid (hstop.out 6 (hf2.out hh'.out ht) (by decide))
            clear hf2 hf3 hf4 hstep hstop ht hfv
            go_wp2_with fail
            go_ret
            exact ⟨ret_i hz6.out.symm, hbT.out⟩
          · have h0 := hfv.out
            rw [if_neg ht] at h0
            subst h0
            clear hf2 hfv
            by_cases h5 : 5 < x.waiters.length
            · have hz1 := hid (hstop.out 1 (hf3.out hh'.out ht h5) (by decide))
              have t5 : decide (5 < (x.waiters.length : Int)) = true := by simp; omega
              clear hf3 hf4 hstep hstop ht h5
              go_wp2_with fail
              go_ret
              exact ⟨ret_i hz1.out.symm, hbT.out⟩
            · have hcr := hid (hf4.out hh'.out ht h5)
              have t5 : decide (5 < (x.waiters.length : Int)) = false := by simp; omega
              have h5' : x.waiters.length ≤ 5 := by omega
              clear hf3 hf4 ht h5
              go_wp2_with fail
              ((with_reducible refine (flight_crew x _ w3 (rdv.out.mono EI.stable hb3.out)).mono ?_); rintro e w4 ⟨v4, rfl, o4, b4⟩)
              have hbU := hid (hbT.out.trans (b4.mono hbT.out.size))
              obtain ⟨a4, k4, rfl, hl4, hm4, -⟩ := id (OS.len_le o4)
              have hlen : (x.leader :: x.waiters).length = x.waiters.length + 1 := rfl
              have hwc : ∀ n ∈ x.leader :: x.waiters, (Lit.int .i64 n).wf = true := fun n hn => by
                rcases List.mem_cons.1 hn with rfl | hn
                · exact wf
                · exact hwl.out n hn
              have r4 := reads_i o4 (by rw [hlen]; omega) hwc
              have hcl : (crewOf x).length ≤ 6 := by show x.waiters.length + 1 ≤ 6; omega
              have hcr0 : Hid (flightFault l k x = crewFault (crewOf x) 0 ((crewOf x).drop 0)) := hcr
              rw [show (x.leader :: x.waiters) = crewOf x from rfl] at r4 hl4 ⊢
              generalize crewOf x = cw at *
              generalize flightFault l k x = ff at *
              replace r4 := hid r4
              replace hlen := hid hlen
              replace hwc := hid hwc
              unfold maxLen at hm4
              clear hcr o4 b4 hb3 hq3 y0 y1 y2 f0 f1 f2
              go_wp2_with fail
              go_loopw [9, 10, 46] (fun _ _ i2 wr2 => ∃ (j : Nat), j ≤ cw.length ∧ i2 = .int .i64 (j : Int) ∧ Hid (ff = crewFault cw j (cw.drop j)) ∧ wr2 = w4) (fun _ _ i2 _ => cw.length - (intOf i2).toNat)
              case atStart => exact ⟨0, by omega, rfl, hcr0, rfl⟩
              case round =>
                obtain ⟨j, hj, rfl, hcz, rfl⟩ := hrel
                by_cases hlt2 : j < cw.length
                · have hn : cw[j]? = some cw[j] := List.getElem?_eq_getElem hlt2
                  generalize cw[j] = n at hn
                  obtain ⟨bq, oq, rfl, hbq, he4⟩ := ri_at r4.out hn
                  obtain ⟨d0, -⟩ := he4
                  rw [Nat.mul_one] at d0
                  have hup4 := RS.upto r4.out j (by omega)
                  have e1 : j ≤ cw.length := by omega
                  have e2 : j ≤ k4 := by omega
                  have hwho := fun w => flight_who n w
                  have hcon := slices_Contains_int _ (cw.take j) n _ hup4
                  have hcs := hid (fun h1 h2 => crew_step hcz.out hn h1 h2)
                  have hcr1 := hid (fun h1 => crew_range hcz.out hn h1)
                  have hct := hid (fun h1 h2 => crew_twice hcz.out hn h1 h2)
                  clear hup4 hcz hn hbq
                  by_cases hs : 1 ≤ n ∧ n ≤ 1000
                  · have hsb : someB n = true := decide_eq_true hs
                    rw [hsb] at hwho
                    replace hwho := hid hwho
                    clear hsb
                    by_cases hm : n ∈ cw.take j
                    · rw [decide_eq_true hm] at hcon
                      have hz6 := hid (hstop.out 6 (hct.out hs hm) (by decide))
                      replace hcon := hid hcon
                      clear hcs hcr1 hct hm hs hstep hstop
                      go_wp2_with fail
                      ((with_reducible refine (hwho.out _).mono ?_); rintro e w5 ⟨rfl, rfl⟩)
                      go_wp2_with fail
                      ((with_reducible refine hcon.out.mono ?_); rintro e w5 ⟨rfl, rfl⟩)
                      go_wp2_with fail
                      go_ret
                      exact ⟨ret_i hz6.out.symm, hbU.out⟩
                    · rw [decide_eq_false hm] at hcon
                      have hn2 := hid (hcs.out hs hm)
                      replace hcon := hid hcon
                      clear hcs hcr1 hct hm hs
                      go_wp2_with fail
                      ((with_reducible refine (hwho.out _).mono ?_); rintro e w5 ⟨rfl, rfl⟩)
                      go_wp2_with fail
                      ((with_reducible refine hcon.out.mono ?_); rintro e w5 ⟨rfl, rfl⟩)
                      go_wp2_with fail
                      go_roundw
                      case rel => exact ⟨j + 1, by omega, by go_num, hn2, trivial⟩
                      case measure => simp [intOf]; omega
                  · have hsb : someB n = false := decide_eq_false hs
                    rw [hsb] at hwho
                    replace hwho := hid hwho
                    have hz4 := hid (hstop.out 4 (hcr1.out hs) (by decide))
                    clear hsb hcs hcr1 hct hs hstep hstop hcon
                    go_wp2_with fail
                    ((with_reducible refine (hwho.out _).mono ?_); rintro e w5 ⟨rfl, rfl⟩)
                    go_wp2_with fail
                    go_ret
                    exact ⟨ret_i hz4.out.symm, hbU.out⟩
                · obtain rfl : j = cw.length := by omega
                  have hff := hid (hstep.out (crew_end hcz.out))
                  clear hstep hstop hcz hcr0
                  go_wp2_with fail
                  go_roundw
                  case rel => exact ⟨k + 1, by omega, by go_num, hff, hbU⟩
                  case measure => simp [intOf]; omega
        · have hz1 := hid (hstop.out _ (hf1.out hh) hh)
          have th : (hexFault x.key != 0) = true := by simp [hh]
          clear hf1 hf2 hf3 hf4 hstep hstop hfe
          generalize hexFault x.key = hv at *
          replace hh := hid hh
          go_wp2_with fail
          ((with_reducible refine (hc.out _).mono ?_); rintro e w1 ⟨rfl, b1⟩)
          have hbV := hid (b_call (b_alloc hb.out _) b1)
          clear b1
          go_wp2_with fail
          go_ret
          exact ⟨ret_i hz1.out.symm, hbV.out⟩
      · obtain rfl : k = l.length := by omega
        have hr0 := hid (flights_end hz.out)
        go_wp2_with fail
        go_ret
        exact ⟨ret_i hr0.out.symm, hb.out⟩
end Go.Proofs.YtpcnhldlfmdlhaaGreatDoor

namespace Go.Proofs.YtpcnhldlfmdlhaaGreatDoor
open Go.RowKit
open Go.Maps (Keyed)

theorem map_key : Keyed Tryz.prog 3 := Maps.int_keyed Tryz.underlying3
theorem zero_bool (w : World) : (zeroValue 4).run Tryz.prog w = .ok (.bool false) w := by kernel_rfl
theorem keyed_int {n : Int} (h : (Lit.int .i64 n).wf = true) : keyOf Tryz.prog 3 (.int .i64 n) = some (.int .i64 n) := Maps.keyOf_int_mk Tryz.underlying3 h
/-- Block b holds a map of those of a list. -/
def Met (w : World) (b n : Nat) (l : List Int) : Prop := ∃ D : DataW Unit, w.ownsMap Tryz.prog 3 (plainElem Tryz.prog 4) b n D ∧ SeenBy D l

set_option maxRecDepth 100000 in
set_option maxHeartbeats 4000000 in
theorem ref_FlightsFault (v : Value) (l : List Flight) (w : World) (h : RF w v l) :
    Calls Tryz.prog 21 #[v] w fun e w' => e = .returned (.int .i64 (flightsFault l)) ∧ Below w.heap.size w w' := by
  obtain ⟨i0, ii0, hz0, hz1, hz2⟩ := info_parts info_int
  have hR := hid h
  obtain ⟨a, c, rfl, hlc, hcm, hre, hno, hat⟩ := h
  unfold maxLen at hcm
  clear hno
  replace hat := hid hat
  by_cases h6 : 6 < l.length
  · have hr := hid (flights_long h6)
    go_enter Tryz.func21, Tryz.ntmps21
    go_wp2_with fail
    go_ret
    exact ⟨ret_i hr.out.symm, Below.refl _ _⟩
  · have hr := hid (flights_short h6)
    generalize flightsFault l = z at *
    have hmm := @run_makeMap Tryz.prog
    go_enter Tryz.func21, Tryz.ntmps21
    go_wp2_with fail
    go_loopw [3, 4, 5, 6, 8, 14] (fun _ _ _ _ _ i wr => ∃ (k : Nat), k ≤ l.length ∧ i = .int .i64 (k : Int) ∧ Hid (z = flightsFrom l k (l.drop k)) ∧ Hid (Below w.heap.size w wr)) (fun _ _ _ _ _ i _ => l.length - (intOf i).toNat)
    case atStart => exact ⟨0, by omega, rfl, hr, hid (Below.refl _ _)⟩
    case round =>
      obtain ⟨k, hk, rfl, hz, hb⟩ := hrel
      by_cases hlt : k < l.length
      · have hx : l[k]? = some l[k] := List.getElem?_eq_getElem hlt
        generalize l[k] = x at hx
        obtain ⟨bb, off, rfl, hbb, he⟩ := hat.out k _ hx
        obtain ⟨dv, c0, c1, c2, rdv, s0, wf⟩ := EFlight.stable _ _ _ _ _ hb.out hbb he
        have hbw : bb < wr.heap.size := Nat.lt_of_lt_of_le hbb hb.out.size
        have hstep := hid (fun h0 => flights_step hz.out hx h0)
        have hstop := hid (fun (n : Int) (h0 : flightFault l k x = n) (hn : n ≠ 0) => flights_stop hz.out hx h0 hn)
        have hf1 := hid (fun hh => fl_hex (l := l) (k := k) (x := x) hh)
        have hf2 := hid (fun hh h2 => fl_twice (l := l) (k := k) (x := x) hh h2)
        have hf3 := hid (fun hh h2 h3 => fl_size (l := l) (k := k) (x := x) hh h2 h3)
        have hf4 := hid (fun hh h2 h3 => fl_crew (l := l) (k := k) (x := x) hh h2 h3)
        have hAt := hid (fun w g => ref_FlightAt (.slice (some ⟨bb, off, none⟩) l.length c) l x.key w g)
        have hwl := ri_wf rdv
        obtain ⟨da, dc, rfl, -⟩ := id rdv
        replace rdv := hid rdv
        replace hwl := hid hwl
        clear he hx hz hr
        have hc := hid (fun w => ref_HexFault_any x.key w s0)
        have hba := hid (b_alloc (Below.refl _ wr) (Obj.cells #[.string x.key, .int .i64 x.leader, .slice da x.waiters.length dc] 42))
        have hq1 := hid (heap_alloc_new wr (Obj.cells #[.string x.key, .int .i64 x.leader, .slice da x.waiters.length dc] 42))
        have hsz1 : wr.heap.size < (wr.alloc (Obj.cells #[.string x.key, .int .i64 x.leader, .slice da x.waiters.length dc] 42)).heap.size := by simp
        by_cases hh : hexFault x.key = 0
        · rw [hh] at hc
          have hh' := hid hh
          clear hf1
          go_wp2_with fail
          ((with_reducible refine (hc.out _).mono ?_); rintro e w1 ⟨rfl, b1⟩)
          have hq2 := (b1.block wr.heap.size hsz1).trans hq1.out
          have hb2 := b_call hba.out b1
          obtain ⟨x0, x1, x2, f0, f1, f2⟩ := box3f hq2
          have hsz2 : wr.heap.size < w1.heap.size := (Array.getElem?_eq_some_iff.1 hq2).1
          have hbT := hid (hb.out.trans (hb2.mono hb.out.size))
          replace hq2 := hid hq2
          replace hb2 := hid hb2
          clear b1 hq1 hba hsz1 hh
          have hlt0 : (atKey (fun x : Flight => x.key) x.key l : Int) < (k : Int) ↔ atKey (fun x : Flight => x.key) x.key l < k := by omega
          go_wp2_with fail
          ((with_reducible refine (hAt.out w1 (hR.out.mono EFlight.stable hbT.out)).mono ?_); rintro e w2 ⟨rfl, rfl⟩)
          by_cases ht : atKey (fun x : Flight => x.key) x.key l < k
          · have hz6 := hid (hstop.out 6 (hf2.out hh'.out ht) (by decide))
            have tt : decide ((atKey (fun x : Flight => x.key) x.key l : Int) < (k : Int)) = true := by simp; omega
            have tt2 : decide (atKey (fun x : Flight => x.key) x.key l < k) = true := by simp [ht]
            clear hf2 hf3 hf4 hstep hstop ht hlt0 hAt
            generalize atKey (fun x : Flight => x.key) x.key l = ak at *
            go_wp2_with fail
            go_ret
            exact ⟨ret_i hz6.out.symm, hbT.out⟩
          · have tt : decide ((atKey (fun x : Flight => x.key) x.key l : Int) < (k : Int)) = false := by simp; omega
            have tt2 : decide (atKey (fun x : Flight => x.key) x.key l < k) = false := by simp; omega
            by_cases h5 : 5 < x.waiters.length
            · have hz1 := hid (hstop.out 1 (hf3.out hh'.out ht h5) (by decide))
              have t5 : decide (5 < (x.waiters.length : Int)) = true := by simp; omega
              clear hf2 hf3 hf4 hstep hstop ht h5 hlt0 hAt
              generalize atKey (fun x : Flight => x.key) x.key l = ak at *
              go_wp2_with fail
              go_ret
              exact ⟨ret_i hz1.out.symm, hbT.out⟩
            · have hcr := hid (hf4.out hh'.out ht h5)
              have t5 : decide (5 < (x.waiters.length : Int)) = false := by simp; omega
              have h5' : x.waiters.length ≤ 5 := by omega
              clear hf2 hf3 hf4 ht h5 hlt0 hAt
              generalize atKey (fun x : Flight => x.key) x.key l = ak at *
              have hwc : ∀ n ∈ crewOf x, (Lit.int .i64 n).wf = true := fun n hn => by
                rcases List.mem_cons.1 hn with rfl | hn
                · exact wf
                · exact hwl.out n hn
              have hcl : (crewOf x).length ≤ 6 := by show x.waiters.length + 1 ≤ 6; omega
              have hrd := rdv.out.mono EI.stable (b_alloc (b_alloc hb2.out (Obj.map #[] 0)) (Obj.cells #[.int .i64 x.leader] 3))
              have hmade := hid (World.ownsMap.alloc (World.ownsMap_made (H := Unit) w1 Tryz.prog 3 (plainElem Tryz.prog 4)) (Obj.cells #[.int .i64 x.leader] 3))
              have hsT := hbT.out.size
              go_wp2_with (at_builtin; go_must (refine wpL_append flat_i rfl (.tmp 38) (.tmp 40) 40 rfl 3 i0 (.int .i64 0) Tryz.underlying40 ii0 hz0 hz1 hz2 rfl (w1.heap.size + 1) _ [x.leader] rfl (os_oneI (w1.alloc (Obj.map #[] 0)) _ _ _ (by simp) (by simp)) _ x.waiters rfl hrd ?c1 ?c2 ?c3 ?_))
              case c1 => simp; omega
              case c2 => simp [maxLen]; omega
              case c3 => simp
              intro v4 w4 o4 hg4
              have hmet0 : Hid (Met w4 w1.heap.size 0 ((crewOf x).take 0)) := hid ⟨_, hmade.out.kept hg4 (by simp [Value.ownBlock]), seen_nil⟩
              have hbU := hid ((((hbT.out.alloc hsT (Obj.map #[] 0)).alloc (by simp; omega) (Obj.cells #[.int .i64 x.leader] 3)).grown hg4 (by simp; omega) (fun q hq => by simp [Value.ownBlock] at hq; omega)))
              replace o4 : OS 3 1 cI w4 (w1.heap.size + 1) v4 (crewOf x) := o4
              obtain ⟨a4, k4, rfl, hl4, hm4, -⟩ := id (OS.len_le o4)
              have o4' : Hid (OS 3 1 cI w4 (w1.heap.size + 1) (.slice a4 (crewOf x).length k4) (crewOf x)) := hid o4
              have hcr0 : Hid (flightFault l k x = crewFault (crewOf x) 0 ((crewOf x).drop 0)) := hcr
              have hl4' : (crewOf x).length ≤ k4 := hl4
              clear o4 hl4
              generalize crewOf x = cw at *
              generalize flightFault l k x = ff at *
              unfold maxLen at hm4
              replace hwc := hid hwc
              clear hcr hg4 hmade hrd hb2 hq2 x0 x1 x2 f0 f1 f2 hbT
              generalize w1.heap.size = mb at *
              go_wp2_with fail
              go_loopw [8, 43] (fun _ i2 wr2 => ∃ (j : Nat), j ≤ cw.length ∧ i2 = .int .i64 (j : Int) ∧ Hid (ff = crewFault cw j (cw.drop j)) ∧ Hid (Met wr2 mb j (cw.take j)) ∧ Hid (OS 3 1 cI wr2 (mb + 1) (.slice a4 cw.length k4) cw) ∧ Hid (Below w.heap.size w wr2)) (fun _ i2 _ => cw.length - (intOf i2).toNat)
              case atStart => exact ⟨0, by omega, rfl, hcr0, hmet0, o4', hbU⟩
              case round =>
                obtain ⟨j, hj, rfl, hcz, hmet, ho, hbW⟩ := hrel
                by_cases hlt2 : j < cw.length
                · have hn : cw[j]? = some cw[j] := List.getElem?_eq_getElem hlt2
                  generalize cw[j] = n at hn
                  obtain ⟨bq, oq, rfl, hbq, he4⟩ := ri_at (reads_i ho.out (by omega) hwc.out) hn
                  obtain ⟨d0, hwn⟩ := he4
                  rw [Nat.mul_one] at d0
                  have htk := hid (List.take_succ_eq_append_getElem hlt2)
                  have hnn : cw[j] = n := (List.getElem?_eq_some_iff.1 hn).2
                  rw [hnn] at htk
                  clear hnn
                  have hwho := fun w => ref_someone n w
                  have hcs := hid (fun h1 h2 => crew_step hcz.out hn h1 h2)
                  have hcr1 := hid (fun h1 => crew_range hcz.out hn h1)
                  have hct := hid (fun h1 h2 => crew_twice hcz.out hn h1 h2)
                  clear hcz hn hbq
                  by_cases hs : 1 ≤ n ∧ n ≤ 1000
                  · have hsb : someB n = true := decide_eq_true hs
                    rw [hsb] at hwho
                    replace hwho := hid hwho
                    clear hsb
                    obtain ⟨D, hown, hseen⟩ := hmet.out
                    have hat9 := hseen.2 n
                    have hseen' := hid (seen_put (n := n) hseen)
                    replace hown := hid hown
                    have hkey := keyed_int hwn
                    by_cases hm : n ∈ cw.take j
                    · rw [decide_eq_true hm] at hat9
                      have hz6 := hid (hstop.out 6 (hct.out hs hm) (by decide))
                      replace hat9 := hid hat9
                      clear hcs hcr1 hct hm hs hstep hstop
                      go_wp2_with fail
                      ((with_reducible refine (hwho.out _).mono ?_); rintro e w5 ⟨rfl, rfl⟩)
                      go_wp2_with (at_lookup; refine wpList_lookup_bool _ rfl _ _ 79 rfl 3 4 map_key Tryz.underlying79 Tryz.underlying4 (zero_bool _) mb j D rfl hown.out _ _ rfl hkey true hat9.out ?_)
                      go_wp2_with fail
                      go_ret
                      exact ⟨ret_i hz6.out.symm, hbW.out⟩
                    · rw [decide_eq_false hm] at hat9
                      have hn2 := hid (hcs.out hs hm)
                      replace hat9 := hid hat9
                      clear hcs hcr1 hct hm hs
                      go_wp2_with fail
                      ((with_reducible refine (hwho.out _).mono ?_); rintro e w5 ⟨rfl, rfl⟩)
                      go_wp2_with (first
                        | (at_lookup; refine wpList_lookup_bool _ rfl _ _ 79 rfl 3 4 map_key Tryz.underlying79 Tryz.underlying4 (zero_bool _) mb j D rfl hown.out _ _ rfl hkey false hat9.out ?_)
                        | (at_mapUpdate; refine wpList_mapUpdate_own _ rfl _ _ _ 79 rfl 3 4 map_key Tryz.underlying79 _ mb j D rfl hown.out (by unfold maxLen; omega) _ _ _ rfl rfl hkey _ [] (plainElem_bool Tryz.underlying4 true) ?_))
                      intro w6 hown6 hg6
                      have hmet6 : Hid (Met w6 mb (j + 1) (cw.take (j + 1))) := hid ⟨_, hown6, by rw [htk.out]; exact hseen'.out⟩
                      have ho6 := hid (World.ownsRow.kept (row := some mb) ho.out hg6 (Or.inr (fun e => by have := OS.block ho.out mb e; omega)) : OS 3 1 cI w6 (mb + 1) _ cw)
                      have hb6 := hid (hbW.out.grown hg6 hbW.out.size (fun q hq => by simp at hq; omega))
                      clear hown6 hg6 hown hat9 hmet ho hbW hseen hseen'
                      go_wp2_with fail
                      go_roundw
                      case rel => exact ⟨j + 1, by omega, by go_num, hn2, hmet6, ho6, hb6⟩
                      case measure => simp [intOf]; omega
                  · have hsb : someB n = false := decide_eq_false hs
                    rw [hsb] at hwho
                    replace hwho := hid hwho
                    have hz4 := hid (hstop.out 4 (hcr1.out hs) (by decide))
                    clear hsb hcs hcr1 hct hs hstep hstop
                    go_wp2_with fail
                    ((with_reducible refine (hwho.out _).mono ?_); rintro e w5 ⟨rfl, rfl⟩)
                    go_wp2_with fail
                    go_ret
                    exact ⟨ret_i hz4.out.symm, hbW.out⟩
                · obtain rfl : j = cw.length := by omega
                  have hff := hid (hstep.out (crew_end hcz.out))
                  clear hstep hstop hcz hcr0
                  go_wp2_with fail
                  go_roundw
                  case rel => exact ⟨k + 1, by omega, by go_num, hff, hbW⟩
                  case measure => simp [intOf]; omega
        · have hz1 := hid (hstop.out _ (hf1.out hh) hh)
          have th : (hexFault x.key != 0) = true := by simp [hh]
          clear hf1 hf2 hf3 hf4 hstep hstop hAt
          generalize hexFault x.key = hv at *
          replace hh := hid hh
          go_wp2_with fail
          ((with_reducible refine (hc.out _).mono ?_); rintro e w1 ⟨rfl, b1⟩)
          have hbV := hid (b_call (b_alloc hb.out _) b1)
          clear b1
          go_wp2_with fail
          go_ret
          exact ⟨ret_i hz1.out.symm, hbV.out⟩
      · obtain rfl : k = l.length := by omega
        have hr0 := hid (flights_end hz.out)
        go_wp2_with fail
        go_ret
        exact ⟨ret_i hr0.out.symm, hb.out⟩
end Go.Proofs.YtpcnhldlfmdlhaaGreatDoor

namespace Go.Proofs.YtpcnhldlfmdlhaaGreatDoor
open Go.RowKit

end Go.Proofs.YtpcnhldlfmdlhaaGreatDoor

namespace Go.Proofs.YtpcnhldlfmdlhaaGreatDoor
open Go.RowKit

/-- What is wrong with the end of a key's flight, z being what is wrong with the list. -/
def endE (z : Int) (s : ByteArray) (l : List Flight) : Int := if z ≠ 0 then z else match l[atKey (·.key) s l]? with | none => 5 | some _ => 0
def endL (z : Int) (s : ByteArray) (l : List Flight) : List Flight := if endE z s l = 0 then l.take (atKey (·.key) s l) ++ l.drop (atKey (·.key) s l + 1) else []
def endW (z : Int) (s : ByteArray) (l : List Flight) : List Int := if endE z s l = 0 then (match l[atKey (·.key) s l]? with | none => [] | some x => crewOf x) else []
theorem OFlight.set {w : World} {B q o : Nat} {v u : Value} {l : List Flight} (h : OFlight w B v l) (hq : q < B) : OFlight (w.setCell ⟨q, o, none⟩ u) B v l := by
  obtain ⟨rs, h1, h2, h3⟩ := h
  exact ⟨rs, h1, h2.setOld hq, fun r hr => (h3 r hr).setOld hq⟩
theorem OFlight.after {w w' : World} {B : Nat} {v : Value} {l : List Flight} (h : OFlight w B v l) (hb : Below w.heap.size w w') : OFlight w' B v l := OX.below (CO.below hb) h hb
theorem OFlight.low {w : World} {B B' : Nat} {v : Value} {l : List Flight} (h : OFlight w B v l) (hB : B' ≤ B) : OFlight w B' v l := OX.mono (OX.to (fun _ _ h => OS.mono h hB) h) hB
def EndPost (z : Int) (s : ByteArray) (l : List Flight) (w : World) (e : Ending) (w' : World) : Prop :=
  ∃ v1 v2, e = .returned (.tuple #[v1, v2, .int .i64 (endE z s l)]) ∧ RF w' v1 (endL z s l) ∧ RI w' v2 (endW z s l) ∧ Below w.heap.size w w'
/-- As EndPost, and both rows are of the call's own. -/
def EndPostO (z : Int) (s : ByteArray) (l : List Flight) (w : World) (e : Ending) (w' : World) : Prop :=
  ∃ v1 v2, e = .returned (.tuple #[v1, v2, .int .i64 (endE z s l)]) ∧ RF w' v1 (endL z s l) ∧ RI w' v2 (endW z s l) ∧ Below w.heap.size w w' ∧ OFlight w' w.heap.size v1 (endL z s l) ∧ OS 3 1 cI w' w.heap.size v2 (endW z s l)
theorem EndPostO.plain {z : Int} {s : ByteArray} {l : List Flight} {w w' : World} {e : Ending} (h : EndPostO z s l w e w') : EndPost z s l w e w' := by
  obtain ⟨v1, v2, h1, h2, h3, h4, -⟩ := h
  exact ⟨v1, v2, h1, h2, h3, h4⟩
end Go.Proofs.YtpcnhldlfmdlhaaGreatDoor
