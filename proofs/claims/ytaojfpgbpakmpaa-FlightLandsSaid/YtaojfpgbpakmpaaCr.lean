/-
  Small functions on ints: flight.crew, flight.who, the reference's someone, slices.Index and slices.Contains on ints.
-/
import Derived.Test.YtaojfpgbpakmpaaKdF
import Derived.Test.YtaojfpgbpakmpaaCln
namespace Go.Proofs.Ytaojfpgbpakmpaa
open Go.RowKit

theorem os_oneI (w1 : World) (B k : Nat) (n : Int) (hk : k = w1.heap.size) (hB : B ≤ w1.heap.size) : OS 3 1 cI (w1.alloc (.cells #[.int .i64 n] 3)) B (.slice (some ⟨k, 0, none⟩) 1 1) [n] := by
  subst hk
  exact ⟨rfl, .inr ⟨w1.heap.size, 1, #[.int .i64 n], rfl, hB, heap_alloc_new w1 _, Nat.le_refl _, by simp [maxLen], rfl, rfl⟩⟩
def someB (n : Int) : Bool := decide (1 ≤ n ∧ n ≤ 1000)

set_option maxRecDepth 100000 in
theorem flight_who (n : Int) (w : World) : Calls Try.prog 92 #[.int .i64 n] w fun e w' => e = .returned (.bool (someB n)) ∧ w = w' := by
  by_cases h1 : 1 ≤ n
  · have q1 : decide (1 ≤ n) = true := by simp [h1]
    by_cases h2 : n ≤ 1000
    · have q2 : decide (n ≤ 1000) = true := by simp [h2]
      have hr : someB n = true := by simp [someB, h1, h2]
      rw [hr]
      clear hr
      go_enter Try.func92, Try.ntmps92
      go_wp2_with fail
      go_ret
      exact ⟨rfl, rfl⟩
    · have q2 : decide (n ≤ 1000) = false := by simp; omega
      have hr : someB n = false := by simp [someB]; omega
      rw [hr]
      clear hr
      go_enter Try.func92, Try.ntmps92
      go_wp2_with fail
      go_ret
      exact ⟨rfl, rfl⟩
  · have q1 : decide (1 ≤ n) = false := by simp; omega
    have hr : someB n = false := by simp [someB]; omega
    rw [hr]
    clear hr
    go_enter Try.func92, Try.ntmps92
    go_wp2_with fail
    go_ret
    exact ⟨rfl, rfl⟩
set_option maxRecDepth 100000 in
theorem ref_someone (n : Int) (w : World) : Calls Try.prog 98 #[.int .i64 n] w fun e w' => e = .returned (.bool (someB n)) ∧ w = w' := by
  by_cases h1 : 0 < n
  · have q1 : decide (0 < n) = true := by simp [h1]
    by_cases h2 : n ≤ 1000
    · have q2 : decide (n ≤ 1000) = true := by simp [h2]
      have hr : someB n = true := by simp [someB]; omega
      rw [hr]
      clear hr
      go_enter Try.func98, Try.ntmps98
      go_wp2_with fail
      go_ret
      exact ⟨rfl, rfl⟩
    · have q2 : decide (n ≤ 1000) = false := by simp; omega
      have hr : someB n = false := by simp [someB]; omega
      rw [hr]
      clear hr
      go_enter Try.func98, Try.ntmps98
      go_wp2_with fail
      go_ret
      exact ⟨rfl, rfl⟩
  · have q1 : decide (0 < n) = false := by simp; omega
    have hr : someB n = false := by simp [someB]; omega
    rw [hr]
    clear hr
    go_enter Try.func98, Try.ntmps98
    go_wp2_with fail
    go_ret
    exact ⟨rfl, rfl⟩

set_option maxRecDepth 100000 in
set_option maxHeartbeats 400000 in
theorem slices_Index_int (v : Value) (l : List Int) (n : Int) (w : World) (h : RI w v l) :
    Calls Try.prog 175 #[v, .int .i64 n] w fun e w' => e = .returned (.int .i64 (idxOf (fun x => n == x) l)) ∧ w = w' := by
  obtain ⟨a, c, rfl, hlc, hcm, hre, hno, hat⟩ := h
  unfold maxLen at hcm
  replace hat := hid hat
  have hy := hid (fun k x hx hq ha => idxOf_hit (q := fun x : Int => n == x) (l := l) (k := k) (x := x) hx hq ha)
  have hn := hid (fun ha => idxOf_miss (q := fun x : Int => n == x) (l := l) ha)
  clear hno
  go_enter Try.func175, Try.ntmps175
  go_wp2_with fail
  go_loopw [5, 8] (fun _ i wr => ∃ k : Nat, k ≤ l.length ∧ i = .int .i64 k ∧ Hid (∀ j x, j < k → l[j]? = some x → (n == x) = false) ∧ wr = w) (fun _ i _ => l.length - (intOf i).toNat)
  case atStart => exact ⟨0, by omega, rfl, hid (fun j x hj => by omega), rfl⟩
  case round =>
    obtain ⟨k, hk, rfl, hall, rfl⟩ := hrel
    by_cases hlt : k < l.length
    · have hx : l[k]? = some l[k] := List.getElem?_eq_getElem hlt
      generalize l[k] = x at hx
      obtain ⟨bb, off, rfl, hbb, he⟩ := hat.out k _ hx
      obtain ⟨c0, -⟩ := he
      rw [Nat.mul_one] at c0
      have hy1 := hid (fun hq => hy.out k x hx hq hall.out)
      have hnx := hid (fun (hq : (n == x) = false) => upto_next_l (q := fun x : Int => n == x) hall.out hx hq)
      clear hx
      cases hq : (n == x) with
      | true =>
        have hr := hid (hy1.out hq)
        clear hall
        go_wp2_with fail
        go_ret
        exact ⟨ret_i hr.out.symm, rfl⟩
      | false =>
        have hr := hid (hnx.out hq)
        clear hall
        go_wp2_with fail
        go_roundw
        case rel => exact ⟨k + 1, by omega, by go_num, hr, trivial⟩
        case measure => simp [intOf]; omega
    · obtain rfl : k = l.length := by omega
      have hr := hid (hn.out (fun j x hj => hall.out j x (List.getElem?_eq_some_iff.1 hj).1 hj))
      clear hall
      go_wp2_with fail
      go_ret
      exact ⟨ret_i hr.out.symm, rfl⟩
theorem idx_mem (n : Int) (l : List Int) : (0 ≤ idxOf (fun x => n == x) l) ↔ n ∈ l := by
  induction l with
  | nil => simp [idxOf]
  | cons x l ih =>
    rw [idxOf]
    by_cases h : (n == x) = true
    · rw [if_pos h]
      simp at h
      simp [h]
    · rw [if_neg h]
      simp at h
      simp only [List.mem_cons, h, false_or]
      rw [← ih]
      split
      · rename_i h2; omega
      · rename_i h2
        have hge : -1 ≤ idxOf (fun x => n == x) l := by
          clear ih h h2
          induction l with
          | nil => simp [idxOf]
          | cons y l ih =>
            rw [idxOf]
            split
            · omega
            · split <;> omega
        omega

set_option maxRecDepth 100000 in
set_option maxHeartbeats 400000 in
theorem slices_Contains_int (v : Value) (l : List Int) (n : Int) (w : World) (h : RI w v l) :
    Calls Try.prog 93 #[v, .int .i64 n] w fun e w' => e = .returned (.bool (decide (n ∈ l))) ∧ w = w' := by
  have hi := slices_Index_int v l n w h
  have hm := idx_mem n l
  have hd : decide (n ∈ l) = decide (0 ≤ idxOf (fun x => n == x) l) := by simp [hm]
  rw [hd]
  clear hd hm
  generalize idxOf (fun x => n == x) l = r at *
  replace hi := hid hi
  go_enter Try.func93, Try.ntmps93
  go_wp2_with fail
  ((with_reducible refine hi.out.mono ?_); rintro e w1 ⟨rfl, rfl⟩)
  go_wp2_with fail
  go_ret
  exact ⟨rfl, rfl⟩

set_option maxRecDepth 100000 in
set_option maxHeartbeats 400000 in
theorem flight_crew (x : Flight) (dv : Value) (w : World) (h : RI w dv x.waiters) :
    Calls Try.prog 91 #[.agg #[.string x.key, .int .i64 x.leader, dv]] w fun e w' => ∃ v', e = .returned v' ∧ OS 3 1 cI w' w.heap.size v' (x.leader :: x.waiters) ∧ Below w.heap.size w w' := by
  obtain ⟨i0, hi, hz0, hz1, hz2⟩ := info_parts info_int
  have hR := hid h
  obtain ⟨a, c, rfl, hlc, hcm, hre, -⟩ := h
  unfold maxLen at hcm
  go_enter Try.func91, Try.ntmps91
  go_wp2_with (at_builtin; go_must (refine wpL_append flat_i rfl (.tmp 5) (.tmp 7) 31 rfl 3 i0 (.int .i64 0) Try.underlying31 hi hz0 hz1 hz2 rfl w.heap.size _ [x.leader] rfl (os_oneI _ _ _ _ (by simp) (b_alloc (Below.refl w.heap.size w) _).size) _ x.waiters rfl (hR.out.mono EI.stable (b_alloc (b_alloc (Below.refl _ _) _) _)) ?c1 ?c2 ?c3 ?_))
  case c1 => simp; omega
  case c2 => simp [maxLen]; omega
  case c3 => simp; omega
  intro v' w1 hown hg
  have hb := b_grown (b_alloc (b_alloc (Below.refl w.heap.size w) (Obj.cells #[.string x.key, .int .i64 x.leader, .slice a x.waiters.length c] 115)) (Obj.cells #[.int .i64 x.leader] 3)) hg (fun k hk => by simp [Value.ownBlock] at hk; omega)
  replace hown := hid hown
  replace hb := hid hb
  clear hg
  go_wp2_with fail
  go_ret
  exact ⟨_, rfl, hown.out, hb.out⟩
end Go.Proofs.Ytaojfpgbpakmpaa
