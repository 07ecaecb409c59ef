/-
  What putting an entry into a store answers; the tick of its clock. Printed by gen_sp.py.
-/
import Derived.Test.YtcbopanekmpllaaWrt
import Derived.Test.YtcbopanekmpllaaPutL
namespace Go.Proofs.Ytcbopanekmpllaa
open Go.RowKit

/-- The first of what is wrong with putting an entry into a store. -/
def spE (z1 z2 z3 z4 t e : Int) : Int := if z1 ≠ 0 then z1 else if z2 ≠ 0 then z2 else if z3 ≠ 0 then z3 else if z4 ≠ 0 then z4 else if (t == 1099511627776) = true then 4 else e
section
variable {z1 z2 z3 z4 t e : Int}
theorem spE_1 (h : z1 ≠ 0) : spE z1 z2 z3 z4 t e = z1 := if_pos h
theorem spE_2 (h : z2 ≠ 0) : spE 0 z2 z3 z4 t e = z2 := by simp [spE, h]
theorem spE_3 (h : z3 ≠ 0) : spE 0 0 z3 z4 t e = z3 := by simp [spE, h]
theorem spE_4 (h : z4 ≠ 0) : spE 0 0 0 z4 t e = z4 := by simp [spE, h]
theorem spE_5 (h : (t == 1099511627776) = true) : spE 0 0 0 0 t e = 4 := by unfold spE; rw [if_pos h]; simp
theorem spE_6 (h : (t == 1099511627776) = false) : spE 0 0 0 0 t e = e := by unfold spE; rw [if_neg (c := (t == 1099511627776) = true) (by rw [h]; decide)]; simp
end
theorem wf_small {n : Int} (h0 : 0 ≤ n) (h1 : n ≤ 2199023255552) : (Lit.int .i64 n).wf = true := by
  unfold Lit.wf
  simp only [Bool.and_eq_true, decide_eq_true_eq]
  exact ⟨Int.le_trans (by decide) h0, Int.le_trans h1 (by decide)⟩
theorem clock_of {bs : List Blob} {es : List Entry} {r t : Int} (h : storeFault bs es r t = 0) : 0 ≤ t ∧ t ≤ 1099511627776 := by
  by_cases h1 : blobsFault bs = 0
  · by_cases h2 : entriesFault es = 0
    · by_cases h3 : roomFault bs r = 0
      · by_cases h4 : badClock t
        · rw [st4 h1 h2 h3 h4] at h; cases h
        · unfold badClock at h4; omega
      · rw [st3 h1 h2 h3] at h; exact absurd h h3
    · rw [st2 h1 h2] at h; exact absurd h h2
  · rw [st1 h1] at h; exact absurd h h1

set_option maxRecDepth 100000 in
theorem store_tick_full (w : World) (p : Nat) (a b : Value) (r t : Int) (h2 : (t == 1099511627776) = true) (h : w.heap[p]? = some (.cells #[a, b, .int .i64 r, .int .i64 t] 49 (0, 0))) :
    Calls Try.prog 114 #[.pointer (some ⟨p, 0, none⟩)] w fun e w' => e = .returned (.int .i64 4) ∧ w' = w := by
  obtain ⟨x0, x1, x2, x3⟩ := box4f h
  go_enter Try.func114, Try.ntmps114
  go_wp2
  go_ret
  exact ⟨rfl, rfl⟩
set_option maxRecDepth 100000 in
theorem store_tick_ok (w : World) (a b : Value) (r t : Int) (h0 : 0 ≤ t) (h1 : t ≤ 1099511627776) (h2 : (t == 1099511627776) = false) :
    Calls Try.prog 114 #[.pointer (some ⟨w.heap.size, 0, none⟩)] (w.alloc (Obj.cells #[a, b, .int .i64 r, .int .i64 t] 49)) fun e w' => e = .returned (.int .i64 0) ∧ w' = w.alloc (Obj.cells #[a, b, .int .i64 r, .int .i64 (t + 1)] 49) := by
  have g5 : IntKind.i64.wrap (t + 1) = t + 1 := IntWalk.i64_in _ (by omega)
  go_enter Try.func114, Try.ntmps114
  go_wp2
  go_ret
  exact ⟨rfl, rfl⟩
end Go.Proofs.Ytcbopanekmpllaa
