/-
  The laws' comparing of two lists of records (Flight): two slices that read as one list are the same.
-/
import Derived.Test.YtaojfpgbpakmpaaKdF
import Derived.Test.YtaojfpgbpakmpaaSp
namespace Go.Proofs.Ytaojfpgbpakmpaa
open Go.RowKit

set_option maxRecDepth 100000 in
set_option maxHeartbeats 400000 in
theorem eq1_F (x : Flight) (da db : Value) (w : World) (ha : RI w da x.waiters) (hb : RI w db x.waiters) :
    Calls Try.prog 100 #[.agg #[.string x.key, .int .i64 x.leader, da], .agg #[.string x.key, .int .i64 x.leader, db]] w fun e w' => e = .returned (.bool true) ∧ Below w.heap.size w w' := by
  have hA := hid ha
  have hB := hid hb
  obtain ⟨a1, c1, rfl, -⟩ := ha
  obtain ⟨a2, c2, rfl, -⟩ := hb
  have hq : (x.key.toList == x.key.toList) = true := by simp
  go_enter Try.func100, Try.ntmps100
  go_wp2_with fail
  ((with_reducible refine (law_sameInts_yes _ _ _ x.waiters (hA.out.mono EI.stable (b_alloc (b_alloc (Below.refl _ _) _) _)) (hB.out.mono EI.stable (b_alloc (b_alloc (Below.refl _ _) _) _))).mono ?_); rintro e w1 ⟨rfl, b1⟩)
  have hb1 := hid (b_call (b_alloc (b_alloc (Below.refl w.heap.size w) _) _) b1)
  obtain ⟨bc, bf⟩ := bcell b1
  clear b1
  go_wp2_with fail
  go_ret
  exact ⟨rfl, hb1.out⟩

set_option maxRecDepth 100000 in
set_option maxHeartbeats 400000 in
theorem eqFunc_F (a b : Value) (w : World) (l : List Flight) (ha : RF w a l) (hb : RF w b l) :
    Calls Try.prog 99 #[a, b, .func (.func 100) #[] #[]] w fun e w' => e = .returned (.bool true) ∧ Below w.heap.size w w' := by
  obtain ⟨a0, ca, rfl, hla, hca, hre, _, hA⟩ := ha
  obtain ⟨b0, cb, rfl, hlb, hcb, _, _, hB⟩ := hb
  unfold maxLen at hca hcb
  replace hA := hid hA
  replace hB := hid hB
  have eg : ∀ args w, (callFunc 100 args).run Try.prog w = .ok (.enter 100 args) w := enters_of Try.func100 (by kernel_rfl) rfl
  go_enter Try.func99, Try.ntmps99
  go_wp2_with fail
  go_loopw [7, 8, 9, 17] (fun _ _ _ i wr => ∃ (k : Nat), i = .int .i64 (k : Int) ∧ k ≤ l.length ∧ Hid (Below w.heap.size w wr)) (fun _ _ _ i _ => l.length - (intOf i).toNat)
  case atStart => exact ⟨0, rfl, by omega, hid (Below.refl _ _)⟩
  case round =>
    obtain ⟨k, rfl, hk, hb⟩ := hrel
    by_cases hlt : k < l.length
    · have hx : l[k]? = some l[k] := List.getElem?_eq_getElem hlt
      generalize l[k] = x at hx
      obtain ⟨b1, o1, rfl, hb1, h1⟩ := hA.out k _ hx
      obtain ⟨b2, o2, rfl, hb2, h2⟩ := hB.out k _ hx
      obtain ⟨d1, x0, x1, x2, r1, -⟩ := EFlight.stable _ _ _ _ _ hb.out hb1 h1
      obtain ⟨d2, y0, y1, y2, r2, -⟩ := EFlight.stable _ _ _ _ _ hb.out hb2 h2
      have hl1 : b1 < wr.heap.size := Nat.lt_of_lt_of_le hb1 hb.out.size
      have hl2 : b2 < wr.heap.size := Nat.lt_of_lt_of_le hb2 hb.out.size
      have hR1 := hid r1
      have hR2 := hid r2
      obtain ⟨e1, g1, rfl, -⟩ := r1
      obtain ⟨e2, g2, rfl, -⟩ := r2
      clear hx h1 h2
      go_wp2_with fail
      ((with_reducible refine (eq1_F x _ _ _ (hR1.out.mono EI.stable (b_alloc (b_alloc (Below.refl _ _) _) _)) (hR2.out.mono EI.stable (b_alloc (b_alloc (Below.refl _ _) _) _))).mono ?_); rintro e w1 ⟨rfl, b1'⟩)
      have hb' := hid (b_call (b_alloc (b_alloc hb.out _) _) b1')
      clear b1'
      go_wp2_with fail
      go_roundw
      case rel => exact ⟨k + 1, by go_num, by omega, hb'⟩
      case measure => simp [intOf]; omega
    · go_wp2_with fail
      go_ret
      exact ⟨rfl, hb.out⟩

set_option maxRecDepth 100000 in
theorem law_sameFlights_yes (a b : Value) (w : World) (l : List Flight) (ha : RF w a l) (hb : RF w b l) :
    Calls Try.prog 28 #[a, b] w fun e w' => e = .returned (.bool true) ∧ Below w.heap.size w w' := by
  go_enter Try.func28, Try.ntmps28
  go_wp2_with fail
  ((with_reducible refine (eqFunc_F _ _ _ _ ha hb).mono ?_); rintro e w1 ⟨rfl, h1⟩)
  go_wp2_with fail
  go_ret
  exact ⟨rfl, h1⟩
end Go.Proofs.Ytaojfpgbpakmpaa
