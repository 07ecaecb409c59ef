/-
  The laws' comparing of two lists of records (Blob): two slices that read as one list are the same.
-/
import Derived.Test.YtaojfpgbpakmpaaKdB
import Derived.Test.YtaojfpgbpakmpaaSp
import Derived.Test.YtaojfpgbpakmpaaWire
namespace Go.Proofs.Ytaojfpgbpakmpaa
open Go.RowKit

set_option maxRecDepth 100000 in
set_option maxHeartbeats 400000 in
theorem eq1_B (x : Blob) (da db : Value) (w : World) (ha : RB w da x.data) (hb : RB w db x.data) :
    Calls Try.prog 151 #[.agg #[.string x.digest, da, .int .i64 x.pins, .bool x.mark], .agg #[.string x.digest, db, .int .i64 x.pins, .bool x.mark]] w fun e w' => e = .returned (.bool true) ∧ Below w.heap.size w w' := by
  have hA := hid ha
  have hB := hid hb
  obtain ⟨a1, c1, rfl, -⟩ := ha
  obtain ⟨a2, c2, rfl, -⟩ := hb
  have hq : (x.digest.toList == x.digest.toList) = true := by simp
  go_enter Try.func151, Try.ntmps151
  go_wp2_with fail
  ((with_reducible refine (law_sameBytes_yes _ _ _ x.data (hA.out.mono EU8.stable (b_alloc (b_alloc (Below.refl _ _) _) _)) (hB.out.mono EU8.stable (b_alloc (b_alloc (Below.refl _ _) _) _))).mono ?_); rintro e w1 ⟨rfl, rfl⟩)
  have hb1 := hid (b_alloc (b_alloc (Below.refl w.heap.size w) (Obj.cells #[.string x.digest, .slice a1 x.data.length c1, .int .i64 x.pins, .bool x.mark] 60)) (Obj.cells #[.string x.digest, .slice a2 x.data.length c2, .int .i64 x.pins, .bool x.mark] 60))
  go_wp2_with fail
  go_ret
  exact ⟨rfl, hb1.out⟩

set_option maxRecDepth 100000 in
set_option maxHeartbeats 400000 in
theorem eqFunc_B (a b : Value) (w : World) (l : List Blob) (ha : RBl w a l) (hb : RBl w b l) :
    Calls Try.prog 150 #[a, b, .func (.func 151) #[] #[]] w fun e w' => e = .returned (.bool true) ∧ Below w.heap.size w w' := by
  obtain ⟨a0, ca, rfl, hla, hca, hre, _, hA⟩ := ha
  obtain ⟨b0, cb, rfl, hlb, hcb, _, _, hB⟩ := hb
  unfold maxLen at hca hcb
  replace hA := hid hA
  replace hB := hid hB
  have eg : ∀ args w, (callFunc 151 args).run Try.prog w = .ok (.enter 151 args) w := enters_of Try.func151 (by kernel_rfl) rfl
  go_enter Try.func150, Try.ntmps150
  go_wp2_with fail
  go_loopw [7, 8, 9, 17] (fun _ _ _ i wr => ∃ (k : Nat), i = .int .i64 (k : Int) ∧ k ≤ l.length ∧ Hid (Below w.heap.size w wr)) (fun _ _ _ i _ => l.length - (intOf i).toNat)
  case atStart => exact ⟨0, rfl, by omega, hid (Below.refl _ _)⟩
  case round =>
    obtain ⟨k, rfl, hk, hb⟩ := hrel
    by_cases hlt : k < l.length
    · have hx : l[k]? = some l[k] := List.getElem?_eq_getElem hlt
      generalize l[k] = x at hx
      obtain ⟨b1, o1, rfl, hb1, h1⟩ := hA.out k _ hx
      obtain ⟨b2, o2, rfl, hb2, h2⟩ := hB.out k _ hx
      obtain ⟨d1, x0, x1, x2, x3, r1, -⟩ := EBlob.stable _ _ _ _ _ hb.out hb1 h1
      obtain ⟨d2, y0, y1, y2, y3, r2, -⟩ := EBlob.stable _ _ _ _ _ hb.out hb2 h2
      have hl1 : b1 < wr.heap.size := Nat.lt_of_lt_of_le hb1 hb.out.size
      have hl2 : b2 < wr.heap.size := Nat.lt_of_lt_of_le hb2 hb.out.size
      have hR1 := hid r1
      have hR2 := hid r2
      obtain ⟨e1, g1, rfl, -⟩ := r1
      obtain ⟨e2, g2, rfl, -⟩ := r2
      clear hx h1 h2
      go_wp2_with fail
      ((with_reducible refine (eq1_B x _ _ _ (hR1.out.mono EU8.stable (b_alloc (b_alloc (Below.refl _ _) _) _)) (hR2.out.mono EU8.stable (b_alloc (b_alloc (Below.refl _ _) _) _))).mono ?_); rintro e w1 ⟨rfl, b1'⟩)
      have hb' := hid (b_call (b_alloc (b_alloc hb.out _) _) b1')
      clear b1'
      go_wp2_with fail
      go_roundw
      case rel => exact ⟨k + 1, by go_num, by omega, hb'⟩
      case measure => simp [intOf]; omega
    · go_wp2_with fail
      go_ret
      exact ⟨rfl, hb.out⟩

set_option maxRecDepth 100000 in
theorem law_sameBlobs_yes (a b : Value) (w : World) (l : List Blob) (ha : RBl w a l) (hb : RBl w b l) :
    Calls Try.prog 58 #[a, b] w fun e w' => e = .returned (.bool true) ∧ Below w.heap.size w w' := by
  go_enter Try.func58, Try.ntmps58
  go_wp2_with fail
  ((with_reducible refine (eqFunc_B _ _ _ _ ha hb).mono ?_); rintro e w1 ⟨rfl, h1⟩)
  go_wp2_with fail
  go_ret
  exact ⟨rfl, h1⟩
end Go.Proofs.Ytaojfpgbpakmpaa
