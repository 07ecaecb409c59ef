/-
  The cells of a part. No function of the program is named here. slices.Clone on parts and on ints: a row of this call's own. sameParts and sameInts of the laws: two slices that read as one list are the same.
-/
import Derived.Test.YtpcnhldlfmdlhaaGreatQxBas
import Derived.Tactics2
import Derived.Deep.QuietTactic
import Derived.BigQuiet
namespace Go.Proofs.YtpcnhldlfmdlhaaGreat
open Go.RowKit

/-- The cells of a part. -/
def cPart (x : Part) : List Value := [.string x.name, .string x.digest, .int .i64 x.size]
theorem flat_part : Flat 3 cPart EPart := ⟨by decide, fun _ => rfl, fun _ u hu => by simp [cPart] at hu; rcases hu with rfl | rfl | rfl <;> rfl, fun w b o x h j hj => by
  obtain ⟨h0, h1, h2, _⟩ := h
  rcases j with _ | _ | _ | j
  · exact h0
  · exact h1
  · exact h2
  · omega⟩
theorem reads_part {e : TypeId} {w : World} {B : Nat} {v : Value} {l : List Part} (h : OS e 3 cPart w B v l) (hb : l.length * 40 ≤ 140737488351232) (ho : ∀ x ∈ l, x.name.size ≤ 140737488351232 ∧ x.digest.size ≤ 140737488351232 ∧ (Lit.int .i64 x.size).wf = true) : RP w v l :=
  OS.reads (cells := cPart) (fun _ => rfl) (by decide) (fun b o x hx hc => ⟨hc 0 (by omega), hc 1 (by omega), hc 2 (by omega), ho x hx⟩) h hb
end Go.Proofs.YtpcnhldlfmdlhaaGreat

namespace Go.Proofs.YtpcnhldlfmdlhaaGreat
open Go.RowKit

theorem info_part : (Tryz.prog.info? 75).map (fun i => (i.zero, i.size, i.bytes)) = some (some (.agg #[.string ⟨#[]⟩, .string ⟨#[]⟩, .int .i64 0]), 3, 40) := by kernel_rfl
theorem info_int : (Tryz.prog.info? 3).map (fun i => (i.zero, i.size, i.bytes)) = some (some (.int .i64 0), 1, 8) := by kernel_rfl

set_option maxRecDepth 100000 in
set_option maxHeartbeats 400000 in
theorem slices_Clone_part (v : Value) (l : List Part) (w : World) (h : RP w v l) :
    Calls Tryz.prog 77 #[v] w fun e w' => ∃ v', e = .returned v' ∧ OS 75 3 cPart w' w.heap.size v' l ∧ Below w.heap.size w w' := by
  obtain ⟨i0, hi, hz0, hz1, hz2⟩ := info_parts info_part
  have hh := h
  obtain ⟨a, c, rfl, hlc, hcm, hre, hno, hat⟩ := hh
  cases a with
  | none =>
    have hc0 := hno rfl
    subst hc0
    have hl0 : l = [] := List.eq_nil_of_length_eq_zero (by omega)
    subst hl0
    have he := fun w => Lib.run_eql_slice_nil (P := Tryz.prog) w 42 75 none 0 0 0 0 Tryz.underlying42
    go_enter Tryz.func77, Tryz.ntmps77
    go_wp2
    go_ret
    exact ⟨_, rfl, OS.nil, Below.refl _ _⟩
  | some ad =>
    have he := fun w => Lib.run_eql_slice_nil (P := Tryz.prog) w 42 75 (some ad) l.length c 0 0 Tryz.underlying42
    clear hat
    go_enter Tryz.func77, Tryz.ntmps77
    go_wp2_with (at_builtin; go_must (refine wpL_append flat_part rfl (.tmp 5) (.tmp 6) 42 rfl 75 i0 _ Tryz.underlying42 hi hz0 hz1 hz2 rfl w.heap.size _ [] rfl (os_empty' _ _ _ _ (by simp) (by simp)) _ l rfl (h.mono EPart.stable (b_alloc (Below.refl _ _) _)) ?c1 ?c2 ?c3 ?_))
    case c1 => simp; omega
    case c2 => simp [maxLen]; omega
    case c3 => simp
    intro v' w1 hown hg
    have hb := b_grown (b_alloc (Below.refl w.heap.size w) (.cells #[] 75)) hg (fun k hk => by simp [Value.ownBlock] at hk; omega)
    clear hg
    go_wp2
    go_ret
    exact ⟨_, rfl, hown, hb⟩

set_option maxRecDepth 100000 in
set_option maxHeartbeats 400000 in
theorem slices_Clone_int (v : Value) (l : List Int) (w : World) (h : RI w v l) :
    Calls Tryz.prog 143 #[v] w fun e w' => ∃ v', e = .returned v' ∧ OS 3 1 cI w' w.heap.size v' l ∧ Below w.heap.size w w' := by
  obtain ⟨i0, hi, hz0, hz1, hz2⟩ := info_parts info_int
  have hh := h
  obtain ⟨a, c, rfl, hlc, hcm, hre, hno, hat⟩ := hh
  cases a with
  | none =>
    have hc0 := hno rfl
    subst hc0
    have hl0 : l = [] := List.eq_nil_of_length_eq_zero (by omega)
    subst hl0
    have he := fun w => Lib.run_eql_slice_nil (P := Tryz.prog) w 43 3 none 0 0 0 0 Tryz.underlying43
    go_enter Tryz.func143, Tryz.ntmps143
    go_wp2
    go_ret
    exact ⟨_, rfl, OS.nil, Below.refl _ _⟩
  | some ad =>
    have he := fun w => Lib.run_eql_slice_nil (P := Tryz.prog) w 43 3 (some ad) l.length c 0 0 Tryz.underlying43
    clear hat
    go_enter Tryz.func143, Tryz.ntmps143
    go_wp2_with (at_builtin; go_must (refine wpL_append flat_i rfl (.tmp 5) (.tmp 6) 43 rfl 3 i0 (.int .i64 0) Tryz.underlying43 hi hz0 hz1 hz2 rfl w.heap.size _ [] rfl (os_empty' _ _ _ _ (by simp) (by simp)) _ l rfl (h.mono EI.stable (b_alloc (Below.refl _ _) _)) ?c1 ?c2 ?c3 ?_))
    case c1 => simp; omega
    case c2 => simp [maxLen]; omega
    case c3 => simp
    intro v' w1 hown hg
    have hb := b_grown (b_alloc (Below.refl w.heap.size w) (.cells #[] 3)) hg (fun k hk => by simp [Value.ownBlock] at hk; omega)
    clear hg
    go_wp2
    go_ret
    exact ⟨_, rfl, hown, hb⟩
end Go.Proofs.YtpcnhldlfmdlhaaGreat

namespace Go.Proofs.YtpcnhldlfmdlhaaGreat
open Go.RowKit
theorem below_drewN' {B : Nat} {a w : World} (h : Below B a w) (n : Nat) : Below B a (w.drewN n) := h.trans ⟨rfl, rfl, rfl, Nat.le_refl _, fun _ _ => rfl⟩

set_option maxRecDepth 100000 in
set_option maxHeartbeats 400000 in
theorem slices_Equal_part (a b : Value) (w : World) (l : List Part) (ha : RP w a l) (hb : RP w b l) :
    Calls Tryz.prog 31 #[a, b] w fun e w' => e = .returned (.bool true) ∧ Below w.heap.size w w' := by
  obtain ⟨a0, ca, rfl, hla, hca, hre, _, hA⟩ := ha
  obtain ⟨b0, cb, rfl, hlb, hcb, _, _, hB⟩ := hb
  unfold maxLen at hca hcb
  replace hA := hid hA
  replace hB := hid hB
  go_enter Tryz.func31, Tryz.ntmps31
  go_wp2_with fail
  go_loopw [13] (fun i wr => ∃ (k : Nat), i = .int .i64 (k : Int) ∧ k ≤ l.length ∧ Hid (Below w.heap.size w wr)) (fun i _ => l.length - (intOf i).toNat)
  case atStart => exact ⟨0, rfl, by omega, hid (Below.refl _ _)⟩
  case round =>
    obtain ⟨k, rfl, hk, hb⟩ := hrel
    by_cases hlt : k < l.length
    · have hx : l[k]? = some l[k] := List.getElem?_eq_getElem hlt
      generalize l[k] = x at hx
      obtain ⟨b1, o1, rfl, hb1, h1⟩ := hA.out k _ hx
      obtain ⟨b2, o2, rfl, hb2, h2⟩ := hB.out k _ hx
      obtain ⟨c0, c1, c2, -⟩ := EPart.stable _ _ _ _ _ hb.out hb1 h1
      obtain ⟨d0, d1, d2, -⟩ := EPart.stable _ _ _ _ _ hb.out hb2 h2
      clear hx h1 h2
      have hnk : (0 : Int) ≤ (k : Int) := by omega
      have hnl : (k : Int) < (l.length : Int) := by omega
      go_wp2_with fail
      go_quiet (fail)
      go_wp2_with fail
      go_roundw
      case rel => exact ⟨k + 1, by go_num, by omega, hid (below_drewN' hb.out _)⟩
      case measure => simp [intOf]; omega
    · go_wp2_with fail
      go_ret
      exact ⟨rfl, hb.out⟩

set_option maxRecDepth 100000 in
set_option maxHeartbeats 400000 in
theorem slices_Equal_int (a b : Value) (w : World) (l : List Int) (ha : RI w a l) (hb : RI w b l) :
    Calls Tryz.prog 42 #[a, b] w fun e w' => e = .returned (.bool true) ∧ Below w.heap.size w w' := by
  obtain ⟨a0, ca, rfl, hla, hca, hre, _, hA⟩ := ha
  obtain ⟨b0, cb, rfl, hlb, hcb, _, _, hB⟩ := hb
  unfold maxLen at hca hcb
  replace hA := hid hA
  replace hB := hid hB
  go_enter Tryz.func42, Tryz.ntmps42
  go_wp2_with fail
  go_loopw [13] (fun i wr => ∃ (k : Nat), i = .int .i64 (k : Int) ∧ k ≤ l.length ∧ Hid (Below w.heap.size w wr)) (fun i _ => l.length - (intOf i).toNat)
  case atStart => exact ⟨0, rfl, by omega, hid (Below.refl _ _)⟩
  case round =>
    obtain ⟨k, rfl, hk, hb⟩ := hrel
    by_cases hlt : k < l.length
    · have hx : l[k]? = some l[k] := List.getElem?_eq_getElem hlt
      generalize l[k] = x at hx
      obtain ⟨b1, o1, rfl, hb1, h1⟩ := hA.out k _ hx
      obtain ⟨b2, o2, rfl, hb2, h2⟩ := hB.out k _ hx
      obtain ⟨c0, -⟩ := EI.stable _ _ _ _ _ hb.out hb1 h1
      obtain ⟨d0, -⟩ := EI.stable _ _ _ _ _ hb.out hb2 h2
      rw [Nat.mul_one] at c0 d0
      clear hx h1 h2
      have hnk : (0 : Int) ≤ (k : Int) := by omega
      have hnl : (k : Int) < (l.length : Int) := by omega
      go_wp2_with fail
      go_quiet (fail)
      go_wp2_with fail
      go_roundw
      case rel => exact ⟨k + 1, by go_num, by omega, hid (below_drewN' hb.out _)⟩
      case measure => simp [intOf]; omega
    · go_wp2_with fail
      go_ret
      exact ⟨rfl, hb.out⟩

set_option maxRecDepth 100000 in
set_option maxHeartbeats 400000 in
theorem slices_Equal_str (a b : Value) (w : World) (l : List ByteArray) (ha : RT w a l) (hb : RT w b l) :
    Calls Tryz.prog 58 #[a, b] w fun e w' => e = .returned (.bool true) ∧ Below w.heap.size w w' := by
  obtain ⟨a0, ca, rfl, hla, hca, hre, _, hA⟩ := ha
  obtain ⟨b0, cb, rfl, hlb, hcb, _, _, hB⟩ := hb
  unfold maxLen at hca hcb
  replace hA := hid hA
  replace hB := hid hB
  go_enter Tryz.func58, Tryz.ntmps58
  go_wp2_with fail
  go_loopw [13] (fun i wr => ∃ (k : Nat), i = .int .i64 (k : Int) ∧ k ≤ l.length ∧ Hid (Below w.heap.size w wr)) (fun i _ => l.length - (intOf i).toNat)
  case atStart => exact ⟨0, rfl, by omega, hid (Below.refl _ _)⟩
  case round =>
    obtain ⟨k, rfl, hk, hb⟩ := hrel
    by_cases hlt : k < l.length
    · have hx : l[k]? = some l[k] := List.getElem?_eq_getElem hlt
      generalize l[k] = x at hx
      obtain ⟨b1, o1, rfl, hb1, h1⟩ := hA.out k _ hx
      obtain ⟨b2, o2, rfl, hb2, h2⟩ := hB.out k _ hx
      obtain ⟨c0, -⟩ := EStr.stable _ _ _ _ _ hb.out hb1 h1
      obtain ⟨d0, -⟩ := EStr.stable _ _ _ _ _ hb.out hb2 h2
      rw [Nat.mul_one] at c0 d0
      clear hx h1 h2
      have hnk : (0 : Int) ≤ (k : Int) := by omega
      have hnl : (k : Int) < (l.length : Int) := by omega
      go_wp2_with fail
      go_quiet (fail)
      go_wp2_with fail
      go_roundw
      case rel => exact ⟨k + 1, by go_num, by omega, hid (below_drewN' hb.out _)⟩
      case measure => simp [intOf]; omega
    · go_wp2_with fail
      go_ret
      exact ⟨rfl, hb.out⟩

set_option maxRecDepth 100000 in
theorem law_sameParts_yes (a b : Value) (w : World) (l : List Part) (ha : RP w a l) (hb : RP w b l) :
    Calls Tryz.prog 27 #[a, b] w fun e w' => e = .returned (.bool true) ∧ Below w.heap.size w w' := by
  go_enter Tryz.func27, Tryz.ntmps27
  go_wp2_with fail
  ((with_reducible refine (slices_Equal_part _ _ _ _ ha hb).mono ?_); rintro e w1 ⟨rfl, h1⟩)
  go_wp2_with fail
  go_ret
  exact ⟨rfl, h1⟩

set_option maxRecDepth 100000 in
theorem law_sameInts_yes (a b : Value) (w : World) (l : List Int) (ha : RI w a l) (hb : RI w b l) :
    Calls Tryz.prog 74 #[a, b] w fun e w' => e = .returned (.bool true) ∧ Below w.heap.size w w' := by
  go_enter Tryz.func74, Tryz.ntmps74
  go_wp2_with fail
  ((with_reducible refine (slices_Equal_int _ _ _ _ ha hb).mono ?_); rintro e w1 ⟨rfl, h1⟩)
  go_wp2_with fail
  go_ret
  exact ⟨rfl, h1⟩

set_option maxRecDepth 100000 in
theorem law_sameTexts_yes (a b : Value) (w : World) (l : List ByteArray) (ha : RT w a l) (hb : RT w b l) :
    Calls Tryz.prog 23 #[a, b] w fun e w' => e = .returned (.bool true) ∧ Below w.heap.size w w' := by
  go_enter Tryz.func23, Tryz.ntmps23
  go_wp2_with fail
  ((with_reducible refine (slices_Equal_str _ _ _ _ ha hb).mono ?_); rintro e w1 ⟨rfl, h1⟩)
  go_wp2_with fail
  go_ret
  exact ⟨rfl, h1⟩
end Go.Proofs.YtpcnhldlfmdlhaaGreat
