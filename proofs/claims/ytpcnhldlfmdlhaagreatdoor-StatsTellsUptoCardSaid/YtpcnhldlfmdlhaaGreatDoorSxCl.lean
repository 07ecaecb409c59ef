/-
  The cells of a part. No function of the program is named here. slices.Clone on parts and on ints: a row of this call's own. sameParts and sameInts of the laws: two slices that read as one list are the same.
-/
import Derived.Test.YtpcnhldlfmdlhaaGreatDoorSxBas
import Derived.Tactics2
import Derived.Deep.QuietTactic
import Derived.BigQuiet
namespace Go.Proofs.YtpcnhldlfmdlhaaGreatDoor
open Go.RowKit

/-- The cells of a part. -/
def cPart (x : Part) : List Value := [.string x.name, .string x.digest, .int .i64 x.size]
theorem reads_part {e : TypeId} {w : World} {B : Nat} {v : Value} {l : List Part} (h : OS e 3 cPart w B v l) (hb : l.length * 40 ≤ 140737488351232) (ho : ∀ x ∈ l, x.name.size ≤ 140737488351232 ∧ x.digest.size ≤ 140737488351232 ∧ (Lit.int .i64 x.size).wf = true) : RP w v l :=
  OS.reads (cells := cPart) (fun _ => rfl) (by decide) (fun b o x hx hc => ⟨hc 0 (by omega), hc 1 (by omega), hc 2 (by omega), ho x hx⟩) h hb
end Go.Proofs.YtpcnhldlfmdlhaaGreatDoor

namespace Go.Proofs.YtpcnhldlfmdlhaaGreatDoor
open Go.RowKit

theorem info_part : (Tryz.prog.info? 87).map (fun i => (i.zero, i.size, i.bytes)) = some (some (.agg #[.string ⟨#[]⟩, .string ⟨#[]⟩, .int .i64 0]), 3, 40) := by kernel_rfl
theorem info_int : (Tryz.prog.info? 3).map (fun i => (i.zero, i.size, i.bytes)) = some (some (.int .i64 0), 1, 8) := by kernel_rfl

end Go.Proofs.YtpcnhldlfmdlhaaGreatDoor

namespace Go.Proofs.YtpcnhldlfmdlhaaGreatDoor
open Go.RowKit
theorem below_drewN' {B : Nat} {a w : World} (h : Below B a w) (n : Nat) : Below B a (w.drewN n) := h.trans ⟨rfl, rfl, rfl, Nat.le_refl _, fun _ _ => rfl⟩

set_option maxRecDepth 100000 in
set_option maxHeartbeats 400000 in
theorem slices_Equal_str (a b : Value) (w : World) (l : List ByteArray) (ha : RT w a l) (hb : RT w b l) :
    Calls Tryz.prog 15 #[a, b] w fun e w' => e = .returned (.bool true) ∧ Below w.heap.size w w' := by
  obtain ⟨a0, ca, rfl, hla, hca, hre, _, hA⟩ := ha
  obtain ⟨b0, cb, rfl, hlb, hcb, _, _, hB⟩ := hb
  unfold maxLen at hca hcb
  replace hA := hid hA
  replace hB := hid hB
  go_enter Tryz.func15, Tryz.ntmps15
  go_wp2_with fail
  go_loopw [13] (fun i wr => ∃ (k : Nat), i = .int .i64 (k : Int) ∧ k ≤ l.length ∧ Hid (Below w.heap.size w wr)) (fun i _ => l.length - (intOf i).toNat)
  case atStart => exact ⟨0, rfl, by omega, hid (Below.refl _ _)⟩
  case round =>
    obtain ⟨k, rfl, hk, hb⟩ := hrel
    by_cases hlt : k < l.length
    · have hx : l[k]? = some l[k] := List.getElem?_eq_getElem hlt
      generalize l[k] = x at hx
      obtain ⟨b1, o1, rfl, hb1, h1⟩ := hA.out k _ hx
      obtain ⟨b2, o2, rfl, hb2, h2⟩ := hB.out k _ hx
      obtain ⟨c0, -⟩ := EStr.stable _ _ _ _ _ hb.out hb1 h1
      obtain ⟨d0, -⟩ := EStr.stable _ _ _ _ _ hb.out hb2 h2
      rw [Nat.mul_one] at c0 d0
      clear hx h1 h2
      have hnk : (0 : Int) ≤ (k : Int) := by omega
      have hnl : (k : Int) < (l.length : Int) := by omega
      go_wp2_with fail
      go_quiet (fail)
      go_wp2_with fail
      go_roundw
      case rel => exact ⟨k + 1, by go_num, by omega, hid (below_drewN' hb.out _)⟩
      case measure => simp [intOf]; omega
    · go_wp2_with fail
      go_ret
      exact ⟨rfl, hb.out⟩

set_option maxRecDepth 100000 in
theorem law_sameTexts_yes (a b : Value) (w : World) (l : List ByteArray) (ha : RT w a l) (hb : RT w b l) :
    Calls Tryz.prog 8 #[a, b] w fun e w' => e = .returned (.bool true) ∧ Below w.heap.size w w' := by
  go_enter Tryz.func8, Tryz.ntmps8
  go_wp2_with fail
  ((with_reducible refine (slices_Equal_str _ _ _ _ ha hb).mono ?_); rintro e w1 ⟨rfl, h1⟩)
  go_wp2_with fail
  go_ret
  exact ⟨rfl, h1⟩
end Go.Proofs.YtpcnhldlfmdlhaaGreatDoor
