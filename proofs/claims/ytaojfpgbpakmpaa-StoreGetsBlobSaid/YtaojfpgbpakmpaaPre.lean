/-
  bytes.Equal, bytes.HasPrefix, bytes.CutPrefix.
-/
import Derived.Test.YtaojfpgbpakmpaaWire2
namespace Go.Proofs.Ytaojfpgbpakmpaa
open Go.RowKit

theorem bstr_eq {a b : List UInt8} : ((bstr a).toList == (bstr b).toList) = decide (a = b) := by
  rw [Bool.eq_iff_iff]
  simp only [beq_iff_eq, decide_eq_true_eq]
  exact ⟨fun h => bstr_inj (toList_inj' h), fun h => by rw [h]⟩

set_option maxRecDepth 100000 in
set_option maxHeartbeats 400000 in
theorem bytes_Equal (u v : Value) (a b : List UInt8) (w : World) (hu : RB w u a) (hv : RB w v b) :
    Calls Try.prog 205 #[u, v] w fun e w' => e = .returned (.bool (decide (a = b))) ∧ w = w' := by
  have c1 := run_string_of 38 5 Try.underlying38 Try.underlying5 9 Try.underlying9 hu
  have c2 := run_string_of 38 5 Try.underlying38 Try.underlying5 9 Try.underlying9 hv
  rw [← bstr_eq]
  generalize bstr a = sa at *
  generalize bstr b = sb at *
  go_enter Try.func205, Try.ntmps205
  go_wp2_with fail
  go_ret
  exact ⟨rfl, rfl⟩

set_option maxRecDepth 100000 in
set_option maxHeartbeats 400000 in
theorem bytes_HasPrefix (u v : Value) (a b : List UInt8) (w : World) (hu : RB w u a) (hv : RB w v b) :
    Calls Try.prog 181 #[u, v] w fun e w' => e = .returned (.bool (decide (a.take b.length = b))) ∧ w = w' := by
  obtain ⟨a1, c1, rfl, h1, h2, h3, -⟩ := id hu
  obtain ⟨a2, c2, rfl, g1, g2, g3, -⟩ := id hv
  unfold maxLen at h2 g2
  by_cases hl : b.length ≤ a.length
  · have he := hid (bytes_Equal _ _ _ _ w (RS.upto hu b.length hl) hv)
    have q : decide (b.length ≤ a.length) = true := by simp [hl]
    have q2 : b.length ≤ c1 := by omega
    clear hu hv
    generalize decide (a.take b.length = b) = r at *
    go_enter Try.func181, Try.ntmps181
    go_wp2_with fail
    ((with_reducible refine he.out.mono ?_); rintro e w1 ⟨rfl, rfl⟩)
    go_wp2_with fail
    go_ret
    exact ⟨rfl, rfl⟩
  · have hr : decide (a.take b.length = b) = false := by
      simp only [decide_eq_false_iff_not]
      intro h
      have := congrArg List.length h
      rw [List.length_take] at this
      omega
    have q : decide (b.length ≤ a.length) = false := by simp; omega
    rw [hr]
    clear hr
    go_enter Try.func181, Try.ntmps181
    go_wp2_with fail
    go_ret
    exact ⟨rfl, rfl⟩

/-- What is behind a prefix, in the shape that the walk gives. -/
def behind (v : Value) (n : Nat) : Value :=
  match v with
  | .slice a l c => .slice (if c = n then a else a.map (·.add (n * 1))) (l - n) (c - n)
  | x => x
theorem behind_slice (a : Option Addr) (l c n : Nat) : behind (.slice a l c) n = .slice (if c = n then a else a.map (·.add (n * 1))) (l - n) (c - n) := rfl
set_option maxRecDepth 100000 in
set_option maxHeartbeats 400000 in
theorem bytes_CutPrefix_yes (u v : Value) (a b : List UInt8) (w : World) (hu : RB w u a) (hv : RB w v b) (h : a.take b.length = b) :
    Calls Try.prog 129 #[u, v] w fun e w' => e = .returned (.tuple #[behind u b.length, .bool true]) ∧ w = w' := by
  have hp := bytes_HasPrefix u v a b w hu hv
  rw [decide_eq_true h] at hp
  have hl : b.length ≤ a.length := by
    have := congrArg List.length h
    rw [List.length_take] at this
    omega
  replace hp := hid hp
  obtain ⟨a1, c1, rfl, h1, h2, h3, h4, -⟩ := id hu
  obtain ⟨a2, c2, rfl, g1, g2, g3, -⟩ := id hv
  unfold maxLen at h2 g2
  clear hu hv h
  have q3 : b.length ≤ c1 := by omega
  rw [behind_slice]
  cases a1 with
  | none =>
    have := h4 rfl
    subst this
    have h0 : a.length = 0 := by omega
    have h0b : b.length = 0 := by omega
    simp only [Option.map_none, ite_self]
    replace h4 := hid h4
    rw [h0, h0b] at hp ⊢
    replace h0 := hid h0
    replace h0b := hid h0b
    go_enter Try.func129, Try.ntmps129
    go_wp2_with fail
    ((with_reducible refine hp.out.mono ?_); rintro e w1 ⟨rfl, rfl⟩)
    go_wp2_with fail
    go_ret2
    exact ⟨rfl, rfl⟩
  | some ad =>
    obtain ⟨A, hA⟩ : ∃ A, (if c1 = b.length then some ad else some (ad.add (b.length * 1))) = A := ⟨_, rfl⟩
    have hA2 : (if c1 = b.length then some ad else Option.map (fun x => x.add (b.length * 1)) (some ad)) = A := hA
    rw [hA2]
    clear hA2
    rw [Nat.mul_one] at hA
    go_enter Try.func129, Try.ntmps129
    go_wp2_with fail
    ((with_reducible refine hp.out.mono ?_); rintro e w1 ⟨rfl, rfl⟩)
    go_wp2_with fail
    go_ret2
    exact ⟨rfl, rfl⟩
set_option maxRecDepth 100000 in
set_option maxHeartbeats 400000 in
theorem bytes_CutPrefix_no (u v : Value) (a b : List UInt8) (w : World) (hu : RB w u a) (hv : RB w v b) (h : a.take b.length ≠ b) :
    Calls Try.prog 129 #[u, v] w fun e w' => e = .returned (.tuple #[u, .bool false]) ∧ w = w' := by
  have hp := bytes_HasPrefix u v a b w hu hv
  rw [decide_eq_false h] at hp
  replace hp := hid hp
  obtain ⟨a1, c1, rfl, -⟩ := id hu
  obtain ⟨a2, c2, rfl, -⟩ := id hv
  clear hu hv h
  go_enter Try.func129, Try.ntmps129
  go_wp2_with fail
  ((with_reducible refine hp.out.mono ?_); rintro e w1 ⟨rfl, rfl⟩)
  go_wp2_with fail
  go_ret2
  exact ⟨rfl, rfl⟩
theorem behind_reads {w : World} {v : Value} {l : List UInt8} (h : RB w v l) (n : Nat) (hn : n ≤ l.length) : RB w (behind v n) (l.drop n) := by
  obtain ⟨a, c, rfl, -⟩ := id h
  exact RS.from h n hn
theorem behind_block {v : Value} {n k : Nat} (h : (behind v n).ownBlock = some k) : v.ownBlock = some k := by
  cases v with
  | slice a l c =>
    unfold behind at h
    cases a with
    | none => simp [Value.ownBlock] at h
    | some ad =>
      simp only [Option.map_some] at h
      split at h
      · exact h
      · simp only [Value.ownBlock, Option.some.injEq] at h ⊢
        rw [← h]
        unfold Addr.add
        split <;> rfl
  | _ => exact h
end Go.Proofs.Ytaojfpgbpakmpaa
