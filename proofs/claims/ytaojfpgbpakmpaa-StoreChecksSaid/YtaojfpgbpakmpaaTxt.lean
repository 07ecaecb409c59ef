/-
  manifest.Name and the reference's NameFault: what each answers. The words for texts of printable signs.
-/
import Derived.Test.YtaojfpgbpakmpaaHexB
namespace Go.Proofs.Ytaojfpgbpakmpaa
open Go.RowKit

/-- Every sign of the text is from lo to 126. -/
def AllIn (lo : Nat) (s : ByteArray) : Prop := ∀ k (h : k < s.size), lo ≤ s[k].toNat ∧ s[k].toNat ≤ 126
instance (lo : Nat) (s : ByteArray) : Decidable (AllIn lo s) := Nat.decidableBallLT s.size (fun k h => lo ≤ s[k].toNat ∧ s[k].toNat ≤ 126)
def textFault (lo mx : Nat) (s : ByteArray) : Int := if s.size < 1 ∨ mx < s.size then 1 else if AllIn lo s then 0 else 3
theorem textFault_size {lo mx : Nat} {s : ByteArray} (h : s.size < 1 ∨ mx < s.size) : textFault lo mx s = 1 := by unfold textFault; rw [if_pos h]
theorem textFault_no {lo mx : Nat} {s : ByteArray} (h : ¬ (s.size < 1 ∨ mx < s.size)) (k : Nat) (hk : k < s.size) (hn : ¬ (lo ≤ s[k].toNat ∧ s[k].toNat ≤ 126)) : textFault lo mx s = 3 := by
  unfold textFault; rw [if_neg h, if_neg (fun ha => hn (ha k hk))]
theorem textFault_yes {lo mx : Nat} {s : ByteArray} (h : ¬ (s.size < 1 ∨ mx < s.size)) (ha : ∀ j (hj : j < s.size), j < s.size → lo ≤ s[j].toNat ∧ s[j].toNat ≤ 126) : textFault lo mx s = 0 := by
  have hA : AllIn lo s := fun k hk => ha k hk hk
  unfold textFault; rw [if_neg h, if_pos hA]
theorem textFault_zero {lo mx : Nat} {s : ByteArray} (h : textFault lo mx s = 0) : 1 ≤ s.size ∧ s.size ≤ mx ∧ AllIn lo s := by
  unfold textFault at h
  split at h
  · cases h
  · split at h
    · exact ⟨by omega, by omega, by assumption⟩
    · cases h
def nameFault (s : ByteArray) : Int := textFault 33 12 s

theorem upto_next {s : ByteArray} {P : UInt8 → Prop} {m : Nat} (h : ∀ j (hj : j < s.size), j < m → P s[j]) (hm : m < s.size) (hp : P s[m]) : ∀ j (hj : j < s.size), j < m + 1 → P s[j] := fun j hj hjm => by
  by_cases e : j = m
  · subst e; exact hp
  · exact h j hj (by omega)

set_option maxRecDepth 100000 in
set_option maxHeartbeats 400000 in
theorem manifest_Name (s : ByteArray) (w : World) (hs : s.size ≤ 140737488351232) :
    Calls Try.prog 176 #[.string s] w fun e w' => e = .returned (.int .i64 (nameFault s)) ∧ w = w' := by
  by_cases h1 : s.size < 1 ∨ 12 < s.size
  · have hr := hid (show nameFault s = 1 from textFault_size h1)
    rcases h1 with h1 | h1
    · have q1 : decide ((s.size : Int) < 1) = true := by simp; omega
      go_enter Try.func176, Try.ntmps176
      go_wp2_with fail
      go_ret
      exact ⟨ret_i hr.out.symm, rfl⟩
    · have q1 : decide ((s.size : Int) < 1) = false := by simp; omega
      have q2 : decide (12 < (s.size : Int)) = true := by simp; omega
      go_enter Try.func176, Try.ntmps176
      go_wp2_with fail
      go_ret
      exact ⟨ret_i hr.out.symm, rfl⟩
  · have hr3 := hid (fun k hk hn => (textFault_no (lo := 33) h1 k hk hn : nameFault s = 3))
    have hr0 := hid (fun ha => (textFault_yes (lo := 33) h1 ha : nameFault s = 0))
    have hlo : 1 ≤ s.size := by omega
    have hhi : s.size ≤ 12 := by omega
    clear h1
    have q1 : decide ((s.size : Int) < 1) = false := by simp; omega
    have q2 : decide (12 < (s.size : Int)) = false := by simp; omega
    go_enter Try.func176, Try.ntmps176
    go_wp2_with fail
    go_loop [3, 14] (fun _ i => ∃ k : Nat, i = .int .i64 (k : Int) ∧ k ≤ s.size ∧ Hid (∀ j (hj : j < s.size), j < k → 33 ≤ s[j].toNat ∧ s[j].toNat ≤ 126)) (fun _ i => s.size - (intOf i).toNat)
    case atStart => exact ⟨0, rfl, by omega, hid (fun j _ hj => by omega)⟩
    case round =>
      obtain ⟨k, rfl, hk, hall⟩ := hrel
      by_cases hlt : k < s.size
      · by_cases g1 : 33 ≤ s[k].toNat
        · have d1 : decide ((s[k].toNat : Int) ≤ 32) = false := by simp; omega
          by_cases g2 : s[k].toNat ≤ 126
          · have hn := hid (upto_next (P := fun c => 33 ≤ c.toNat ∧ c.toNat ≤ 126) hall.out hlt ⟨g1, g2⟩)
            have d2 : decide (126 < (s[k].toNat : Int)) = false := by simp; omega
            go_wp2_with fail
            go_round
            case rel => exact ⟨k + 1, by go_num, by omega, hn⟩
            case measure => simp [intOf]; omega
          · have hr := hid (hr3.out k hlt (fun g => g2 g.2))
            go_wp2_with fail
            go_ret
            exact ⟨ret_i hr.out.symm, rfl⟩
        · have hr := hid (hr3.out k hlt (fun g => g1 g.1))
          go_wp2_with fail
          go_ret
          exact ⟨ret_i hr.out.symm, rfl⟩
      · obtain rfl : k = s.size := by omega
        go_wp2_with fail
        go_ret
        exact ⟨ret_i (hr0.out hall.out).symm, rfl⟩

theorem conv_at {w w1 : World} {c : Nat} {s : ByteArray} (hrd : RB w1 (.slice (some ⟨w.heap.size, 0, none⟩) s.size c) s.data.toList) : ∀ k (hk : k < s.size), EU8 w1 w.heap.size k s[k] := fun k hk => by
  obtain ⟨a, c, hv, _, _, _, _, hh⟩ := hrd
  obtain ⟨b, off, hb, hlt, he⟩ := hh k _ (list_at s k hk)
  simp only [Value.slice.injEq] at hv
  rw [← hv.1] at hb
  simp only [Option.some.injEq, Addr.mk.injEq] at hb
  obtain ⟨rfl, rfl, _⟩ := hb
  rw [Nat.mul_one, Nat.zero_add] at he
  exact he

theorem empty_of {s : ByteArray} (h : s.size = 0) : s = ⟨#[]⟩ := by
  obtain ⟨⟨l⟩⟩ := s
  have : l = [] := List.eq_nil_of_length_eq_zero h
  subst this; rfl
theorem toList_size (s : ByteArray) : s.toList.length = s.size := by
  obtain ⟨⟨l⟩⟩ := s
  simp [ByteArray.size]
theorem nonempty_of {s : ByteArray} (h : 1 ≤ s.size) : s.toList.isEmpty = false := by
  have := toList_size s
  cases hl : s.toList with
  | nil => rw [hl] at this; simp at this; omega
  | cons _ _ => rfl

set_option maxRecDepth 100000 in
set_option maxHeartbeats 400000 in
theorem ref_NameFault (s : ByteArray) (w : World) (hs : s.size ≤ 140737488351232) :
    Calls Try.prog 179 #[.string s] w fun e w' => e = .returned (.int .i64 (nameFault s)) ∧ Below w.heap.size w w' := by
  by_cases h1 : s.size < 1 ∨ 12 < s.size
  · have hr := hid (show nameFault s = 1 from textFault_size h1)
    rcases h1 with h1 | h1
    · obtain rfl := empty_of (show s.size = 0 by omega)
      go_enter Try.func179, Try.ntmps179
      go_wp2_with fail
      go_ret
      exact ⟨ret_i hr.out.symm, Below.refl _ _⟩
    · have q1 := nonempty_of (show 1 ≤ s.size by omega)
      have q2 : decide (12 < (s.size : Int)) = true := by simp; omega
      go_enter Try.func179, Try.ntmps179
      go_wp2_with fail
      go_ret
      exact ⟨ret_i hr.out.symm, Below.refl _ _⟩
  · have hr3 := hid (fun k hk hn => (textFault_no (lo := 33) h1 k hk hn : nameFault s = 3))
    have hr0 := hid (fun ha => (textFault_yes (lo := 33) h1 ha : nameFault s = 0))
    have hlo : 1 ≤ s.size := by omega
    have hhi : s.size ≤ 12 := by omega
    clear h1
    have q1 := nonempty_of hlo
    have q2 : decide (12 < (s.size : Int)) = false := by simp; omega
    have hcv := Lib.run_convert_string_bytes (P := Try.prog) w 9 38 5 s Try.underlying9 Try.underlying38 Try.underlying5
    have hrd := conv_reads w 5 s (by omega)
    have hbl := conv_below w 5 s
    have hlt1 : w.heap.size < (Lib.bytesWorld w 5 s).heap.size := by rw [Lib.bytesWorld_size]; omega
    generalize Lib.bytesWorld w 5 s = w1 at hcv hrd hbl hlt1
    generalize grownCap w s.size 0 5 = c1 at hcv hrd
    have hat := conv_at hrd
    replace hat := hid hat
    clear hrd
    go_enter Try.func179, Try.ntmps179
    go_wp2_with fail
    go_loopw [4, 15] (fun _ i wr => ∃ k : Nat, i = .int .i64 (k : Int) ∧ k ≤ s.size ∧ wr = w1 ∧ Hid (∀ j (hj : j < s.size), j < k → 33 ≤ s[j].toNat ∧ s[j].toNat ≤ 126)) (fun _ i _ => s.size - (intOf i).toNat)
    case atStart => exact ⟨0, rfl, by omega, rfl, hid (fun j _ hj => by omega)⟩
    case round =>
      obtain ⟨k, rfl, hk, rfl, hall⟩ := hrel
      by_cases hlt : k < s.size
      · have hcell := hat.out k hlt
        unfold EU8 at hcell
        by_cases g1 : 33 ≤ s[k].toNat
        · have d1 : decide ((s[k].toNat : Int) < 33) = false := by simp; omega
          by_cases g2 : s[k].toNat ≤ 126
          · have hn := hid (upto_next (P := fun c => 33 ≤ c.toNat ∧ c.toNat ≤ 126) hall.out hlt ⟨g1, g2⟩)
            have d2 : decide (126 < (s[k].toNat : Int)) = false := by simp; omega
            go_wp2_with fail
            go_roundw
            case rel => exact ⟨k + 1, by go_num, by omega, trivial, hn⟩
            case measure => simp [intOf]; omega
          · have hr := hid (hr3.out k hlt (fun g => g2 g.2))
            go_wp2_with fail
            go_ret
            exact ⟨ret_i hr.out.symm, hbl⟩
        · have hr := hid (hr3.out k hlt (fun g => g1 g.1))
          go_wp2_with fail
          go_ret
          exact ⟨ret_i hr.out.symm, hbl⟩
      · obtain rfl : k = s.size := by omega
        go_wp2_with fail
        go_ret
        exact ⟨ret_i (hr0.out hall.out).symm, hbl⟩
end Go.Proofs.Ytaojfpgbpakmpaa
