/-
  action.Check and the reference's ActionFault: what each answers.
-/
import Derived.Test.YtoeolhlmngnjnaaMnf
namespace Go.Proofs.Ytoeolhlmngnjnaa
open Go.RowKit

/-- What is wrong with an action: its command's fault, then its inputs'. -/
def actFault (s : ByteArray) (l : List Part) : Int := if textFault 32 60 s = 0 then partsFault l else textFault 32 60 s
theorem actFault_no {s : ByteArray} {l : List Part} (h : textFault 32 60 s ≠ 0) : actFault s l = textFault 32 60 s := by unfold actFault; rw [if_neg h]
theorem actFault_yes {s : ByteArray} {l : List Part} (h : textFault 32 60 s = 0) : actFault s l = partsFault l := by unfold actFault; rw [if_pos h]
theorem actFault_val {s : ByteArray} {l : List Part} {n : Int} (h : textFault 32 60 s = n) (hn : n ≠ 0) : actFault s l = n := by rw [actFault_no (by rw [h]; exact hn), h]

set_option maxRecDepth 100000 in
set_option maxHeartbeats 400000 in
theorem action_Check (s : ByteArray) (v : Value) (l : List Part) (w : World) (hs : s.size ≤ 140737488351232) (h : RP w v l) :
    Calls Try.prog 5 #[.agg #[.string s, v]] w fun e w' => e = .returned (.int .i64 (actFault s l)) ∧ Below w.heap.size w w' := by
  have hP := hid h
  obtain ⟨a, c, rfl, -⟩ := h
  by_cases h1 : s.size < 1 ∨ 60 < s.size
  · have hr := hid (actFault_val (l := l) (textFault_size (lo := 32) h1) (by decide))
    rcases h1 with h1 | h1
    · have q1 : decide ((s.size : Int) < 1) = true := by simp; omega
      go_enter Try.func5, Try.ntmps5
      go_wp2_with fail
      go_ret
      exact ⟨ret_i hr.out.symm, b_alloc (Below.refl _ _) _⟩
    · have q1 : decide ((s.size : Int) < 1) = false := by simp; omega
      have q2 : decide (60 < (s.size : Int)) = true := by simp; omega
      go_enter Try.func5, Try.ntmps5
      go_wp2_with fail
      go_ret
      exact ⟨ret_i hr.out.symm, b_alloc (Below.refl _ _) _⟩
  · have hr3 := hid (fun k hk hn => actFault_val (l := l) (textFault_no (lo := 32) h1 k hk hn) (by decide))
    have hr0 := hid (fun ha => actFault_yes (l := l) (textFault_yes (lo := 32) h1 ha))
    have hlo : 1 ≤ s.size := by omega
    have hhi : s.size ≤ 60 := by omega
    clear h1
    have q1 : decide ((s.size : Int) < 1) = false := by simp; omega
    have q2 : decide (60 < (s.size : Int)) = false := by simp; omega
    go_enter Try.func5, Try.ntmps5
    go_wp2_with fail
    go_loopw [3, 17] (fun _ i wr => ∃ k : Nat, i = .int .i64 (k : Int) ∧ k ≤ s.size ∧ wr = w.alloc (Obj.cells #[.string s, .slice a l.length c] 24) ∧ Hid (∀ j (hj : j < s.size), j < k → 32 ≤ s[j].toNat ∧ s[j].toNat ≤ 126)) (fun _ i _ => s.size - (intOf i).toNat)
    case atStart => exact ⟨0, rfl, by omega, rfl, hid (fun j _ hj => by omega)⟩
    case round =>
      obtain ⟨k, rfl, hk, rfl, hall⟩ := hrel
      by_cases hlt : k < s.size
      · by_cases g1 : 32 ≤ s[k].toNat
        · have d1 : decide ((s[k].toNat : Int) < 32) = false := by simp; omega
          by_cases g2 : s[k].toNat ≤ 126
          · have hn := hid (upto_next (P := fun c => 32 ≤ c.toNat ∧ c.toNat ≤ 126) hall.out hlt ⟨g1, g2⟩)
            have d2 : decide (126 < (s[k].toNat : Int)) = false := by simp; omega
            go_wp2_with fail
            go_roundw
            case rel => exact ⟨k + 1, by go_num, by omega, trivial, hn⟩
            case measure => simp [intOf]; omega
          · have hr := hid (hr3.out k hlt (fun g => g2 g.2))
            have d2 : decide (126 < (s[k].toNat : Int)) = true := by simp; omega
            go_wp2_with fail
            go_ret
            exact ⟨ret_i hr.out.symm, b_alloc (Below.refl _ _) _⟩
        · have hr := hid (hr3.out k hlt (fun g => g1 g.1))
          have d1 : decide ((s[k].toNat : Int) < 32) = true := by simp; omega
          go_wp2_with fail
          go_ret
          exact ⟨ret_i hr.out.symm, b_alloc (Below.refl _ _) _⟩
      · obtain rfl : k = s.size := by omega
        have hz := hid (hr0.out hall.out)
        clear hall
        go_wp2_with fail
        ((with_reducible refine (manifest_Check _ l _ (hP.out.mono EPart.stable (b_alloc (Below.refl _ _) _))).mono ?_); rintro e w1 ⟨rfl, b1⟩)
        go_wp2_with fail
        go_ret
        exact ⟨ret_i hz.out.symm, b_call (b_alloc (Below.refl _ _) _) b1⟩

set_option maxRecDepth 100000 in
set_option maxHeartbeats 400000 in
theorem ref_ActionFault (s : ByteArray) (v : Value) (l : List Part) (w : World) (hs : s.size ≤ 140737488351232) (h : RP w v l) :
    Calls Try.prog 7 #[.agg #[.string s, v]] w fun e w' => e = .returned (.int .i64 (actFault s l)) ∧ Below w.heap.size w w' := by
  have hP := hid h
  obtain ⟨a, c, rfl, -⟩ := h
  by_cases h1 : s.size < 1 ∨ 60 < s.size
  · have hr := hid (actFault_val (l := l) (textFault_size (lo := 32) h1) (by decide))
    rcases h1 with h1 | h1
    · obtain rfl := empty_of (show s.size = 0 by omega)
      go_enter Try.func7, Try.ntmps7
      go_wp2_with fail
      go_ret
      exact ⟨ret_i hr.out.symm, b_alloc (Below.refl _ _) _⟩
    · have q1 := nonempty_of (show 1 ≤ s.size by omega)
      have q2 : decide (60 < (s.size : Int)) = true := by simp; omega
      go_enter Try.func7, Try.ntmps7
      go_wp2_with fail
      go_ret
      exact ⟨ret_i hr.out.symm, b_alloc (Below.refl _ _) _⟩
  · have hr3 := hid (fun k hk hn => actFault_val (l := l) (textFault_no (lo := 32) h1 k hk hn) (by decide))
    have hr0 := hid (fun ha => actFault_yes (l := l) (textFault_yes (lo := 32) h1 ha))
    have hlo : 1 ≤ s.size := by omega
    have hhi : s.size ≤ 60 := by omega
    clear h1
    have q1 := nonempty_of hlo
    have q2 : decide (60 < (s.size : Int)) = false := by simp; omega
    obtain ⟨w0, hw0⟩ : ∃ w0 : World, w0 = w.alloc (Obj.cells #[.string s, .slice a l.length c] 24) := ⟨_, rfl⟩
    have hbw0 : Below w.heap.size w w0 := by rw [hw0]; exact b_alloc (Below.refl _ _) _
    have hcv := Lib.run_convert_string_bytes (P := Try.prog) w0 9 27 5 s Try.underlying9 Try.underlying27 Try.underlying5
    have hrd := conv_reads w0 5 s (by omega)
    have hbl := conv_below w0 5 s
    have hlt1 : w0.heap.size < (Lib.bytesWorld w0 5 s).heap.size := by rw [Lib.bytesWorld_size]; omega
    generalize Lib.bytesWorld w0 5 s = w1 at hcv hrd hbl hlt1
    generalize grownCap w0 s.size 0 5 = c1 at hcv hrd
    have hat := conv_at hrd
    have hsz0 : w0.heap.size = w.heap.size + 1 := by rw [hw0]; simp
    rw [hsz0] at hcv hat
    replace hat := hid hat
    have hb1 := hid (b_call hbw0 hbl)
    have hbx : w0.heap[w.heap.size]? = some (.cells #[.string s, .slice a l.length c] 24 (0, 0)) := by rw [hw0]; exact heap_alloc_new w _
    have hbx1 := (hbl.block w.heap.size (Array.getElem?_eq_some_iff.1 hbx).1).trans hbx
    have x1 : w1.cell? ⟨w.heap.size, 1, none⟩ = some (.slice a l.length c) := by rw [Lib.cell_of_heap hbx1]; rfl
    clear hrd hbl hbx hbx1 hbw0 hsz0
    subst hw0
    go_enter Try.func7, Try.ntmps7
    go_wp2_with fail
    go_loopw [4, 18] (fun _ i wr => ∃ k : Nat, i = .int .i64 (k : Int) ∧ k ≤ s.size ∧ wr = w1 ∧ Hid (∀ j (hj : j < s.size), j < k → 32 ≤ s[j].toNat ∧ s[j].toNat ≤ 126)) (fun _ i _ => s.size - (intOf i).toNat)
    case atStart => exact ⟨0, rfl, by omega, rfl, hid (fun j _ hj => by omega)⟩
    case round =>
      obtain ⟨k, rfl, hk, rfl, hall⟩ := hrel
      by_cases hlt : k < s.size
      · have hcell := hat.out k hlt
        unfold EU8 at hcell
        by_cases g1 : 32 ≤ s[k].toNat
        · have d1 : decide ((s[k].toNat : Int) < 32) = false := by simp; omega
          by_cases g2 : s[k].toNat ≤ 126
          · have hn := hid (upto_next (P := fun c => 32 ≤ c.toNat ∧ c.toNat ≤ 126) hall.out hlt ⟨g1, g2⟩)
            have d2 : decide (126 < (s[k].toNat : Int)) = false := by simp; omega
            go_wp2_with fail
            go_roundw
            case rel => exact ⟨k + 1, by go_num, by omega, trivial, hn⟩
            case measure => simp [intOf]; omega
          · have hr := hid (hr3.out k hlt (fun g => g2 g.2))
            have d2 : decide (126 < (s[k].toNat : Int)) = true := by simp; omega
            go_wp2_with fail
            go_ret
            exact ⟨ret_i hr.out.symm, hb1.out⟩
        · have hr := hid (hr3.out k hlt (fun g => g1 g.1))
          have d1 : decide ((s[k].toNat : Int) < 32) = true := by simp; omega
          go_wp2_with fail
          go_ret
          exact ⟨ret_i hr.out.symm, hb1.out⟩
      · obtain rfl : k = s.size := by omega
        have hz := hid (hr0.out hall.out)
        clear hall
        go_wp2_with fail
        ((with_reducible refine (ref_PartsFault _ l _ (hP.out.mono EPart.stable hb1.out)).mono ?_); rintro e w2 ⟨rfl, b2⟩)
        go_wp2_with fail
        go_ret
        exact ⟨ret_i hz.out.symm, b_call hb1.out b2⟩
end Go.Proofs.Ytoeolhlmngnjnaa
