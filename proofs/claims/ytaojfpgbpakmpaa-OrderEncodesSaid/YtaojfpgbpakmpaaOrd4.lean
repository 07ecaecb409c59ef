/-
  The reference's with: what it answers.
-/
import Derived.Test.YtaojfpgbpakmpaaOrd3
namespace Go.Proofs.Ytaojfpgbpakmpaa
open Go.RowKit

theorem byte_ne {a b : UInt8} (h : a ≠ b) : ((a.toNat : Int) == (b.toNat : Int)) = false := by
  simp only [beq_eq_false_iff_ne, ne_eq]
  intro e
  exact h (UInt8.toNat.inj (by omega))

set_option maxRecDepth 100000 in
set_option maxHeartbeats 400000 in
theorem ref_with (k : Int) (c : UInt8) (w : World) :
    Calls Try.prog 114 #[.int .i64 k, .int .u8 (c.toNat : Int)] w fun e w' => e = .returned (.bool (withB k c)) ∧ Below w.heap.size w w' := by
  have hs5 := hasS_size k
  have hyes := hid (fun j (hj : j < (hasS k).size) (he : (hasS k)[j] = c) => show withB k c = true from decide_eq_true ⟨j, hj, he⟩)
  have hno := hid (fun (hall : ∀ j (hj : j < (hasS k).size), (hasS k)[j] ≠ c) => show withB k c = false from decide_eq_false (fun ⟨j, hj, he⟩ => hall j hj he))
  have hh := hid fun w => ref_has k w
  generalize hasS k = s at *
  generalize withB k c = r at *
  go_enter Try.func114, Try.ntmps114
  go_wp2_with fail
  ((with_reducible refine (hh.out _).mono ?_); rintro e w1 ⟨rfl, b1⟩)
  have hcv := Lib.run_convert_string_bytes (P := Try.prog) w1 9 38 5 s Try.underlying9 Try.underlying38 Try.underlying5
  have hrd := conv_reads w1 5 s (by omega)
  have hbl := hid (b_call b1 (conv_below w1 5 s))
  have hat := conv_at hrd
  replace hat := hid hat
  clear hrd b1
  generalize Lib.bytesWorld w1 5 s = w2 at *
  generalize grownCap w1 s.size 0 5 = c1 at *
  generalize w1.heap.size = b1 at *
  go_wp2_with fail
  go_loopw [6, 11] (fun _ i wr => ∃ m : Nat, i = .int .i64 (m : Int) ∧ m ≤ s.size ∧ wr = w2 ∧ Hid (∀ j (hj : j < s.size), j < m → s[j] ≠ c)) (fun _ i _ => s.size - (intOf i).toNat)
  case atStart => exact ⟨0, rfl, by omega, rfl, hid (fun j _ hj => by omega)⟩
  case round =>
    obtain ⟨m, rfl, hm, rfl, hall⟩ := hrel
    by_cases hlt : m < s.size
    · have hcell := hat.out m hlt
      unfold EU8 at hcell
      by_cases g : s[m] = c
      · have hr := hid (hyes.out m hlt g)
        have d1 : ((s[m].toNat : Int) == (c.toNat : Int)) = true := by rw [g]; simp
        clear g
        go_wp2_with fail
        go_ret
        exact ⟨by rw [hr.out]; rfl, hbl.out⟩
      · have d1 := byte_ne g
        have hn := hid (upto_next (P := fun x => x ≠ c) hall.out hlt g)
        clear g
        go_wp2_with fail
        go_roundw
        case rel => exact ⟨m + 1, by go_num, by omega, trivial, hn⟩
        case measure => simp [intOf]; omega
    · obtain rfl : m = s.size := by omega
      have hr := hid (hno.out (fun j hj => hall.out j hj hj))
      clear hall
      go_wp2_with fail
      go_ret
      exact ⟨by rw [hr.out]; rfl, hbl.out⟩
end Go.Proofs.Ytaojfpgbpakmpaa
