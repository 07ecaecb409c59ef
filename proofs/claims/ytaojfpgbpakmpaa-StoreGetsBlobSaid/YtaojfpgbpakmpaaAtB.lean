/-
  The reference's place of a key among Blobs; and what its Drop does.
-/
import Derived.Test.YtaojfpgbpakmpaaRcB
namespace Go.Proofs.Ytaojfpgbpakmpaa
open Go.RowKit

set_option maxRecDepth 100000 in
set_option maxHeartbeats 400000 in
theorem ref_BlobAt (v : Value) (l : List Blob) (s : ByteArray) (w : World) (h : RBl w v l) :
    Calls Try.prog 56 #[v, .string s] w fun e w' => e = .returned (.int .i64 (atKey (·.digest) s l : Nat)) ∧ w = w' := by
  obtain ⟨a, c, rfl, hlc, hcm, hre, hno, hat⟩ := h
  unfold maxLen at hcm
  replace hat := hid hat
  have hy := hid (fun k x hx hq ha => atKey_hit (f := fun x : Blob => x.digest) (s := s) (l := l) (k := k) (x := x) hx hq ha)
  have hn := hid (fun ha => atKey_miss (f := fun x : Blob => x.digest) (s := s) (l := l) ha)
  clear hno
  go_enter Try.func56, Try.ntmps56
  go_wp2_with fail
  go_loopw [5] (fun i wr => ∃ k : Nat, k ≤ l.length ∧ i = .int .i64 k ∧ Hid (∀ j y, j < k → l[j]? = some y → (y.digest.toList == s.toList) = false) ∧ wr = w) (fun i _ => l.length - (intOf i).toNat)
  case atStart => exact ⟨0, by omega, rfl, hid (fun j x hj => by omega), rfl⟩
  case round =>
    obtain ⟨k, hk, rfl, hall, rfl⟩ := hrel
    by_cases hlt : k < l.length
    · have hx : l[k]? = some l[k] := List.getElem?_eq_getElem hlt
      generalize l[k] = x at hx
      obtain ⟨bb, off, rfl, hbb, he⟩ := hat.out k _ hx
      obtain ⟨dv, c0, c1, c2, c3, rdv, okx⟩ := he
      have hy1 := hid (fun hq => hy.out k x hx hq hall.out)
      have hnx := hid (fun (hq : (x.digest.toList == s.toList) = false) => upto_next_l (q := fun y : Blob => y.digest.toList == s.toList) hall.out hx hq)
      clear hx rdv
      cases hq : (x.digest.toList == s.toList) with
      | true =>
        have hq2 : (x.digest.toList != s.toList) = false := by simp [bne, hq]
        have hr := hid (hy1.out hq)
        clear hall
        go_wp2_with fail
        go_ret
        exact ⟨ret_i (by rw [hr.out]), rfl⟩
      | false =>
        have hq2 : (x.digest.toList != s.toList) = true := by simp [bne, hq]
        have hr := hid (hnx.out hq)
        clear hall
        go_wp2_with fail
        go_roundw
        case rel => exact ⟨k + 1, by omega, by go_num, hr, trivial⟩
        case measure => simp [intOf]; omega
    · obtain rfl : k = l.length := by omega
      have hr := hid (hn.out (fun j x hj => hall.out j x (List.getElem?_eq_some_iff.1 hj).1 hj))
      clear hall
      go_wp2_with fail
      go_ret
      exact ⟨ret_i (by rw [hr.out]), rfl⟩
end Go.Proofs.Ytaojfpgbpakmpaa
