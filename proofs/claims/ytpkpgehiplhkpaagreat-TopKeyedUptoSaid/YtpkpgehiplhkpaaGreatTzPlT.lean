import Derived.Test.YtpkpgehiplhkpaaGreatTzPlK
import Derived.Test.YtpkpgehiplhkpaaGreatTzActK
import Derived.Test.YtpkpgehiplhkpaaGreatTzWkB
namespace Go.Proofs.YtpkpgehiplhkpaaGreat
open Go.RowKit
def cmdS (k : Nat) : ByteArray := ⟨#[109, 97, 107, 101]⟩ ++ bstr [UInt8.ofNat (97 + k)]
def nmS (i : Nat) : ByteArray := ⟨#[105]⟩ ++ bstr [UInt8.ofNat (97 + i)]
def inPart (i : Nat) (x : RawT) : Part := ⟨nmS i, digS x.text.data.toList, pick x.a 301⟩
def insK (l : List RawT) (k : Nat) : List Part := (List.range (min k 4)).filterMap fun i => (l[i]?).map (inPart i)
theorem insK_next {l : List RawT} {k : Nat} {x : RawT} (hx : l[k]? = some x) (h : k < 4) : insK l (k + 1) = insK l k ++ [inPart k x] := by
 unfold insK
 rw [show min (k + 1) 4 = min k 4 + 1 by omega, List.range_succ, List.filterMap_append, show min k 4 = k by omega]
 simp [hx]
theorem insK_stop {l : List RawT} {k : Nat} (h : ¬ k < 4) : insK l (k + 1) = insK l k := by
 unfold insK
 rw [show min (k + 1) 4 = min k 4 by omega]
theorem insK_len (l : List RawT) (k : Nat) : (insK l k).length ≤ 4 := by
 have h := List.length_filterMap_le (fun i => (l[i]?).map (inPart i)) (List.range (min k 4))
 rw [List.length_range] at h
 unfold insK
 omega
theorem nm_ok : ∀ i, i < 4 → nameFault (nmS i) = 0 ∧ (nmS i).size = 2 := by
 have key : ∀ i : Fin 4, textFault 33 12 (nmS i.val) = 0 ∧ (nmS i.val).size = 2 := by
  intro i
  unfold textFault
  have h1 : ∀ i : Fin 4, ¬ ((nmS i.val).size < 1 ∨ 12 < (nmS i.val).size) := by decide +kernel
  have h2 : ∀ i : Fin 4, AllIn 33 (nmS i.val) := by unfold AllIn; decide +kernel
  have h3 : ∀ i : Fin 4, (nmS i.val).size = 2 := by decide +kernel
  rw [if_neg (h1 i), if_pos (h2 i)]
  exact ⟨rfl, h3 i⟩
 exact fun i h => key ⟨i, h⟩
theorem cmd_ok : ∀ k, k < 26 → textFault 32 60 (cmdS k) = 0 ∧ (cmdS k).size = 5 := by
 have key : ∀ i : Fin 26, textFault 32 60 (cmdS i.val) = 0 ∧ (cmdS i.val).size = 5 := by
  intro i
  unfold textFault
  have h1 : ∀ i : Fin 26, ¬ ((cmdS i.val).size < 1 ∨ 60 < (cmdS i.val).size) := by decide +kernel
  have h2 : ∀ i : Fin 26, AllIn 32 (cmdS i.val) := by unfold AllIn; decide +kernel
  have h3 : ∀ i : Fin 26, (cmdS i.val).size = 5 := by decide +kernel
  rw [if_neg (h1 i), if_pos (h2 i)]
  exact ⟨rfl, h3 i⟩
 exact fun i h => key ⟨i, h⟩
theorem nm_next : ∀ i, i < 3 → slt (nmS i) (nmS (i + 1)) = true := by
 have key : ∀ i : Fin 3, Op.bytesLess (nmS i.val).data.toList (nmS (i.val + 1)).data.toList = true := by decide +kernel
 intro i h
 unfold slt
 rw [toList_data, toList_data]
 exact key ⟨i, h⟩
theorem in_ok (x : RawT) (i : Nat) (hi : i < 4) (p : Option Part) (hp : notAfter (p.map (·.name)) (nmS i) = false) : partFault p (inPart i x) = 0 := by
 have h1 := (nm_ok i hi).1
 have h2 := digS_hex x.text.data.toList
 have h3 := pick_range x.a 301 (by decide)
 have h4 : sizeBad (pick x.a 301) = false := by
  unfold sizeBad
  rw [decide_eq_false (by omega), decide_eq_false (by omega)]
  rfl
 unfold partFault inPart
 simp [h1, hp, h2, h4]
theorem after_next (x : RawT) (i : Nat) (hi : i < 3) : notAfter ((some (inPart i x)).map (·.name)) (nmS (i + 1)) = false := by
 have h := nm_next i hi
 unfold notAfter inPart
 simp [h]
theorem keyed_parts (l : List RawT) : partsFault (insK l l.length) = 0 := by
 unfold partsFault
 have hlen := insK_len l l.length
 rw [if_neg (by omega)]
 have n0 := fun x => in_ok x 0 (by decide) none rfl
 have n1 := fun x y => in_ok x 1 (by decide) (some (inPart 0 y)) (after_next y 0 (by decide))
 have n2 := fun x y => in_ok x 2 (by decide) (some (inPart 1 y)) (after_next y 1 (by decide))
 have n3 := fun x y => in_ok x 3 (by decide) (some (inPart 2 y)) (after_next y 2 (by decide))
 match l with
 | [] => rfl
 | [a] =>
   have e : insK [a] 1 = [inPart 0 a] := rfl
   show faultFrom partFault none (insK [a] 1) = 0
   rw [e]
   simp only [faultFrom, n0, if_true]
 | [a, b] =>
   have e : insK [a, b] 2 = [inPart 0 a, inPart 1 b] := rfl
   show faultFrom partFault none (insK [a, b] 2) = 0
   rw [e]
   simp only [faultFrom, n0, n1, if_true]
 | [a, b, c] =>
   have e : insK [a, b, c] 3 = [inPart 0 a, inPart 1 b, inPart 2 c] := rfl
   show faultFrom partFault none (insK [a, b, c] 3) = 0
   rw [e]
   simp only [faultFrom, n0, n1, n2, if_true]
 | a :: b :: c :: d :: l =>
   have e : insK (a :: b :: c :: d :: l) (a :: b :: c :: d :: l).length = [inPart 0 a, inPart 1 b, inPart 2 c, inPart 3 d] := by
    unfold insK
    rw [show min (a :: b :: c :: d :: l).length 4 = 4 by simp only [List.length_cons]; omega]
    rfl
   rw [e]
   simp only [faultFrom, n0, n1, n2, n3, if_true]
theorem keyed_act (l : List RawT) (k : Nat) (hk : k < 26) : actFault (cmdS k) (insK l l.length) = 0 ∧ decAct (actRes (cmdS k) (insK l l.length)) = (cmdS k, insK l l.length, 0) ∧ ∃ K, hexFault K = 0 ∧ K.size = 64 ∧
 keyStr 0 (sumStr (actRes (cmdS k) (insK l l.length))) = K ∧ keyErr 0 (padErr (actRes (cmdS k) (insK l l.length))) = 0 := by
 have h1 := (cmd_ok k hk).1
 have h2 := (cmd_ok k hk).2
 have h3 := keyed_parts l
 have hf : actFault (cmdS k) (insK l l.length) = 0 := by unfold actFault; rw [if_pos h1, h3]
 refine ⟨hf, act_back _ _ hf, digS (actRes (cmdS k) (insK l l.length)), digS_hex _, digS_size _, ?_, ?_⟩
 all_goals
  have hlen : (actRes (cmdS k) (insK l l.length)).length ≤ 2000 := by
   unfold actRes
   rw [if_pos hf]
   have := encParts_len h3
   have := textBytes_len (cmdS k) (by omega)
   unfold actBytes
   rw [List.length_append, List.length_append]
   simp
   omega
 · unfold keyStr
   rw [if_pos rfl]
   exact sum_dig _ hlen
 unfold keyErr padErr
 rw [if_pos rfl, if_neg (by omega)]
theorem keyed_fits (l : List RawT) : ∀ x ∈ insK l l.length, x.name.size ≤ 140737488351232 ∧ x.digest.size ≤ 140737488351232 ∧ (Lit.int .i64 x.size).wf = true := by
 intro x hx
 obtain ⟨h1, h2, h3, h4⟩ := (partsFault_zero (keyed_parts l)).2 x hx
 have h5 := (textFault_zero h1).2.1
 have h6 := (hexFault_zero h2).1
 refine ⟨by omega, by omega, ?_⟩
 simp [Lit.wf, IntKind.min, IntKind.max, IntKind.signed, IntKind.bits]
 omega
end Go.Proofs.YtpkpgehiplhkpaaGreat
