/-
  sha.Sum and the reference's ShaSum: what each answers; the law ShaSums: its walk.
-/
import Derived.Test.YtojebioolflbkaaCmp
import Derived.Test.YtojebioolflbkaaHx
import Derived.Test.YtojebioolflbkaaWrd
namespace Go.Proofs.Ytojebioolflbkaa
open Go.RowKit

def sumRest : Nat → List UInt32 → List UInt32 → List UInt32
  | 0, _, h => h
  | n + 1, ws, h => sumRest n (ws.drop 16) (compress h (ws.take 16))
/-- What is reckoned so far comes out as all. -/
def SumInv (R ws h : List UInt32) : Prop := R = sumRest (ws.length / 16) ws h ∧ ws.length % 16 = 0 ∧ h.length = 8
theorem sum_next {R ws h : List UInt32} (hi : SumInv R ws h) (hn : 0 < ws.length) : SumInv R (ws.drop 16) (stepOut h (ws.take 16)) ∧ 16 ≤ ws.length ∧ (ws.take 16).length = 16 ∧ h.length = 8 ∧ stepOut h (ws.take 16) = compress h (ws.take 16) := by
  obtain ⟨h1, h2, h3⟩ := hi
  have h16 : 16 ≤ ws.length := by omega
  have ht : (ws.take 16).length = 16 := by rw [List.length_take]; omega
  have ho : stepOut h (ws.take 16) = compress h (ws.take 16) := by unfold stepOut; rw [if_pos ⟨h3, ht⟩]
  refine ⟨⟨?_, by rw [List.length_drop]; omega, by rw [ho]; exact compress_len _ _ h3⟩, h16, ht, h3, ho⟩
  obtain ⟨q, hq⟩ : ∃ q, ws.length / 16 = q + 1 := ⟨ws.length / 16 - 1, by omega⟩
  rw [h1, hq, sumRest, List.length_drop, show (ws.length - 16) / 16 = q by omega, ho]
theorem sum_end {R ws h : List UInt32} (hi : SumInv R ws h) (hn : ws.length = 0) : R = h := by
  obtain ⟨h1, _, _⟩ := hi
  rw [h1, hn]; rfl
theorem sum_hlen {R ws h : List UInt32} (hi : SumInv R ws h) : h.length = 8 := hi.2.2
/-- The eight words of the digest of bytes. -/
def hashW (l : List UInt8) : List UInt32 := sumRest ((wordsDec (padRes l) ((padRes l).length / 4)).length / 16) (wordsDec (padRes l) ((padRes l).length / 4)) startW
/-- The digest of bytes, as a text. -/
def sumStr (l : List UInt8) : ByteArray := if 2000 < l.length then ⟨#[]⟩ else bstr (hexOf (bytesW (hashW l)))
theorem hash_inv (l : List UInt8) : SumInv (hashW l) (wordsDec (padRes l) ((padRes l).length / 4)) startW := by
  refine ⟨rfl, ?_, rfl⟩
  rw [wordsDec_len, padRes_len]
  have := padZ_spec l.length
  omega

theorem rw_cut {w : World} {b off c : Nat} {l : List UInt32} (h : RW w (.slice (some ⟨b, off, none⟩) l.length c) l) (m k n c' : Nat) (hm : m + k ≤ l.length) (hn : n = k) (hk : k ≤ c') (hc : c' ≤ maxLen) : RW w (.slice (some ⟨b, off + m, none⟩) n c') ((l.drop m).take k) := by
  subst hn
  obtain ⟨a0, c0, hv, -, -, hr, -, hat⟩ := h
  simp only [Value.slice.injEq] at hv
  obtain ⟨rfl, -, -⟩ := hv
  have hlen : ((l.drop m).take n).length = n := by rw [List.length_take, List.length_drop]; omega
  refine ⟨_, c', by rw [hlen], by omega, hc, by rw [hlen]; omega, (fun h => by simp at h), fun j x hj => ?_⟩
  have hjn : j < n := by have := (List.getElem?_eq_some_iff.1 hj).1; omega
  rw [List.getElem?_take, if_pos hjn, List.getElem?_drop] at hj
  obtain ⟨b1, o1, hb1, hlt, he⟩ := hat (m + j) x hj
  simp only [Option.some.injEq, Addr.mk.injEq, and_true] at hb1
  obtain ⟨rfl, rfl⟩ := hb1
  exact ⟨b, off + m, rfl, hlt, by rw [show off + m + j * 1 = off + (m + j) * 1 by omega]; exact he⟩

end Go.Proofs.Ytojebioolflbkaa
