/-
  Texts sorted and made single are the texts rising. No function of the program is named here.
-/
import Derived.Test.YtojebioolflbkaaGreatRtL
import Derived.Lib.SlicesCompact
import Derived.Lib.RowBridge
namespace Go.Proofs.YtojebioolflbkaaGreat
open Go.RowKit Go.Maps Go.Lib

theorem rising_only {R R' : List ByteArray} (h : Rising id R) (h' : Rising id R') (hm : ∀ x, x ∈ R ↔ x ∈ R') : R = R' :=
  (rising_sortS h hm (rising_nodup h')).symm.trans (rising_sortS h' (fun _ => Iff.rfl) (rising_nodup h'))
theorem lt_of_le_ne {a b : List UInt8} (h : a ≤ b) (hn : a ≠ b) : a < b := by
  by_cases hl : a < b
  · exact hl
  · exact absurd (List.le_antisymm h (List.not_lt.1 hl)) hn
theorem compactUpTo_sorted (d : Array (List UInt8)) (hs : ∀ i j, i < j → j < d.size → d[i]! ≤ d[j]!) : ∀ m, m ≤ d.size → (compactUpTo d m).Pairwise (· < ·) ∧ (∀ x, x ∈ compactUpTo d m ↔ ∃ j, j < m ∧ d[j]! = x)
  | 0, _ => ⟨by simp [compactUpTo], fun x => by simp [compactUpTo]⟩
  | m + 1, h => by
    obtain ⟨h1, h2⟩ := compactUpTo_sorted d hs m (by omega)
    rw [compactUpTo_succ]
    by_cases hk : keeps d m = true
    · rw [if_pos hk]
      refine ⟨List.pairwise_append.2 ⟨h1, List.pairwise_singleton _ _, fun x hx y hy => ?_⟩, fun x => ?_⟩
      · rw [List.mem_singleton] at hy
        subst hy
        obtain ⟨j, hj, rfl⟩ := (h2 x).1 hx
        have hne : d[m - 1]! ≠ d[m]! := by
          unfold keeps at hk
          rw [decide_eq_true_eq] at hk
          rcases hk with h0 | h0
          · omega
          · exact fun e => h0 e.symm
        have h4 : d[m - 1]! < d[m]! := lt_of_le_ne (hs _ _ (by omega) (by omega)) hne
        by_cases e : j = m - 1
        · rw [e]; exact h4
        · exact List.lt_of_le_of_lt (hs _ _ (by omega) (by omega)) h4
      · rw [List.mem_append, h2 x, List.mem_singleton]
        constructor
        · rintro (⟨j, hj, e⟩ | e)
          · exact ⟨j, by omega, e⟩
          · exact ⟨m, by omega, e.symm⟩
        · rintro ⟨j, hj, e⟩
          by_cases hjm : j = m
          · subst hjm; exact .inr e.symm
          · exact .inl ⟨j, by omega, e⟩
    · rw [if_neg hk, List.append_nil]
      refine ⟨h1, fun x => (h2 x).trans ⟨fun ⟨j, hj, e⟩ => ⟨j, by omega, e⟩, fun ⟨j, hj, e⟩ => ?_⟩⟩
      unfold keeps at hk
      rw [decide_eq_true_eq] at hk
      by_cases hjm : j = m
      · subst hjm
        have h0 : j ≠ 0 := fun h0 => hk (.inl h0)
        have h3 : d[j]! = d[j - 1]! := Classical.not_not.1 fun h3 => hk (.inr h3)
        exact ⟨j - 1, by omega, by rw [← h3]; exact e⟩
      · exact ⟨j, by omega, e⟩
theorem compact_rising (M : List ByteArray) : (compact ((M.map (fun s => s.data.toList)).mergeSort leB)).map bstr = risingL M := by
  have tr : ∀ a b c : List UInt8, leB a b = true → leB b c = true → leB a c = true := fun a b c h1 h2 => by simp only [leB, decide_eq_true_eq] at *; exact List.le_trans h1 h2
  have to : ∀ a b : List UInt8, (leB a b || leB b a) = true := fun a b => by simp only [leB, Bool.or_eq_true, decide_eq_true_eq]; exact List.le_total a b
  have hp := List.pairwise_mergeSort tr to (M.map (fun s => s.data.toList))
  have hm : ∀ x, x ∈ (M.map (fun s => s.data.toList)).mergeSort leB ↔ x ∈ M.map (fun s => s.data.toList) := fun x => List.mem_mergeSort
  generalize (M.map (fun s => s.data.toList)).mergeSort leB = S at *
  obtain ⟨h1, h2⟩ := compactUpTo_sorted S.toArray (fun i j hij hj => by
    have hj' : j < S.length := by simpa using hj
    have := List.pairwise_iff_getElem.1 hp i j (by omega) hj' hij
    simp only [leB, decide_eq_true_eq] at this
    rw [getElem!_pos S.toArray i (by simp; omega), getElem!_pos S.toArray j hj]
    exact this) S.length (by simp)
  have g1 := foldl_ins M [] .nil
  refine rising_only (List.pairwise_map.2 (h1.imp fun {a b} hab => ?_)) g1.1 fun x => ?_
  · rw [id, id, slt_list, decide_eq_true_eq]
    exact hab
  · show _ ↔ x ∈ M.foldl insS []
    rw [g1.2 x, List.mem_map]
    constructor
    · rintro ⟨y, hy, rfl⟩
      obtain ⟨j, hj, rfl⟩ := (h2 y).1 hy
      have hjs : S.toArray[j]! ∈ S := by
        rw [getElem!_pos S.toArray j (by simpa using hj)]
        simp
      obtain ⟨z, hz, he⟩ := List.mem_map.1 ((hm _).1 hjs)
      rw [← he]
      exact .inr hz
    · rintro (h | h)
      · cases h
      · have hx : x.data.toList ∈ S := (hm _).2 (List.mem_map.2 ⟨x, h, rfl⟩)
        obtain ⟨j, hj, he⟩ := List.mem_iff_getElem.1 hx
        exact ⟨x.data.toList, (h2 _).2 ⟨j, hj, by rw [getElem!_pos S.toArray j (by simpa using hj)]; simpa using he⟩, rfl⟩
end Go.Proofs.YtojebioolflbkaaGreat
