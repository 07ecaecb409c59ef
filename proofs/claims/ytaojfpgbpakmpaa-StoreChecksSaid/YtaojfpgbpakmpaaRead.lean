/-
  Reading a number: what wire.ReadNumber answers, in plain words. No program here.
-/
import Derived.Test.YtaojfpgbpakmpaaWire
namespace Go.Proofs.Ytaojfpgbpakmpaa

/-- The number that groups of seven bits spell, the least group first. -/
def val : List UInt8 → Nat
  | [] => 0
  | c :: l => c.toNat % 128 + 128 * val l

def readNum (l : List UInt8) : Int × List UInt8 × Int :=
  if 5 ≤ (l.takeWhile fun c => decide (128 ≤ c.toNat)).length then (0, [], 3) else
  match l[(l.takeWhile fun c => decide (128 ≤ c.toNat)).length]? with
  | none => (0, [], 8)
  | some c => if 4294967295 < val (l.take ((l.takeWhile fun c => decide (128 ≤ c.toNat)).length + 1)) ∨ (c.toNat = 0 ∧ 0 < (l.takeWhile fun c => decide (128 ≤ c.toNat)).length) then (0, [], 3)
    else (val (l.take ((l.takeWhile fun c => decide (128 ≤ c.toNat)).length + 1)), l.drop ((l.takeWhile fun c => decide (128 ≤ c.toNat)).length + 1), 0)

theorem tw_len {α : Type} (p : α → Bool) : ∀ (l : List α) (k : Nat), (∀ j x, j < k → l[j]? = some x → p x = true) → k ≤ l.length → (∀ x, l[k]? = some x → p x = false) → (l.takeWhile p).length = k
  | [], k, _, h2, _ => by simp at h2; simp [h2]
  | a :: l, 0, _, _, h3 => by rw [List.takeWhile_cons, h3 a rfl]; rfl
  | a :: l, k + 1, h1, h2, h3 => by
    rw [List.takeWhile_cons, h1 0 a (by omega) rfl]
    simp only [if_true, List.length_cons]
    rw [tw_len p l k (fun j x hj hx => h1 (j + 1) x (by omega) (by simpa using hx)) (by simpa using h2) (fun x hx => h3 x (by simpa using hx))]
theorem tw_ge {α : Type} (p : α → Bool) : ∀ (l : List α) (k : Nat), (∀ j x, j < k → l[j]? = some x → p x = true) → k ≤ l.length → k ≤ (l.takeWhile p).length
  | [], k, _, h2 => by simpa using h2
  | a :: l, 0, _, _ => by omega
  | a :: l, k + 1, h1, h2 => by
    rw [List.takeWhile_cons, h1 0 a (by omega) rfl]
    simp only [if_true, List.length_cons]
    have := tw_ge p l k (fun j x hj hx => h1 (j + 1) x (by omega) (by simpa using hx)) (by simpa using h2)
    omega

/-- The first k bytes go on. -/
def Goes (l : List UInt8) (k : Nat) : Prop := k ≤ l.length ∧ ∀ j x, j < k → l[j]? = some x → 128 ≤ x.toNat
theorem Goes.zero (l : List UInt8) : Goes l 0 := ⟨Nat.zero_le _, fun j x h => by omega⟩
theorem Goes.succ {l : List UInt8} {k : Nat} {c : UInt8} (h : Goes l k) (hc : l[k]? = some c) (h128 : 128 ≤ c.toNat) : Goes l (k + 1) := by
  refine ⟨(List.getElem?_eq_some_iff.1 hc).1, fun j x hj hx => ?_⟩
  by_cases hjk : j = k
  · subst hjk; rw [hc] at hx; cases hx; exact h128
  · exact h.2 j x (by omega) hx

theorem rn_form5 {l : List UInt8} (h : Goes l 5) : readNum l = (0, [], 3) := by
  unfold readNum
  rw [if_pos (tw_ge _ l 5 (fun j x hj hx => by simpa using h.2 j x hj hx) h.1)]
theorem rn_short {l : List UInt8} {k : Nat} (h : Goes l k) (hk : k = l.length) (h5 : k < 5) : readNum l = (0, [], 8) := by
  have e := tw_len (fun c : UInt8 => decide (128 ≤ c.toNat)) l k (fun j x hj hx => by simpa using h.2 j x hj hx) h.1 (fun x hx => by rw [hk] at hx; simp at hx)
  unfold readNum
  rw [e, if_neg (by omega), hk]
  simp
theorem rn_at {l : List UInt8} {k : Nat} {c : UInt8} (h : Goes l k) (h5 : k < 5) (hc : l[k]? = some c) (h128 : c.toNat < 128) :
    readNum l = if 4294967295 < val (l.take (k + 1)) ∨ (c.toNat = 0 ∧ 0 < k) then (0, [], 3) else ((val (l.take (k + 1)) : Int), l.drop (k + 1), 0) := by
  have e := tw_len (fun c : UInt8 => decide (128 ≤ c.toNat)) l k (fun j x hj hx => by simpa using h.2 j x hj hx) h.1 (fun x hx => by rw [hc] at hx; cases hx; simpa using h128)
  unfold readNum
  rw [e, if_neg (by omega), hc]

theorem val_snoc : ∀ (l : List UInt8) (c : UInt8), val (l ++ [c]) = val l + c.toNat % 128 * 128 ^ l.length
  | [], c => by simp [val]
  | a :: l, c => by
    rw [List.cons_append, val, val, val_snoc l c, List.length_cons, Nat.pow_succ, Nat.mul_add, ← Nat.add_assoc]
    congr 1
    rw [Nat.mul_comm 128, Nat.mul_assoc]
theorem val_lt : ∀ l : List UInt8, val l < 128 ^ l.length
  | [] => by simp [val]
  | a :: l => by
    rw [val, List.length_cons, Nat.pow_succ]
    have h1 := val_lt l
    have h2 : a.toNat % 128 < 128 := Nat.mod_lt _ (by decide)
    omega
theorem val_take {l : List UInt8} {k : Nat} {c : UInt8} (hc : l[k]? = some c) : val (l.take (k + 1)) = val (l.take k) + c.toNat % 128 * 128 ^ k := by
  have hk := (List.getElem?_eq_some_iff.1 hc).1
  rw [List.take_add_one, hc]
  simp only [Option.toList_some]
  rw [val_snoc, List.length_take, Nat.min_eq_left (by omega)]

/-- A number that is spelt so, in as few bytes as may be, is its varint. -/
theorem varint_val : ∀ (l : List UInt8) (c : UInt8), (∀ x ∈ l, 128 ≤ x.toNat) → c.toNat < 128 → (c.toNat ≠ 0 ∨ l = []) → varint (val (l ++ [c])) = l ++ [c]
  | [], c, _, hc, _ => by
    simp only [List.nil_append, val, Nat.mul_zero, Nat.add_zero]
    rw [Nat.mod_eq_of_lt hc, varint_small _ hc]
    congr 1
    apply UInt8.toNat_inj.1
    simp [lastB]
  | a :: l, c, h, hc, h0 => by
    have ha := h a (List.mem_cons_self ..)
    have hc0 : c.toNat ≠ 0 := h0.resolve_right (by simp)
    rw [List.cons_append, val]
    have hpos : 0 < val (l ++ [c]) := by
      rw [val_snoc, Nat.mod_eq_of_lt hc]
      have : 0 < c.toNat * 128 ^ l.length := Nat.mul_pos (by omega) (Nat.pow_pos (by decide))
      omega
    have hm : a.toNat % 128 < 128 := Nat.mod_lt _ (by decide)
    rw [varint_big _ (by omega), show (a.toNat % 128 + 128 * val (l ++ [c])) / 128 = val (l ++ [c]) by omega, varint_val l c (fun x hx => h x (List.mem_cons_of_mem _ hx)) hc (.inl hc0)]
    congr 1
    apply UInt8.toNat_inj.1
    have := a.toNat_lt
    simp only [moreB, UInt8.toNat_ofNat']
    omega
theorem varint_last (n : Nat) (l : List UInt8) (h : varint n = l ++ [0]) : l = [] := by
  induction l generalizing n with
  | nil => rfl
  | cons a l ih =>
    exfalso
    by_cases hn : n < 128
    · rw [varint_small n hn] at h; simp at h
    · rw [varint_big n hn, List.cons_append] at h
      have h2 := (List.cons.inj h).2
      have h3 := ih _ h2
      subst h3
      by_cases hn2 : n / 128 < 128
      · rw [varint_small _ hn2] at h2
        simp only [List.nil_append, List.cons.injEq, and_true] at h2
        have := congrArg UInt8.toNat h2
        simp [lastB] at this
        omega
      · rw [varint_big _ hn2] at h2
        simp only [List.nil_append, List.cons.injEq] at h2
        have := varint_pos (n / 128 / 128)
        rw [h2.2] at this
        simp at this

/-- The reference's test: what was read is written so again. -/
theorem again_iff {l : List UInt8} {k : Nat} {c : UInt8} (h : Goes l k) (hc : l[k]? = some c) (h128 : c.toNat < 128) : varint (val (l.take (k + 1))) = l.take (k + 1) ↔ ¬ (c.toNat = 0 ∧ 0 < k) := by
  have hk := (List.getElem?_eq_some_iff.1 hc).1
  have e : l.take (k + 1) = l.take k ++ [c] := by rw [List.take_add_one, hc]; rfl
  have hall : ∀ x ∈ l.take k, 128 ≤ x.toNat := by
    intro x hx
    obtain ⟨j, hj, he⟩ := List.mem_iff_getElem.1 hx
    simp only [List.length_take] at hj
    refine h.2 j x (by omega) ?_
    rw [← he, List.getElem_take]
    exact List.getElem?_eq_getElem (by omega)
  rw [e]
  constructor
  · rintro he ⟨h0, hk0⟩
    obtain rfl : c = 0 := UInt8.toNat_inj.1 h0
    have := congrArg List.length (varint_last _ _ he)
    rw [List.length_take, List.length_nil] at this
    omega
  · intro hn
    refine varint_val _ c hall h128 ?_
    by_cases hk0 : k = 0
    · right; simp [hk0]
    · left; intro h0; exact hn ⟨h0, by omega⟩

end Go.Proofs.Ytaojfpgbpakmpaa
