/-
  sweep.Next and the reference's SweepNext: what each answers.
-/
import Derived.Test.YtojebioolflbkaaGreatKB
import Derived.Test.YtojebioolflbkaaGreatMnf
namespace Go.Proofs.YtojebioolflbkaaGreat
open Go.RowKit

/-- The first place where q holds; as many as there are: there is none. -/
def firstAt {α : Type} (q : α → Bool) : List α → Nat
  | [] => 0
  | x :: l => if q x = true then 0 else firstAt q l + 1
theorem firstAt_le {α : Type} (q : α → Bool) : ∀ l : List α, firstAt q l ≤ l.length
  | [] => Nat.le_refl _
  | x :: l => by
    rw [firstAt]
    have := firstAt_le q l
    split <;> simp <;> omega
theorem firstAt_hit {α : Type} {q : α → Bool} : ∀ {l : List α} {k : Nat} {x : α}, l[k]? = some x → q x = true → (∀ j y, j < k → l[j]? = some y → q y = false) → firstAt q l = k
  | [], k, x, hx, _, _ => by simp at hx
  | y :: l, 0, x, hx, hq, _ => by
    simp only [List.getElem?_cons_zero, Option.some.injEq] at hx
    subst hx
    rw [firstAt, if_pos hq]
  | y :: l, k + 1, x, hx, hq, ha => by
    have h0 := ha 0 y (by omega) rfl
    have h1 := firstAt_hit (q := q) (l := l) (k := k) (x := x) hx hq (fun j z hj hz => ha (j + 1) z (by omega) hz)
    rw [firstAt, if_neg (by rw [h0]; decide), h1]
theorem firstAt_miss {α : Type} {q : α → Bool} : ∀ {l : List α}, (∀ (j : Nat) y, l[j]? = some y → q y = false) → firstAt q l = l.length
  | [], _ => rfl
  | y :: l, ha => by
    have h0 := ha 0 y rfl
    have h1 := firstAt_miss (q := q) (l := l) (fun j z hz => ha (j + 1) z hz)
    rw [firstAt, if_neg (by rw [h0]; decide), h1]; rfl
theorem idx_first {α : Type} (q : α → Bool) : ∀ l : List α, idxOf q l = if firstAt q l = l.length then -1 else (firstAt q l : Int)
  | [] => rfl
  | x :: l => by
    have ih := idx_first q l
    have hle := firstAt_le q l
    rw [idxOf, firstAt]
    by_cases h : q x = true
    · rw [if_pos h, if_pos h, if_neg (by simp)]; rfl
    · rw [if_neg h, if_neg h, ih]
      by_cases h2 : firstAt q l = l.length
      · rw [if_pos h2, if_pos rfl, if_pos (by simp [h2])]
      · rw [if_neg h2, if_neg (by omega), if_neg (by simp; omega)]; omega
/-- The place of the next blob to sweep. -/
def swAt (s : ByteArray) (l : List Blob) : Nat := firstAt (fun x : Blob => slt s x.digest) l
def swI (s : ByteArray) (l : List Blob) : Int := if swAt s l = l.length then 0 else (swAt s l : Int)
def swE (s : ByteArray) (l : List Blob) : Int := if swAt s l = l.length then 5 else 0
theorem sw_cases (s : ByteArray) (l : List Blob) :
    (idxOf (fun x : Blob => slt s x.digest) l = -1 ∧ swI s l = 0 ∧ swE s l = 5) ∨ (0 ≤ idxOf (fun x : Blob => slt s x.digest) l ∧ swI s l = idxOf (fun x : Blob => slt s x.digest) l ∧ swE s l = 0) := by
  rw [idx_first]
  unfold swI swE swAt
  split
  · exact .inl ⟨rfl, rfl, rfl⟩
  · exact .inr ⟨by omega, rfl, rfl⟩

set_option maxRecDepth 100000 in
set_option maxHeartbeats 400000 in
theorem next1 (x : Blob) (a : Option Addr) (n c : Nat) (s : ByteArray) (p : Nat) (w : World) (hc : w.cell? ⟨p, 0, none⟩ = some (.string s)) (hp : p < w.heap.size) :
    Calls Tryz.prog 168 #[.agg #[.string x.digest, .slice a n c, .int .i64 x.pins, .bool x.mark], .pointer (some ⟨p, 0, none⟩)] w fun e w' => e = .returned (.bool (slt s x.digest)) ∧ Below w.heap.size w w' := by
  rcases sle_atoms x.digest s with ⟨a1, a2⟩ | ⟨a1, a3, a2⟩ | ⟨a1, a3, a2⟩
  · rw [a2]
    have a4 : Op.bytesLess s.toList x.digest.toList = false := a2
    go_enter Tryz.func168, Tryz.ntmps168
    go_wp2_with fail
    go_ret
    exact ⟨rfl, b_alloc (Below.refl _ _) _⟩
  · rw [a2]
    have a4 : Op.bytesLess s.toList x.digest.toList = false := a2
    have a5 : (x.digest.toList == s.toList) = true := by rw [a3]; simp
    go_enter Tryz.func168, Tryz.ntmps168
    go_wp2_with fail
    go_ret
    exact ⟨rfl, b_alloc (Below.refl _ _) _⟩
  · rw [a2]
    have a4 : Op.bytesLess s.toList x.digest.toList = true := a2
    go_enter Tryz.func168, Tryz.ntmps168
    go_wp2_with fail
    go_ret
    exact ⟨rfl, b_alloc (Below.refl _ _) _⟩

set_option maxRecDepth 100000 in
set_option maxHeartbeats 400000 in
theorem sweep_Next (v : Value) (l : List Blob) (s : ByteArray) (w : World) (h : RBl w v l) :
    Calls Tryz.prog 128 #[v, .string s] w fun e w' => e = .returned (.tuple #[.int .i64 (swI s l), .int .i64 (swE s l)]) ∧ Below w.heap.size w w' := by
  have hl : l.length ≤ 140737488351232 := by obtain ⟨_, _, _, _, _, hre, _⟩ := h; omega
  have hi := idxFunc_B 168 #[.pointer (some ⟨w.heap.size, 0, none⟩)] (fun x => slt s x.digest) (enters_of Tryz.func168 (by kernel_rfl) rfl) v l (w.alloc (.cells #[.string s] 9)) (h.mono EBlob.stable (b_alloc (Below.refl _ _) _))
    (fun W x dv hb _ hd => by
      obtain ⟨a, c, rfl, -⟩ := hd
      exact next1 x a _ c s w.heap.size W (by rw [hb.cell (p := ⟨w.heap.size, 0, none⟩) (by simp)]; rw [cell_of_row _ _ _ _ _ _ (heap_alloc_new w _)]; rfl) (by have := hb.size; simp at this; omega))
  have hcase := sw_cases s l
  generalize idxOf (fun x : Blob => slt s x.digest) l = r at hi hcase
  generalize swI s l = fi at hcase ⊢
  generalize swE s l = fe at hcase ⊢
  replace hi := hid hi
  rcases hcase with ⟨rfl, rfl, rfl⟩ | ⟨h0, rfl, rfl⟩
  · go_enter Tryz.func128, Tryz.ntmps128
    go_wp2_with fail
    ((with_reducible refine hi.out.mono ?_); rintro e w1 ⟨rfl, b1⟩)
    go_wp2_with fail
    go_ret2
    exact ⟨rfl, b_call (b_alloc (Below.refl _ _) _) b1⟩
  · have hneg : decide (fi < 0) = false := by simp; omega
    go_enter Tryz.func128, Tryz.ntmps128
    go_wp2_with fail
    ((with_reducible refine hi.out.mono ?_); rintro e w1 ⟨rfl, b1⟩)
    go_wp2_with fail
    go_ret2
    exact ⟨rfl, b_call (b_alloc (Below.refl _ _) _) b1⟩

set_option maxRecDepth 100000 in
set_option maxHeartbeats 400000 in
theorem ref_SweepNext (v : Value) (l : List Blob) (s : ByteArray) (w : World) (h : RBl w v l) :
    Calls Tryz.prog 130 #[v, .string s] w fun e w' => e = .returned (.int .i64 (swAt s l : Nat)) ∧ w = w' := by
  obtain ⟨a, c, rfl, hlc, hcm, hre, hno, hat⟩ := h
  unfold maxLen at hcm
  replace hat := hid hat
  have hy := hid (fun k x hx hq ha => firstAt_hit (q := fun x : Blob => slt s x.digest) (l := l) (k := k) (x := x) hx hq ha)
  have hn := hid (fun ha => firstAt_miss (q := fun x : Blob => slt s x.digest) (l := l) ha)
  unfold swAt
  generalize firstAt (fun x : Blob => slt s x.digest) l = fa at *
  clear hno
  go_enter Tryz.func130, Tryz.ntmps130
  go_wp2_with fail
  go_loopw [5] (fun i wr => ∃ k : Nat, k ≤ l.length ∧ i = .int .i64 k ∧ Hid (∀ j y, j < k → l[j]? = some y → slt s y.digest = false) ∧ wr = w) (fun i _ => l.length - (intOf i).toNat)
  case atStart => exact ⟨0, by omega, rfl, hid (fun j x hj => by omega), rfl⟩
  case round =>
    obtain ⟨k, hk, rfl, hall, rfl⟩ := hrel
    by_cases hlt : k < l.length
    · have hx : l[k]? = some l[k] := List.getElem?_eq_getElem hlt
      generalize l[k] = x at hx
      obtain ⟨bb, off, rfl, hbb, he⟩ := hat.out k _ hx
      obtain ⟨dv, c0, c1, c2, c3, rdv, okx⟩ := he
      have hy1 := hid (fun hq => hy.out k x hx hq hall.out)
      have hnx := hid (fun (hq : slt s x.digest = false) => upto_next_l (q := fun y : Blob => slt s y.digest) hall.out hx hq)
      clear hx rdv
      rcases sle_atoms x.digest s with ⟨a1, a2⟩ | ⟨a1, a3, a2⟩ | ⟨a1, a3, a2⟩
      · have a4 : Op.bytesLess s.toList x.digest.toList = false := a2
        have hr := hid (hnx.out a2)
        clear hall a2
        go_wp2_with fail
        go_roundw
        case rel => exact ⟨k + 1, by omega, by go_num, hr, trivial⟩
        case measure => simp [intOf]; omega
      · have a4 : Op.bytesLess s.toList x.digest.toList = false := a2
        have a5 : (x.digest.toList == s.toList) = true := by rw [a3]; simp
        have hr := hid (hnx.out a2)
        clear hall a2 a3
        go_wp2_with fail
        go_roundw
        case rel => exact ⟨k + 1, by omega, by go_num, hr, trivial⟩
        case measure => simp [intOf]; omega
      · have a4 : Op.bytesLess s.toList x.digest.toList = true := a2
        have hr := hid (hy1.out a2)
        clear hall a2
        go_wp2_with fail
        go_ret
        exact ⟨ret_i (by rw [hr.out]), rfl⟩
    · obtain rfl : k = l.length := by omega
      have hr := hid (hn.out (fun j x hj => hall.out j x (List.getElem?_eq_some_iff.1 hj).1 hj))
      clear hall
      go_wp2_with fail
      go_ret
      exact ⟨ret_i (by rw [hr.out]), rfl⟩
end Go.Proofs.YtojebioolflbkaaGreat
