/-
  What bytes are, as an order. An order's box in memory.
-/
import Derived.Test.YtojebioolflbkaaOdC
import Derived.Test.YtojebioolflbkaaDe
import Derived.Test.YtojebioolflbkaaHx
import Derived.Test.YtojebioolflbkaaWrt
import Derived.Handy
namespace Go.Proofs.Ytojebioolflbkaa
open Go.RowKit

def noOrd : Order := ⟨0, 0, ⟨#[]⟩, [], []⟩
def odC (o : Order) : Order × Int := if ordFault o ≠ 0 then (noOrd, ordFault o) else (o, 0)
def odR (o : Order) (r : List UInt8) : Order × Int := if 0 < r.length then (noOrd, 3) else odC o
def odP (k n : Int) (d : ByteArray) (x r : List UInt8) : Order × Int :=
  if hasP k = true then (if (decParts r).2 ≠ 0 then (noOrd, (decParts r).2) else odC ⟨k, n, d, x, (decParts r).1⟩) else odR ⟨k, n, d, x, []⟩ r
def odB (k n : Int) (d : ByteArray) (r : List UInt8) : Order × Int :=
  if hasB k = true then (if (readText r).2.2 ≠ 0 then (noOrd, (readText r).2.2) else odP k n d (readText r).1.data.toList (readText r).2.1) else odP k n d [] r
def odD (k n : Int) (r : List UInt8) : Order × Int :=
  if hasD k = true then (if r.length < 32 then (noOrd, 8) else odB k n (bstr (hexOf (r.take 32))) (r.drop 32)) else odB k n ⟨#[]⟩ r
def odN (k : Int) (r : List UInt8) : Order × Int :=
  if hasN k = true then (if (readNum r).2.2 ≠ 0 then (noOrd, (readNum r).2.2) else odD k (readNum r).1 (readNum r).2.1) else odD k 0 r
/-- What bytes are, as an order, and what is wrong with them. -/
def decOrd (b : List UInt8) : Order × Int :=
  if (readNum b).2.2 ≠ 0 then (noOrd, (readNum b).2.2) else if isKind (readNum b).1 = false then (noOrd, 2) else odN (readNum b).1 (readNum b).2.1
section
variable {X : Order × Int} {b r r' x : List UInt8} {k n n' e : Int} {s d : ByteArray} {l : List Part} {o : Order}
theorem dec_bad (hX : X = decOrd b) (h : readNum b = (n, r, e)) (he : e ≠ 0) : X = (noOrd, e) := by
  rw [hX]; unfold decOrd; rw [h]; exact if_pos he
theorem dec_none (hX : X = decOrd b) (h : readNum b = (k, r, 0)) (hk : isKind k = false) : X = (noOrd, 2) := by
  rw [hX]; unfold decOrd; rw [h]; exact (if_neg (by simp)).trans (if_pos hk)
theorem dec_kind (hX : X = decOrd b) (h : readNum b = (k, r, 0)) (hk : isKind k = true) : X = odN k r := by
  rw [hX]; unfold decOrd; rw [h]; exact (if_neg (by simp)).trans (if_neg (by simp [hk]))
theorem odN_bad (hX : X = odN k r) (hn : hasN k = true) (h : readNum r = (n, r', e)) (he : e ≠ 0) : X = (noOrd, e) := by
  rw [hX]; unfold odN; rw [h]; exact (if_pos hn).trans (if_pos he)
theorem odN_ok (hX : X = odN k r) (hn : hasN k = true) (h : readNum r = (n, r', 0)) : X = odD k n r' := by
  rw [hX]; unfold odN; rw [h]; exact (if_pos hn).trans (if_neg (by simp))
theorem odN_no (hX : X = odN k r) (hn : hasN k = false) : X = odD k 0 r := by
  rw [hX]; unfold odN; exact if_neg (by simp [hn])
theorem odD_bad (hX : X = odD k n r) (hd : hasD k = true) (h : r.length < 32) : X = (noOrd, 8) := by
  rw [hX]; unfold odD; exact (if_pos hd).trans (if_pos h)
theorem odD_ok (hX : X = odD k n r) (hd : hasD k = true) (h : ¬ r.length < 32) : X = odB k n (bstr (hexOf (r.take 32))) (r.drop 32) := by
  rw [hX]; unfold odD; exact (if_pos hd).trans (if_neg h)
theorem odD_no (hX : X = odD k n r) (hd : hasD k = false) : X = odB k n ⟨#[]⟩ r := by
  rw [hX]; unfold odD; exact if_neg (by simp [hd])
theorem odB_bad (hX : X = odB k n d r) (hb : hasB k = true) (h : readText r = (s, r', e)) (he : e ≠ 0) : X = (noOrd, e) := by
  rw [hX]; unfold odB; rw [h]; exact (if_pos hb).trans (if_pos he)
theorem odB_ok (hX : X = odB k n d r) (hb : hasB k = true) (h : readText r = (s, r', 0)) : X = odP k n d s.data.toList r' := by
  rw [hX]; unfold odB; rw [h]; exact (if_pos hb).trans (if_neg (by simp))
theorem odB_no (hX : X = odB k n d r) (hb : hasB k = false) : X = odP k n d [] r := by
  rw [hX]; unfold odB; exact if_neg (by simp [hb])
theorem odP_bad (hX : X = odP k n d x r) (hp : hasP k = true) (h : decParts r = (l, e)) (he : e ≠ 0) : X = (noOrd, e) := by
  rw [hX]; unfold odP; rw [h]; exact (if_pos hp).trans (if_pos he)
theorem odP_ok (hX : X = odP k n d x r) (hp : hasP k = true) (h : decParts r = (l, 0)) : X = odC ⟨k, n, d, x, l⟩ := by
  rw [hX]; unfold odP; rw [h]; exact (if_pos hp).trans (if_neg (by simp))
theorem odP_no (hX : X = odP k n d x r) (hp : hasP k = false) : X = odR ⟨k, n, d, x, []⟩ r := by
  rw [hX]; unfold odP; exact if_neg (by simp [hp])
theorem odR_bad (hX : X = odR o r) (h : 0 < r.length) : X = (noOrd, 3) := by rw [hX]; exact if_pos h
theorem odR_ok (hX : X = odR o r) (h : ¬ 0 < r.length) : X = odC o := by rw [hX]; exact if_neg h
theorem odC_bad (hX : X = odC o) {z : Int} (h : ordFault o = z) (he : z ≠ 0) : X = (noOrd, z) := by
  subst h; rw [hX]; exact if_pos he
theorem odC_ok (hX : X = odC o) (h : ordFault o = 0) : X = (o, 0) := by rw [hX]; exact if_neg (by simp [h])
theorem kind_fields (h : isKind k = true) : (hasN k = false ∧ hasD k = false ∧ hasB k = true ∧ hasP k = false) ∨ (hasN k = false ∧ hasD k = true ∧ hasB k = false ∧ hasP k = false) ∨
    (hasN k = false ∧ hasD k = true ∧ hasB k = false ∧ hasP k = true) ∨ (hasN k = true ∧ hasD k = false ∧ hasB k = false ∧ hasP k = false) ∨
    (hasN k = false ∧ hasD k = false ∧ hasB k = false ∧ hasP k = false) ∨ (hasN k = true ∧ hasD k = true ∧ hasB k = false ∧ hasP k = false) := by
  rcases kind_cases (of_decide_eq_true h) with rfl | rfl | rfl | rfl | rfl | rfl | rfl | rfl | rfl | rfl | rfl | rfl | rfl | rfl <;> decide
end
def OdRes (X : Order × Int) (w : World) (e : Ending) (w' : World) : Prop :=
  ∃ dv pv, e = .returned (.tuple #[.agg #[.int .i64 X.1.kind, .int .i64 X.1.n, .string X.1.digest, dv, pv], .int .i64 X.2]) ∧ RB w' dv X.1.data ∧ RP w' pv X.1.parts ∧ Below w.heap.size w w'
theorem od_no {X : Order × Int} {n : Int} {w w' : World} (h : X = (noOrd, n)) (hb : Below w.heap.size w w') :
    OdRes X w (.returned (.tuple #[.agg #[.int .i64 0, .int .i64 0, .string ⟨#[]⟩, .slice none 0 0, .slice none 0 0], .int .i64 n])) w' := by
  subst h
  exact ⟨_, _, rfl, RS.nil, RS.nil, hb⟩
theorem od_ok {X : Order × Int} {k n : Int} {d : ByteArray} {x : List UInt8} {l : List Part} {dv pv : Value} {w w' : World} (h : X = (⟨k, n, d, x, l⟩, 0)) (h1 : RB w' dv x) (h2 : RP w' pv l) (hb : Below w.heap.size w w') :
    OdRes X w (.returned (.tuple #[.agg #[.int .i64 k, .int .i64 n, .string d, dv, pv], .int .i64 0])) w' := by
  subst h
  exact ⟨_, _, rfl, h1, h2, hb⟩
def NumPost (l : List UInt8) (w : World) (e : Ending) (w' : World) : Prop :=
  ∃ v, e = .returned (.tuple #[.int .i64 (readNum l).1, v, .int .i64 (readNum l).2.2]) ∧ RB w' v (readNum l).2.1 ∧ Below w.heap.size w w'
theorem num_post {l : List UInt8} {w w' : World} {e : Ending} (hl : l.length ≤ 140737488351232) (h : ReadPost l w e w') : NumPost l w e w' := by
  obtain ⟨v, h1, h2, h3⟩ := h
  exact ⟨v, h1, reads_u8 h2 (Nat.le_trans (rn_rest_le l) hl), h3⟩

/-- A block that holds an order. -/
def OBox (w : World) (p : Nat) : Prop := ∃ k n d a m c a' m' c' T, w.heap[p]? = some (.cells #[.int .i64 k, .int .i64 n, .string d, .slice a m c, .slice a' m' c'] T (0, 0))
theorem OBox.u8 {w : World} {p b o : Nat} {k : Int} (h : OBox w p) (hc : w.cell? ⟨b, o, none⟩ = some (.int .u8 k)) : b ≠ p := by
  rintro rfl
  obtain ⟨k, n, d, a, m, c, a', m', c', T, hp⟩ := h
  rw [cell_of_row _ _ _ _ _ _ hp] at hc
  rcases o with _ | _ | _ | _ | _ | o <;> simp at hc
theorem OBox.str2 {w : World} {p b o : Nat} {s t : ByteArray} (h : OBox w p) (hc : w.cell? ⟨b, o, none⟩ = some (.string s)) (hd : w.cell? ⟨b, o + 1, none⟩ = some (.string t)) : b ≠ p := by
  rintro rfl
  obtain ⟨k, n, d, a, m, c, a', m', c', T, hp⟩ := h
  rw [cell_of_row _ _ _ _ _ _ hp] at hc hd
  rcases o with _ | _ | _ | _ | _ | o <;> simp at hc hd
section
variable {w : World} {p q : Nat} {u : Value}
theorem EU8.writeO (hp : OBox w p) {b o : Nat} {x : UInt8} (h : EU8 w b o x) : EU8 (w.setCell ⟨p, q, none⟩ u) b o x := (cell_apart (hp.u8 h)).trans h
theorem EPart.writeO (hp : OBox w p) {b o : Nat} {x : Part} (h : EPart w b o x) : EPart (w.setCell ⟨p, q, none⟩ u) b o x := by
  obtain ⟨h1, h2, h3, h4⟩ := h
  have hne := hp.str2 h1 h2
  exact ⟨(cell_apart hne).trans h1, (cell_apart hne).trans h2, (cell_apart hne).trans h3, h4⟩
end
theorem RB.setO {w : World} {p q : Nat} {v u : Value} {l : List UInt8} (h : RB w v l) (hp : OBox w p) : RB (w.setCell ⟨p, q, none⟩ u) v l := RS.write h (fun _ _ _ => EU8.writeO hp)
theorem RP.setO {w : World} {p q : Nat} {v u : Value} {l : List Part} (h : RP w v l) (hp : OBox w p) : RP (w.setCell ⟨p, q, none⟩ u) v l := RS.write h (fun _ _ _ => EPart.writeO hp)
section
variable {w : World} {q : Nat} {a b c d e u : Value} {T : TypeId}
theorem box5_0 (h : w.heap[q]? = some (.cells #[a, b, c, d, e] T (0, 0))) : (w.setCell ⟨q, 0, none⟩ u).heap[q]? = some (.cells #[u, b, c, d, e] T (0, 0)) := by simp [World.setCell, Array.getElem?_modify, h]
theorem box5_1 (h : w.heap[q]? = some (.cells #[a, b, c, d, e] T (0, 0))) : (w.setCell ⟨q, 1, none⟩ u).heap[q]? = some (.cells #[a, u, c, d, e] T (0, 0)) := by simp [World.setCell, Array.getElem?_modify, h]
theorem box5_2 (h : w.heap[q]? = some (.cells #[a, b, c, d, e] T (0, 0))) : (w.setCell ⟨q, 2, none⟩ u).heap[q]? = some (.cells #[a, b, u, d, e] T (0, 0)) := by simp [World.setCell, Array.getElem?_modify, h]
theorem box5_3 (h : w.heap[q]? = some (.cells #[a, b, c, d, e] T (0, 0))) : (w.setCell ⟨q, 3, none⟩ u).heap[q]? = some (.cells #[a, b, c, u, e] T (0, 0)) := by simp [World.setCell, Array.getElem?_modify, h]
theorem box5_4 (h : w.heap[q]? = some (.cells #[a, b, c, d, e] T (0, 0))) : (w.setCell ⟨q, 4, none⟩ u).heap[q]? = some (.cells #[a, b, c, d, u] T (0, 0)) := by simp [World.setCell, Array.getElem?_modify, h]
theorem box5f (h : w.heap[q]? = some (.cells #[a, b, c, d, e] T (0, 0))) : w.cell? ⟨q, 0, none⟩ = some a ∧ w.cell? ⟨q, 1, none⟩ = some b ∧ w.cell? ⟨q, 2, none⟩ = some c ∧ w.cell? ⟨q, 3, none⟩ = some d ∧ w.cell? ⟨q, 4, none⟩ = some e :=
  ⟨cell_of_row _ _ 0 _ _ _ h, cell_of_row _ _ 1 _ _ _ h, cell_of_row _ _ 2 _ _ _ h, cell_of_row _ _ 3 _ _ _ h, cell_of_row _ _ 4 _ _ _ h⟩
end
/-- All five cells of a box set. -/
def World.box5 (w : World) (q : Nat) (u0 u1 u2 u3 u4 : Value) : World := ((((w.setCell ⟨q, 0, none⟩ u0).setCell ⟨q, 1, none⟩ u1).setCell ⟨q, 2, none⟩ u2).setCell ⟨q, 3, none⟩ u3).setCell ⟨q, 4, none⟩ u4
theorem box5_same {w : World} {q : Nat} {a b c d e u0 u1 u2 u3 u4 : Value} {T : TypeId} (h : w.heap[q]? = some (.cells #[a, b, c, d, e] T (0, 0))) : (World.box5 w q u0 u1 u2 u3 u4).heap[q]? = some (.cells #[u0, u1, u2, u3, u4] T (0, 0)) :=
  box5_4 (box5_3 (box5_2 (box5_1 (box5_0 h))))
theorem b_box5 {w W : World} (h : Below w.heap.size w W) {q : Nat} (hq : w.heap.size ≤ q) (u0 u1 u2 u3 u4 : Value) : Below w.heap.size w (World.box5 W q u0 u1 u2 u3 u4) :=
  b_set (b_set (b_set (b_set (b_set h (p := ⟨q, 0, none⟩) hq u0) (p := ⟨q, 1, none⟩) hq u1) (p := ⟨q, 2, none⟩) hq u2) (p := ⟨q, 3, none⟩) hq u3) (p := ⟨q, 4, none⟩) hq u4
section
variable {w : World} {q : Nat} {k n k' n' : Int} {d d' : ByteArray} {a a' b b' : Option Addr} {m c m' c' i j i' j' : Nat} {T : TypeId}
theorem RB.box5 {v : Value} {l : List UInt8} (h : RB w v l) (hp : w.heap[q]? = some (.cells #[.int .i64 k, .int .i64 n, .string d, .slice a m c, .slice a' m' c'] T (0, 0))) :
    RB (World.box5 w q (.int .i64 k') (.int .i64 n') (.string d') (.slice b i j) (.slice b' i' j')) v l := by
  have p0 := box5_0 (u := .int .i64 k') hp
  have p1 := box5_1 (u := .int .i64 n') p0
  have p2 := box5_2 (u := .string d') p1
  have p3 := box5_3 (u := .slice b i j) p2
  exact ((((h.setO ⟨_, _, _, _, _, _, _, _, _, _, hp⟩).setO ⟨_, _, _, _, _, _, _, _, _, _, p0⟩).setO ⟨_, _, _, _, _, _, _, _, _, _, p1⟩).setO ⟨_, _, _, _, _, _, _, _, _, _, p2⟩).setO ⟨_, _, _, _, _, _, _, _, _, _, p3⟩
theorem RP.box5 {v : Value} {l : List Part} (h : RP w v l) (hp : w.heap[q]? = some (.cells #[.int .i64 k, .int .i64 n, .string d, .slice a m c, .slice a' m' c'] T (0, 0))) :
    RP (World.box5 w q (.int .i64 k') (.int .i64 n') (.string d') (.slice b i j) (.slice b' i' j')) v l := by
  have p0 := box5_0 (u := .int .i64 k') hp
  have p1 := box5_1 (u := .int .i64 n') p0
  have p2 := box5_2 (u := .string d') p1
  have p3 := box5_3 (u := .slice b i j) p2
  exact ((((h.setO ⟨_, _, _, _, _, _, _, _, _, _, hp⟩).setO ⟨_, _, _, _, _, _, _, _, _, _, p0⟩).setO ⟨_, _, _, _, _, _, _, _, _, _, p1⟩).setO ⟨_, _, _, _, _, _, _, _, _, _, p2⟩).setO ⟨_, _, _, _, _, _, _, _, _, _, p3⟩
end
end Go.Proofs.Ytojebioolflbkaa

namespace Go.Proofs.Ytojebioolflbkaa
open Go.RowKit
theorem hex_le32 (r : List UInt8) : (bstr (hexOf (r.take 32))).size ≤ 140737488351232 := by
  show (hexOf (r.take 32)).toArray.size ≤ _
  rw [List.size_toArray, hexOf_len, List.length_take]; omega
theorem no_len : (⟨#[]⟩ : ByteArray).size ≤ 140737488351232 := by decide
theorem rb_parts {w : World} {a : Option Addr} {n c : Nat} {l : List UInt8} (h : RB w (.slice a n c) l) (h0 : 0 < l.length) : n ≤ c ∧ c ≤ 2 ^ 63 - 1 ∧ ∃ bb off, a = some ⟨bb, off, none⟩ := by
  obtain ⟨a9, c9, hv, hlc, hcm, -, -, hat⟩ := h
  cases hv
  obtain ⟨bb, off, e, -⟩ := hat 0 _ (List.getElem?_eq_getElem h0)
  exact ⟨hlc, hcm, bb, off, e⟩
theorem readText_any (l : List UInt8) : (readText l).1.size ≤ 2000 ∧ (readText l).2.1.length ≤ l.length := by
  refine ⟨?_, readText_rest_le l⟩
  unfold readText
  split
  · exact Nat.zero_le _
  · split
    · exact Nat.zero_le _
    · split
      · exact Nat.zero_le _
      · show (List.toArray _).size ≤ 2000
        rw [List.size_toArray, List.length_take]; omega
end Go.Proofs.Ytojebioolflbkaa
