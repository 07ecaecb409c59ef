/-
  Memory beside a map that a call turns: what reads goes on reading. The map of what is met.
-/
import Derived.Test.YtojebioolflbkaaGreatRfL
import Derived.Test.YtojebioolflbkaaGreatRch
import Derived.Test.YtojebioolflbkaaGreatCl
import Derived.Test.YtojebioolflbkaaGreatOwE
import Derived.Test.YtojebioolflbkaaGreatWrt
import Derived.OwnWalk
import Derived.StringKeys
namespace Go.Proofs.YtojebioolflbkaaGreat
open Go.RowKit Go.Maps

theorem grown_trans {a b c : World} {r : Option Nat} (h : a.grownBy b r) (g : b.grownBy c r) : a.grownBy c r :=
  ⟨g.os.trans h.os, g.tape.trans h.tape, g.output.trans h.output, Nat.le_trans h.size g.size, fun k hk hne => (g.block k (Nat.lt_of_lt_of_le hk h.size) hne).trans (h.block k hk hne)⟩
theorem below_grown {a b : World} (h : Below a.heap.size a b) (r : Option Nat) : a.grownBy b r := ⟨h.os, h.tape, h.output, h.size, fun k hk _ => h.block k hk⟩
/-- A block that holds a map. -/
def MapBox (w : World) (m : Nat) : Prop := ∃ es c, w.heap[m]? = some (.map es c)
theorem MapBox.ne {w : World} {m b o : Nat} {v : Value} (h : MapBox w m) (hc : w.cell? ⟨b, o, none⟩ = some v) : b ≠ m := by
  rintro rfl
  obtain ⟨es, c, hm⟩ := h
  simp [World.cell?, hm] at hc
theorem grown_cell {w w' : World} {m b o : Nat} {v : Value} (hg : w.grownBy w' (some m)) (hm : MapBox w m) (hb : b < w.heap.size) (hc : w.cell? ⟨b, o, none⟩ = some v) : w'.cell? ⟨b, o, none⟩ = some v :=
  (World.cell?_of_block (w := w) (hg.block b hb (by have := hm.ne hc; simp; omega))).trans hc
theorem RS.grownM {α : Type} {s bs : Nat} {E : World → Nat → Nat → α → Prop} {w w' : World} {v : Value} {l : List α} {m : Nat} (h : RS s bs E w v l) (hg : w.grownBy w' (some m))
    (hE : ∀ b o x, b < w.heap.size → E w b o x → E w' b o x) : RS s bs E w' v l := by
  obtain ⟨a, c, rfl, h1, h2, hb, hn, h3⟩ := h
  refine ⟨a, c, rfl, h1, h2, hb, hn, fun k x hk => ?_⟩
  obtain ⟨b, off, ha, hlt, he⟩ := h3 k x hk
  exact ⟨b, off, ha, Nat.lt_of_lt_of_le hlt hg.size, hE _ _ _ hlt he⟩
theorem RT.grownM {w w' : World} {v : Value} {l : List ByteArray} {m : Nat} (h : RT w v l) (hg : w.grownBy w' (some m)) (hm : MapBox w m) : RT w' v l :=
  RS.grownM h hg fun _ _ _ hb he => ⟨grown_cell hg hm hb he.1, he.2⟩
theorem map_keyS : Keyed Tryz.prog 9 := Maps.string_keyed Tryz.underlying9
theorem zero_boolS (w : World) : (zeroValue 4).run Tryz.prog w = .ok (.bool false) w := by kernel_rfl
theorem keyed_str {s : ByteArray} (h : s.size ≤ 140737488351232) : keyOf Tryz.prog 9 (.string s) = some (.string s.data.toList) := Go.WideMaps.keyOf_string_mk Tryz.underlying9 (by unfold maxLen; omega)
/-- Block b holds a map of the texts of a list. -/
def MetS (w : World) (b : Nat) (M : List ByteArray) : Prop := ∃ D : DataW Unit, w.ownsMap Tryz.prog 9 (plainElem Tryz.prog 4) b M.length D ∧ SeenS D M
theorem MetS.box {w : World} {b : Nat} {M : List ByteArray} (h : MetS w b M) : MapBox w b := by
  obtain ⟨D, h, -⟩ := h
  obtain ⟨es, clock, hb, -⟩ := h
  exact ⟨es, clock, hb⟩
theorem MetS.lt {w : World} {b : Nat} {M : List ByteArray} (h : MetS w b M) : b < w.heap.size := by
  obtain ⟨D, h, -⟩ := h
  exact h.lt
theorem MetS.after {w w' : World} {b : Nat} {M : List ByteArray} (h : MetS w b M) (hb : Below w.heap.size w w') : MetS w' b M := by
  have hlt := h.lt
  obtain ⟨D, h1, h2⟩ := h
  exact ⟨D, h1.kept (row := none) (below_grown hb none) (by simp), h2⟩
theorem MetS.made (w : World) : MetS (w.alloc (.map #[] 0)) w.heap.size [] := ⟨.map [], World.ownsMap_made w _ _ _, SeenS.nil⟩
end Go.Proofs.YtojebioolflbkaaGreat

namespace Go.Proofs.YtojebioolflbkaaGreat
open Go.RowKit Go.Maps

theorem box2g {w : World} {b : Nat} {c0 c1 : Value} {T : TypeId} (h : w.heap[b]? = some (.cells #[c0, c1] T (0, 0))) : w.cell? ⟨b, 0, none⟩ = some c0 ∧ w.cell? ⟨b, 1, none⟩ = some c1 :=
  ⟨cell_of_row _ _ 0 _ _ _ h, cell_of_row _ _ 1 _ _ _ h⟩
/-- A look-up in a map of bools that the call made, under a guard that holds. -/
theorem wpList_lookup_boolG {H : Type} {P : Program} (w : World) {ops : Array Oper} {rest : List Oper} {o : Oper} {a : Act} {Q : Exit → Act → World → Prop}
    (hg : Region.wanted o (yielded ops a.tmps) = true) (m x : Operand) (t : TypeId) (hop : o.op = Op.lookup t m x false)
    (k e : TypeId) (K : Keyed P k) (ht : P.underlying t = some (.map k e)) (he : P.underlying e = some .bool) (hz : (zeroValue e).run P w = .ok (.bool false) w) (b n : Nat) (D : DataW H)
    (hm : a.eval m = .map (some b)) (hown : w.ownsMap P k (plainElem P e) b n D) (key : Value) (kl : Lit) (hx : a.eval x = key) (hkey : keyOf P k key = some kl)
    (y : Bool) (hy : D.atKey kl (.lit (.bool false)) = .lit (.bool y)) (hK : wpList P ops Q rest (a.put o.dst (.bool y)) w) :
    wpList P ops Q (o :: rest) a w := by
  refine wpList_step fun K' hK' => ?_
  rw [if_pos hg]
  obtain ⟨v, ps, hrun, hv⟩ := hown.lookup K ht hz (plainElem_bool he false) hkey
  obtain ⟨c, rfl, hc⟩ : ∃ x, v = .bool x ∧ (DataW.lit (.bool y) : DataW H) = .lit (.bool x) := by
    unfold plainElem at hv
    rw [he] at hv
    cases v <;> simp at hv
    rename_i x
    exact ⟨x, rfl, by rw [← hy, hv.1]⟩
  have hcy : c = y := by simpa using hc.symm
  subst hcy
  unfold Oper.wp
  simp [execOp, hop, hm, hx, hrun, Result.andThen]
  exact hK' _ _ hK
theorem kids_le (l : List Blob) (d : ByteArray) : (kidsOf l d).length ≤ 8 ∧ ∀ y ∈ kidsOf l d, y.size ≤ 140737488351232 := by
  unfold kidsOf
  split
  · rename_i x _
    obtain ⟨h1, h2⟩ := decParts_len x.data
    refine ⟨by rw [List.length_map]; exact h1, fun y hy => ?_⟩
    obtain ⟨p, hp, rfl⟩ := List.mem_map.1 hy
    exact h2 p hp
  · exact ⟨by simp, fun y hy => by simp at hy⟩
theorem find_no {l : List Blob} {d : ByteArray} (h : ¬ InB l d) : findI (fun x : Blob => x.digest) d l = 0 ∧ findE (fun x : Blob => x.digest) d l = 5 := by
  have := atKey_le (fun x : Blob => x.digest) d l
  unfold InB at h
  unfold findI findE
  rw [if_pos (by omega), if_pos (by omega)]
  exact ⟨rfl, rfl⟩
theorem find_yes {l : List Blob} {d : ByteArray} (h : InB l d) : findI (fun x : Blob => x.digest) d l = (atKey (fun x : Blob => x.digest) d l : Int) ∧ findE (fun x : Blob => x.digest) d l = 0 := by
  unfold InB at h
  unfold findI findE
  rw [if_neg (by omega), if_neg (by omega)]
  exact ⟨rfl, rfl⟩
theorem rt_at {w : World} {a : Option Addr} {n c : Nat} {l : List ByteArray} (h : RT w (.slice a n c) l) {j : Nat} {x : ByteArray} (hj : l[j]? = some x) : ∃ b off, a = some ⟨b, off, none⟩ ∧ b < w.heap.size ∧ EStr w b (off + j * 1) x := by
  obtain ⟨_, _, hv, _, _, _, _, hat⟩ := h
  simp only [Value.slice.injEq] at hv
  obtain ⟨rfl, -, -⟩ := hv
  exact hat j x hj
end Go.Proofs.YtojebioolflbkaaGreat
