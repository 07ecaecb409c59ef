/-
  What stats tell: a numeral as a text, and what the closure of stats.Lines says.
-/
import Derived.Test.YtpcnhldlfmdlhaaGreatDoorSxShelf
import Derived.Test.YtpcnhldlfmdlhaaGreatDoorSxBas
import Derived.Lib.ItoaLen
namespace Go.Proofs.YtpcnhldlfmdlhaaGreatDoor
open Go.RowKit

/-- The library's table of powers of ten. -/
def Pow10 (w : World) : Prop := Lib.TabIs Tryz.prog w "internal/strconv.uint64pow10" .u64 Lib.pow10Tab
theorem tab_below {w w' : World} (h : Pow10 w) (hb : Below w.heap.size w w') : Pow10 w' := by
  unfold Pow10 Lib.TabIs World.var? at *
  generalize Tryz.prog.globalNamed "internal/strconv.uint64pow10" = o at *
  generalize (Lib.pow10Tab.map fun z => Value.int .u64 z).toArray = V at *
  cases o with
  | none => exact h
  | some g =>
    simp only [Option.bind_some] at h ⊢
    by_cases hg : g < w.heap.size
    · rw [hb.block g hg]; exact h
    · rw [Array.getElem?_eq_none (by omega)] at h
      cases h
def numB (n : Int) : ByteArray := ⟨(Lib.itoa n).toArray⟩
def sayB (what : ByteArray) (n m : Int) : ByteArray := (((what ++ ⟨#[32]⟩) ++ numB n) ++ ⟨#[32, 111, 102, 32]⟩) ++ numB m
def I64 (n : Int) : Prop := -9223372036854775808 ≤ n ∧ n ≤ 9223372036854775807
theorem i64_nat {n : Nat} (h : n ≤ 9223372036854775807) : I64 (n : Int) := ⟨by omega, by omega⟩
theorem itoa_any (n : Int) (h : I64 n) (w : World) (ht : Pow10 w) : Calls Tryz.prog 12 #[.int .i64 n] w fun e w' => e = .returned (.string (numB n)) ∧ Below w.heap.size w w' := by
  refine (Tryz.strconv_Itoa n h.1 h.2 w ht).mono fun e w' ⟨h, k, os, hw⟩ => ⟨h, ?_⟩
  subst hw
  refine ⟨rfl, rfl, rfl, by show w.heap.size ≤ (w.heap ++ os).size; rw [Array.size_append]; omega, fun j hj => ?_⟩
  show (w.heap ++ os)[j]? = w.heap[j]?
  rw [Array.getElem?_append_left hj]
theorem numB_size {n : Int} (h : I64 n) : (numB n).size ≤ 21 := Lib.itoa_length_le n h.1 h.2
def SayPost (s : ByteArray) (w : World) (e : Ending) (w' : World) : Prop := e = .returned (.string s) ∧ Below w.heap.size w w'
theorem stats_say (what : ByteArray) (n m : Int) (hn : I64 n) (hm : I64 m) (hw : what.size ≤ 20) (w : World) (ht : Pow10 w) : Calls Tryz.prog 11 #[.string what, .int .i64 n, .int .i64 m] w (SayPost (sayB what n m) w) := by
  have f1 := hid (itoa_any n hn)
  have f2 := hid (itoa_any m hm)
  replace ht := hid ht
  have n1 := numB_size hn
  have n2 := numB_size hm
  clear hn hm
  go_enter Tryz.func11, Tryz.ntmps11
  go_wp2_with fail
  ((with_reducible refine (f1.out _ ht.out).mono ?_); rintro e1 w1 ⟨rfl, b1⟩)
  have ht1 := hid (tab_below ht.out b1)
  go_wp2_with fail
  ((with_reducible refine (f2.out _ ht1.out).mono ?_); rintro e2 w2 ⟨rfl, b2⟩)
  go_wp2_with fail
  go_ret
  exact ⟨rfl, b_call b1 b2⟩
end Go.Proofs.YtpcnhldlfmdlhaaGreatDoor
