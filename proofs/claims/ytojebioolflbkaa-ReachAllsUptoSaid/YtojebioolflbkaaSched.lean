/-
  sha.rounds and sha.schedule: what each answers. Rows of words in blocks of their own.
-/
import Derived.Test.YtojebioolflbkaaSha
import Derived.Test.YtojebioolflbkaaWrd
import Derived.Laws.CopyOwn
import Derived.Laws.Tables
import Derived.Great.BuildSlice
import Derived.RegionTactic
import Derived.ChangeAlike
namespace Go.Proofs.Ytojebioolflbkaa
open Go.RowKit

/-- The words of a block's row. -/
def BW (w : World) (g : Nat) (t : TypeId) (l : List UInt32) : Prop := w.heap[g]? = some (.cells (l.flatMap cU32).toArray t (0, 0))
theorem fm32_len (l : List UInt32) : (l.flatMap cU32).length = l.length := by rw [flat_len (s := 1) (cells := cU32) (fun _ => rfl)]; omega
theorem BW.cell {w : World} {g : Nat} {t : TypeId} {l : List UInt32} (h : BW w g t l) (k : Nat) (x : UInt32) (hk : l[k]? = some x) : w.cell? ⟨g, k, none⟩ = some (.int .u32 (x.toNat : Int)) := by
  rw [cell_of_row w g k _ t (0, 0) h, List.getElem?_toArray, flat_get (cells := cU32) (fun _ => rfl) (by decide)]
  simp [hk, cU32, Nat.mod_one]
theorem BW.cellD {w : World} {g : Nat} {t : TypeId} {l : List UInt32} (h : BW w g t l) (k : Nat) (hk : k < l.length) : w.cell? ⟨g, k, none⟩ = some (.int .u32 ((l.getD k 0).toNat : Int)) :=
  h.cell k _ (by rw [List.getD_eq_getElem?_getD, List.getElem?_eq_getElem hk]; rfl)
theorem BW.frozen {w : World} {g : Nat} {t : TypeId} {l : List UInt32} (h : BW w g t l) (k : Nat) : w.frozen? ⟨g, k, none⟩ = false := frozen_of_row w g k _ t h
theorem BW.lt {w : World} {g : Nat} {t : TypeId} {l : List UInt32} (h : BW w g t l) : g < w.heap.size := (Array.getElem?_eq_some_iff.1 h).1
theorem BW.below {w w' : World} {g : Nat} {t : TypeId} {l : List UInt32} (h : BW w g t l) (hb : Below w.heap.size w w') : BW w' g t l := (hb.block g h.lt).trans h
theorem BW.set {w : World} {g : Nat} {t : TypeId} {l : List UInt32} (h : BW w g t l) (k : Nat) (y : UInt32) : BW (w.setCell ⟨g, k, none⟩ (.int .u32 (y.toNat : Int))) g t (l.set k y) := by
  unfold BW
  rw [heap_setCell_same w g k _ t _ h, ← flat1_set l k y (.int .u32 (y.toNat : Int)) (fun _ => rfl) rfl]
  simp
theorem BW.set_other {w : World} {g : Nat} {t : TypeId} {l : List UInt32} (h : BW w g t l) (a : Addr) (v : Value) (hne : g ≠ a.block) : BW (w.setCell a v) g t l := by
  unfold BW
  rw [heap_setCell_other w a g v hne]; exact h
theorem old_alloc (w : World) (o : Obj) (g : Nat) (h : g < w.heap.size) : (w.alloc o).heap[g]? = w.heap[g]? := ((Below.refl _ w).alloc (Nat.le_refl _) o).block g h
theorem BW.alloc {w : World} {g : Nat} {t : TypeId} {l : List UInt32} (h : BW w g t l) (o : Obj) : BW (w.alloc o) g t l := by
  unfold BW
  rw [old_alloc w o g h.lt]; exact h

def roundW : List UInt32 := [
  0x428a2f98, 0x71374491, 0xb5c0fbcf, 0xe9b5dba5, 0x3956c25b, 0x59f111f1, 0x923f82a4, 0xab1c5ed5,
  0xd807aa98, 0x12835b01, 0x243185be, 0x550c7dc3, 0x72be5d74, 0x80deb1fe, 0x9bdc06a7, 0xc19bf174,
  0xe49b69c1, 0xefbe4786, 0x0fc19dc6, 0x240ca1cc, 0x2de92c6f, 0x4a7484aa, 0x5cb0a9dc, 0x76f988da,
  0x983e5152, 0xa831c66d, 0xb00327c8, 0xbf597fc7, 0xc6e00bf3, 0xd5a79147, 0x06ca6351, 0x14292967,
  0x27b70a85, 0x2e1b2138, 0x4d2c6dfc, 0x53380d13, 0x650a7354, 0x766a0abb, 0x81c2c92e, 0x92722c85,
  0xa2bfe8a1, 0xa81a664b, 0xc24b8b70, 0xc76c51a3, 0xd192e819, 0xd6990624, 0xf40e3585, 0x106aa070,
  0x19a4c116, 0x1e376c08, 0x2748774c, 0x34b0bcb5, 0x391c0cb3, 0x4ed8aa4a, 0x5b9cca4f, 0x682e6ff3,
  0x748f82ee, 0x78a5636f, 0x84c87814, 0x8cc70208, 0x90befffa, 0xa4506ceb, 0xbef9a3f7, 0xc67178f2]
set_option maxRecDepth 100000 in
theorem roots_round : rootsRest 64 true 320 2 [] = roundW := by decide +kernel
theorem roundW_len : roundW.length = 64 := by decide
/-- A new block of an array. -/
theorem bw_new (w : World) (t : TypeId) (cs : Array Value) (l : List UInt32) (k : Nat) (hk : k = w.heap.size) (h : cs = (l.flatMap cU32).toArray) : BW (w.alloc (.cells cs t)) k t l := by
  subst hk h
  exact heap_alloc_new w _

/-- The words of an array's value. -/
def aggW (l : List UInt32) : Value := .agg (l.flatMap cU32).toArray

theorem fm32_map (l : List UInt32) : ((l.map fun x => (x.toNat : Int)).map (Value.int .u32)) = l.flatMap cU32 := by
  induction l with
  | nil => rfl
  | cons x l ih => rw [List.flatMap_cons, ← ih]; rfl
theorem fm32_one (l : List UInt32) : (l.flatMap cU32).toArray.all (·.oneCell') = true := by
  rw [Array.all_eq_true_iff_forall_mem]
  intro u hu
  obtain ⟨x, _, hx⟩ := List.mem_flatMap.1 (List.mem_toArray.1 hu)
  exact flat_u32.one x u hx
theorem setRow_bw {w : World} {g : Nat} {t : TypeId} {old l : List UInt32} (h : BW w g t old) : BW (w.setRow g (l.flatMap cU32).toArray) g t l := setRow_heap w g _ _ t _ h
def zero64 : List UInt32 := List.replicate 64 0
theorem zero64_cells : (#[Value.int IntKind.u32 0, Value.int IntKind.u32 0, Value.int IntKind.u32 0, Value.int IntKind.u32 0, Value.int IntKind.u32 0, Value.int IntKind.u32 0, Value.int IntKind.u32 0, Value.int IntKind.u32 0, Value.int IntKind.u32 0, Value.int IntKind.u32 0, Value.int IntKind.u32 0, Value.int IntKind.u32 0, Value.int IntKind.u32 0, Value.int IntKind.u32 0, Value.int IntKind.u32 0, Value.int IntKind.u32 0, Value.int IntKind.u32 0, Value.int IntKind.u32 0, Value.int IntKind.u32 0, Value.int IntKind.u32 0, Value.int IntKind.u32 0, Value.int IntKind.u32 0, Value.int IntKind.u32 0, Value.int IntKind.u32 0, Value.int IntKind.u32 0, Value.int IntKind.u32 0, Value.int IntKind.u32 0, Value.int IntKind.u32 0, Value.int IntKind.u32 0, Value.int IntKind.u32 0, Value.int IntKind.u32 0, Value.int IntKind.u32 0, Value.int IntKind.u32 0, Value.int IntKind.u32 0, Value.int IntKind.u32 0, Value.int IntKind.u32 0, Value.int IntKind.u32 0, Value.int IntKind.u32 0, Value.int IntKind.u32 0, Value.int IntKind.u32 0, Value.int IntKind.u32 0, Value.int IntKind.u32 0, Value.int IntKind.u32 0, Value.int IntKind.u32 0, Value.int IntKind.u32 0, Value.int IntKind.u32 0, Value.int IntKind.u32 0, Value.int IntKind.u32 0, Value.int IntKind.u32 0, Value.int IntKind.u32 0, Value.int IntKind.u32 0, Value.int IntKind.u32 0, Value.int IntKind.u32 0, Value.int IntKind.u32 0, Value.int IntKind.u32 0, Value.int IntKind.u32 0, Value.int IntKind.u32 0, Value.int IntKind.u32 0, Value.int IntKind.u32 0, Value.int IntKind.u32 0, Value.int IntKind.u32 0, Value.int IntKind.u32 0, Value.int IntKind.u32 0, Value.int IntKind.u32 0] : Array Value) = (zero64.flatMap cU32).toArray := by kernel_rfl

def nextW (w : List UInt32) : UInt32 := w.getD (w.length - 16) 0 + mixW (w.getD (w.length - 15) 0) 2 + w.getD (w.length - 7) 0 + mixW (w.getD (w.length - 2) 0) 3
def schedN : Nat → List UInt32 → List UInt32
  | 0, w => w
  | n + 1, w => schedN n (w ++ [nextW w])
/-- The 64 words of a block's 16. -/
def sched (b : List UInt32) : List UInt32 := schedN 48 b
theorem schedN_len : ∀ (n : Nat) (w : List UInt32), (schedN n w).length = w.length + n
  | 0, w => rfl
  | n + 1, w => by rw [schedN, schedN_len n]; simp; omega
theorem getD_pre (l m : List UInt32) (k : Nat) (h : k < l.length) : (l ++ m).getD k 0 = l.getD k 0 := by
  rw [List.getD_eq_getElem?_getD, List.getD_eq_getElem?_getD, List.getElem?_append_left h]
theorem BW.pre {w : World} {g : Nat} {t : TypeId} {l m : List UInt32} (h : BW w g t (l ++ m)) (k : Nat) (hk : k < l.length) : w.cell? ⟨g, k, none⟩ = some (.int .u32 ((l.getD k 0).toNat : Int)) := by
  have := h.cellD k (by rw [List.length_append]; omega)
  rwa [getD_pre l m k hk] at this
theorem zeros_set (wl : List UInt32) (y : UInt32) (h : wl.length < 64) : (wl ++ List.replicate (64 - wl.length) 0).set wl.length y = (wl ++ [y]) ++ List.replicate (64 - (wl ++ [y]).length) 0 := by
  obtain ⟨q, hq⟩ : ∃ q, 64 - wl.length = q + 1 := ⟨64 - wl.length - 1, by omega⟩
  rw [List.set_append_right _ _ (Nat.le_refl _), Nat.sub_self, hq, List.replicate_succ, List.set_cons_zero, List.length_append, List.length_singleton, show 64 - (wl.length + 1) = q by omega, List.append_assoc]
  rfl
/-- The words that are reckoned so far come out as all. -/
def SchedInv (SL wl : List UInt32) : Prop := SL = schedN (64 - wl.length) wl
theorem sched_next {SL wl : List UInt32} {x16 x15 x7 x2 : UInt32} (h : SchedInv SL wl) (hlt : wl.length < 64) (h16 : wl.getD (wl.length - 16) 0 = x16) (h15 : wl.getD (wl.length - 15) 0 = x15) (h7 : wl.getD (wl.length - 7) 0 = x7) (h2 : wl.getD (wl.length - 2) 0 = x2) :
    SchedInv SL (wl ++ [x16 + mixW x15 2 + x7 + mixW x2 3]) := by
  unfold SchedInv at h ⊢
  obtain ⟨q, hq⟩ : ∃ q, 64 - wl.length = q + 1 := ⟨64 - wl.length - 1, by omega⟩
  rw [hq, schedN] at h
  rw [List.length_append, List.length_singleton, show 64 - (wl.length + 1) = q by omega, h]
  unfold nextW
  rw [h16, h15, h7, h2]

theorem sum4 (a b c d : UInt32) : ((a.toNat : Int) + (b.toNat : Int) + (c.toNat : Int) + (d.toNat : Int)) % 4294967296 = ((a + b + c + d).toNat : Int) := by
  simp only [UInt32.toNat_add]
  omega

end Go.Proofs.Ytojebioolflbkaa
