/-
  sha.rounds and sha.schedule: what each answers. Rows of words in blocks of their own.
-/
import Derived.Test.YtojebioolflbkaaGreatSha
import Derived.Test.YtojebioolflbkaaGreatWrd
import Derived.Laws.CopyOwn
import Derived.Laws.Tables
import Derived.Great.BuildSlice
import Derived.RegionTactic
import Derived.ChangeAlike
namespace Go.Proofs.YtojebioolflbkaaGreat
open Go.RowKit

/-- The words of a block's row. -/
def BW (w : World) (g : Nat) (t : TypeId) (l : List UInt32) : Prop := w.heap[g]? = some (.cells (l.flatMap cU32).toArray t (0, 0))
theorem fm32_len (l : List UInt32) : (l.flatMap cU32).length = l.length := by rw [flat_len (s := 1) (cells := cU32) (fun _ => rfl)]; omega
theorem BW.cell {w : World} {g : Nat} {t : TypeId} {l : List UInt32} (h : BW w g t l) (k : Nat) (x : UInt32) (hk : l[k]? = some x) : w.cell? ⟨g, k, none⟩ = some (.int .u32 (x.toNat : Int)) := by
  rw [cell_of_row w g k _ t (0, 0) h, List.getElem?_toArray, flat_get (cells := cU32) (fun _ => rfl) (by decide)]
  simp [hk, cU32, Nat.mod_one]
theorem BW.cellD {w : World} {g : Nat} {t : TypeId} {l : List UInt32} (h : BW w g t l) (k : Nat) (hk : k < l.length) : w.cell? ⟨g, k, none⟩ = some (.int .u32 ((l.getD k 0).toNat : Int)) :=
  h.cell k _ (by rw [List.getD_eq_getElem?_getD, List.getElem?_eq_getElem hk]; rfl)
theorem BW.frozen {w : World} {g : Nat} {t : TypeId} {l : List UInt32} (h : BW w g t l) (k : Nat) : w.frozen? ⟨g, k, none⟩ = false := frozen_of_row w g k _ t h
theorem BW.lt {w : World} {g : Nat} {t : TypeId} {l : List UInt32} (h : BW w g t l) : g < w.heap.size := (Array.getElem?_eq_some_iff.1 h).1
theorem BW.below {w w' : World} {g : Nat} {t : TypeId} {l : List UInt32} (h : BW w g t l) (hb : Below w.heap.size w w') : BW w' g t l := (hb.block g h.lt).trans h
theorem BW.set {w : World} {g : Nat} {t : TypeId} {l : List UInt32} (h : BW w g t l) (k : Nat) (y : UInt32) : BW (w.setCell ⟨g, k, none⟩ (.int .u32 (y.toNat : Int))) g t (l.set k y) := by
  unfold BW
  rw [heap_setCell_same w g k _ t _ h, ← flat1_set l k y (.int .u32 (y.toNat : Int)) (fun _ => rfl) rfl]
  simp
theorem BW.set_other {w : World} {g : Nat} {t : TypeId} {l : List UInt32} (h : BW w g t l) (a : Addr) (v : Value) (hne : g ≠ a.block) : BW (w.setCell a v) g t l := by
  unfold BW
  rw [heap_setCell_other w a g v hne]; exact h
theorem old_alloc (w : World) (o : Obj) (g : Nat) (h : g < w.heap.size) : (w.alloc o).heap[g]? = w.heap[g]? := ((Below.refl _ w).alloc (Nat.le_refl _) o).block g h
theorem BW.alloc {w : World} {g : Nat} {t : TypeId} {l : List UInt32} (h : BW w g t l) (o : Obj) : BW (w.alloc o) g t l := by
  unfold BW
  rw [old_alloc w o g h.lt]; exact h

def roundW : List UInt32 := [
  0x428a2f98, 0x71374491, 0xb5c0fbcf, 0xe9b5dba5, 0x3956c25b, 0x59f111f1, 0x923f82a4, 0xab1c5ed5,
  0xd807aa98, 0x12835b01, 0x243185be, 0x550c7dc3, 0x72be5d74, 0x80deb1fe, 0x9bdc06a7, 0xc19bf174,
  0xe49b69c1, 0xefbe4786, 0x0fc19dc6, 0x240ca1cc, 0x2de92c6f, 0x4a7484aa, 0x5cb0a9dc, 0x76f988da,
  0x983e5152, 0xa831c66d, 0xb00327c8, 0xbf597fc7, 0xc6e00bf3, 0xd5a79147, 0x06ca6351, 0x14292967,
  0x27b70a85, 0x2e1b2138, 0x4d2c6dfc, 0x53380d13, 0x650a7354, 0x766a0abb, 0x81c2c92e, 0x92722c85,
  0xa2bfe8a1, 0xa81a664b, 0xc24b8b70, 0xc76c51a3, 0xd192e819, 0xd6990624, 0xf40e3585, 0x106aa070,
  0x19a4c116, 0x1e376c08, 0x2748774c, 0x34b0bcb5, 0x391c0cb3, 0x4ed8aa4a, 0x5b9cca4f, 0x682e6ff3,
  0x748f82ee, 0x78a5636f, 0x84c87814, 0x8cc70208, 0x90befffa, 0xa4506ceb, 0xbef9a3f7, 0xc67178f2]
set_option maxRecDepth 100000 in
theorem roots_round : rootsRest 64 true 320 2 [] = roundW := by decide +kernel
theorem roundW_len : roundW.length = 64 := by decide
theorem arr_len : Tryz.prog.arrayLen 210 = 64 := by kernel_rfl
theorem arr_elem : Tryz.prog.elem 210 = 161 := by kernel_rfl
theorem arr_desc : Tryz.prog.underlying 210 = some (.array 64 161) := by kernel_rfl
theorem info_arr : (Tryz.prog.info? 210).map (·.size) = some 64 := by kernel_rfl

/-- A new block of an array. -/
theorem bw_new (w : World) (t : TypeId) (cs : Array Value) (l : List UInt32) (k : Nat) (hk : k = w.heap.size) (h : cs = (l.flatMap cU32).toArray) : BW (w.alloc (.cells cs t)) k t l := by
  subst hk h
  exact heap_alloc_new w _

/-- The words of an array's value. -/
def aggW (l : List UInt32) : Value := .agg (l.flatMap cU32).toArray

theorem fm32_map (l : List UInt32) : ((l.map fun x => (x.toNat : Int)).map (Value.int .u32)) = l.flatMap cU32 := by
  induction l with
  | nil => rfl
  | cons x l ih => rw [List.flatMap_cons, ← ih]; rfl
theorem fm32_one (l : List UInt32) : (l.flatMap cU32).toArray.all (·.oneCell') = true := by
  rw [Array.all_eq_true_iff_forall_mem]
  intro u hu
  obtain ⟨x, _, hx⟩ := List.mem_flatMap.1 (List.mem_toArray.1 hu)
  exact flat_u32.one x u hx
theorem setRow_bw {w : World} {g : Nat} {t : TypeId} {old l : List UInt32} (h : BW w g t old) : BW (w.setRow g (l.flatMap cU32).toArray) g t l := setRow_heap w g _ _ t _ h
def zero64 : List UInt32 := List.replicate 64 0
theorem zero64_cells : (#[Value.int IntKind.u32 0, Value.int IntKind.u32 0, Value.int IntKind.u32 0, Value.int IntKind.u32 0, Value.int IntKind.u32 0, Value.int IntKind.u32 0, Value.int IntKind.u32 0, Value.int IntKind.u32 0, Value.int IntKind.u32 0, Value.int IntKind.u32 0, Value.int IntKind.u32 0, Value.int IntKind.u32 0, Value.int IntKind.u32 0, Value.int IntKind.u32 0, Value.int IntKind.u32 0, Value.int IntKind.u32 0, Value.int IntKind.u32 0, Value.int IntKind.u32 0, Value.int IntKind.u32 0, Value.int IntKind.u32 0, Value.int IntKind.u32 0, Value.int IntKind.u32 0, Value.int IntKind.u32 0, Value.int IntKind.u32 0, Value.int IntKind.u32 0, Value.int IntKind.u32 0, Value.int IntKind.u32 0, Value.int IntKind.u32 0, Value.int IntKind.u32 0, Value.int IntKind.u32 0, Value.int IntKind.u32 0, Value.int IntKind.u32 0, Value.int IntKind.u32 0, Value.int IntKind.u32 0, Value.int IntKind.u32 0, Value.int IntKind.u32 0, Value.int IntKind.u32 0, Value.int IntKind.u32 0, Value.int IntKind.u32 0, Value.int IntKind.u32 0, Value.int IntKind.u32 0, Value.int IntKind.u32 0, Value.int IntKind.u32 0, Value.int IntKind.u32 0, Value.int IntKind.u32 0, Value.int IntKind.u32 0, Value.int IntKind.u32 0, Value.int IntKind.u32 0, Value.int IntKind.u32 0, Value.int IntKind.u32 0, Value.int IntKind.u32 0, Value.int IntKind.u32 0, Value.int IntKind.u32 0, Value.int IntKind.u32 0, Value.int IntKind.u32 0, Value.int IntKind.u32 0, Value.int IntKind.u32 0, Value.int IntKind.u32 0, Value.int IntKind.u32 0, Value.int IntKind.u32 0, Value.int IntKind.u32 0, Value.int IntKind.u32 0, Value.int IntKind.u32 0, Value.int IntKind.u32 0] : Array Value) = (zero64.flatMap cU32).toArray := by kernel_rfl

set_option maxRecDepth 100000 in
set_option maxHeartbeats 2000000 in
theorem sha_rounds (w : World) : Calls Tryz.prog 201 #[] w fun e w' => e = .returned (aggW roundW) ∧ Below w.heap.size w w' := by
  go_enter Tryz.func201, Tryz.ntmps201
  go_wp2_with (first
    | (refine wpList_buildFlatArr rfl 210 161 64 _ rfl .u32 (roundW.map fun x => (x.toNat : Int)) Tryz.underlying210 (by kernel_rfl) (by kernel_rfl) (by kernel_rfl) ?_)
    | (refine wpList_store_row rfl 210 (.tmp 0) (.tmp 1) rfl w.heap.size _ rfl rfl 210 _ (heap_alloc_new w _) (by kernel_rfl) (by kernel_rfl) (by kernel_rfl) ?_))
  rw [fm32_map]
  refine bodyPost_ret (v := aggW roundW) (results_cell_row Tryz.results201 _ _ w.heap.size 210 _ (0, 0) _ rfl (setRow_bw (bw_new w _ _ zero64 _ rfl zero64_cells)) Tryz.underlying210 rfl (by kernel_rfl)) rfl ⟨rfl, below_setRow (b_alloc (Below.refl _ _) _) (Nat.le_refl _) _⟩

def nextW (w : List UInt32) : UInt32 := w.getD (w.length - 16) 0 + mixW (w.getD (w.length - 15) 0) 2 + w.getD (w.length - 7) 0 + mixW (w.getD (w.length - 2) 0) 3
def schedN : Nat → List UInt32 → List UInt32
  | 0, w => w
  | n + 1, w => schedN n (w ++ [nextW w])
/-- The 64 words of a block's 16. -/
def sched (b : List UInt32) : List UInt32 := schedN 48 b
theorem schedN_len : ∀ (n : Nat) (w : List UInt32), (schedN n w).length = w.length + n
  | 0, w => rfl
  | n + 1, w => by rw [schedN, schedN_len n]; simp; omega
theorem getD_pre (l m : List UInt32) (k : Nat) (h : k < l.length) : (l ++ m).getD k 0 = l.getD k 0 := by
  rw [List.getD_eq_getElem?_getD, List.getD_eq_getElem?_getD, List.getElem?_append_left h]
theorem BW.pre {w : World} {g : Nat} {t : TypeId} {l m : List UInt32} (h : BW w g t (l ++ m)) (k : Nat) (hk : k < l.length) : w.cell? ⟨g, k, none⟩ = some (.int .u32 ((l.getD k 0).toNat : Int)) := by
  have := h.cellD k (by rw [List.length_append]; omega)
  rwa [getD_pre l m k hk] at this
theorem zeros_set (wl : List UInt32) (y : UInt32) (h : wl.length < 64) : (wl ++ List.replicate (64 - wl.length) 0).set wl.length y = (wl ++ [y]) ++ List.replicate (64 - (wl ++ [y]).length) 0 := by
  obtain ⟨q, hq⟩ : ∃ q, 64 - wl.length = q + 1 := ⟨64 - wl.length - 1, by omega⟩
  rw [List.set_append_right _ _ (Nat.le_refl _), Nat.sub_self, hq, List.replicate_succ, List.set_cons_zero, List.length_append, List.length_singleton, show 64 - (wl.length + 1) = q by omega, List.append_assoc]
  rfl
/-- The words that are reckoned so far come out as all. -/
def SchedInv (SL wl : List UInt32) : Prop := SL = schedN (64 - wl.length) wl
theorem sched_next {SL wl : List UInt32} {x16 x15 x7 x2 : UInt32} (h : SchedInv SL wl) (hlt : wl.length < 64) (h16 : wl.getD (wl.length - 16) 0 = x16) (h15 : wl.getD (wl.length - 15) 0 = x15) (h7 : wl.getD (wl.length - 7) 0 = x7) (h2 : wl.getD (wl.length - 2) 0 = x2) :
    SchedInv SL (wl ++ [x16 + mixW x15 2 + x7 + mixW x2 3]) := by
  unfold SchedInv at h ⊢
  obtain ⟨q, hq⟩ : ∃ q, 64 - wl.length = q + 1 := ⟨64 - wl.length - 1, by omega⟩
  rw [hq, schedN] at h
  rw [List.length_append, List.length_singleton, show 64 - (wl.length + 1) = q by omega, h]
  unfold nextW
  rw [h16, h15, h7, h2]

theorem sum4 (a b c d : UInt32) : ((a.toNat : Int) + (b.toNat : Int) + (c.toNat : Int) + (d.toNat : Int)) % 4294967296 = ((a + b + c + d).toNat : Int) := by
  simp only [UInt32.toNat_add]
  omega

set_option maxRecDepth 100000 in
set_option maxHeartbeats 1000000 in
theorem sha_schedule' (SL : List UInt32) (v : Value) (l : List UInt32) (w : World) (hl : RW w v l) (h16 : l.length = 16) (hsc : SchedInv SL l) :
    Calls Tryz.prog 202 #[v] w fun e w' => e = .returned (aggW SL) ∧ Below w.heap.size w w' := by
  have hR := hl
  rcases hl.cells flat_u32 with ⟨rfl, rfl⟩ | ⟨ad, c, rfl, hc⟩
  · simp at h16
  rw [h16] at hR
  rw [h16]
  replace h16 := hid h16
  have hblk : ad.block < w.heap.size := by
    obtain ⟨a0, c0, hv, -, -, -, -, hat⟩ := hR
    simp only [Value.slice.injEq] at hv
    obtain ⟨b, off, hb, hlt, -⟩ := hat 0 (l.getD 0 0) (by rw [List.getD_eq_getElem?_getD, List.getElem?_eq_getElem (by have := h16.out; omega)]; rfl)
    rw [hv.1.symm] at hb
    simp only [Option.some.injEq] at hb
    rw [hb]; exact hlt
  have hsrc : Hid (∀ (W : World), Below w.heap.size w W → ∀ (j : Nat) (u : Value), (l.flatMap cU32)[j]? = some u → W.cell? (ad.add j) = some u) := hid (fun W hW j u hj => by
    have h1 := hc j u hj
    have h2 : (ad.add j).block = ad.block := by unfold Addr.add; split <;> rfl
    rw [← h1]
    exact hW.cell (by rw [h2]; exact hblk))
  have hfl : (l.flatMap cU32).length = 16 := by rw [fm32_len, h16.out]
  have hal := arr_len
  have hel := arr_elem
  obtain ⟨CS, hCS⟩ : ∃ CS, Hid (CS = l.flatMap cU32) := ⟨_, hid rfl⟩
  rw [← hCS.out] at hsrc hfl
  clear hc hR
  go_enter Tryz.func202, Tryz.ntmps202
  obtain ⟨WA, hWA⟩ : ∃ WA, Hid (WA = w.alloc (.cells (zero64.flatMap cU32).toArray 210)) := ⟨_, hid rfl⟩
  go_wp2_with (with_reducible refine wpList_copy_splice rfl (.tmp 9) (.tmp 10) 199 199 rfl 161 Tryz.underlying199 (by kernel_rfl) _ _ 64 64 16 c rfl rfl (w.heap.size + 1) 0 (zero64.flatMap cU32) 210 ?d1 CS ?d2 ?d3 ?d4 ?d5 (w.heap.size + 1) WA ?d6 (Nat.le_refl _) ?_)
  case d1 => exact (heap_alloc2_new w _ _).trans (by rw [zero64_cells])
  case d2 => rw [hfl]; rfl
  case d3 => exact fun j v hv => hsrc.out _ (b_alloc (b_alloc (Below.refl _ _) _) _) j v hv
  case d4 => rw [hfl]; decide
  case d5 => exact fun u hu => by rw [hCS.out] at hu; obtain ⟨x, _, hx⟩ := List.mem_flatMap.1 hu; exact flat_u32.one x u hx
  case d6 => rw [hWA.out, zero64_cells]; exact (Below.refl _ _).alloc (by simp) _
  intro W1 hrow hbel
  have hrow1 : BW W1 (w.heap.size + 1) 210 (l ++ List.replicate (64 - l.length) 0) := by
    have h1 := hrow.out
    unfold BW
    rw [h1]
    have h2 : splice (zero64.flatMap cU32) 0 CS = (l ++ List.replicate (64 - l.length) 0).flatMap cU32 := by
      unfold splice
      rw [hfl, hCS.out, List.flatMap_append, h16.out]
      rfl
    rw [h2]
  have h16' := hid h16.out
  clear hrow
  go_wp2_with fail
  go_loopw [4, 5, 6, 7, 8] (fun i _ _ _ _ wr => ∃ (wl : List UInt32), i = .int .i64 (wl.length : Int) ∧ 16 ≤ wl.length ∧ wl.length ≤ 64 ∧ SchedInv SL wl ∧ BW wr (w.heap.size + 1) 210 (wl ++ List.replicate (64 - wl.length) 0) ∧ Below (w.heap.size + 1) WA wr) (fun i _ _ _ _ _ => 64 - (intOf i).toNat)
  case atStart => exact ⟨l, by rw [h16'.out]; rfl, by rw [h16'.out]; decide, by rw [h16'.out]; decide, hsc, hrow1, hbel⟩
  case round =>
    obtain ⟨wl, rfl, hlo, hhi, hsc, hrow, hb⟩ := hrel
    by_cases hlt : wl.length < 64
    · have c15 := hrow.pre (wl.length - 15) (by omega)
      have c2 := hrow.pre (wl.length - 2) (by omega)
      have c16 := hrow.pre (wl.length - 16) (by omega)
      have c7 := hrow.pre (wl.length - 7) (by omega)
      have hg := hrow.lt
      generalize h16 : wl.getD (wl.length - 16) 0 = x16 at c16
      generalize h15 : wl.getD (wl.length - 15) 0 = x15 at c15
      generalize h7 : wl.getD (wl.length - 7) 0 = x7 at c7
      generalize h2 : wl.getD (wl.length - 2) 0 = x2 at c2
      have hnx := sched_next hsc hlt h16 h15 h7 h2
      clear h16 h15 h7 h2
      clear hsc hrow1 hbel
      clear hsc
      replace hnx := hid hnx
      replace hrow := hid hrow
      replace hb := hid hb
      go_wp2_with fail
      ((with_reducible refine (word_Mix x15 2 _ (by decide) (by decide)).mono ?_); rintro e w1 ⟨rfl, b1⟩)
      obtain ⟨bc1, bf1⟩ := bcell b1
      have hrow1 := hid (hrow.out.below b1)
      have hg1 := hrow1.out.lt
      go_wp2_with fail
      ((with_reducible refine (word_Mix x2 3 _ (by decide) (by decide)).mono ?_); rintro e w2 ⟨rfl, b2⟩)
      have hrow2 := hrow1.out.below b2
      have d16 : w2.cell? ⟨w.heap.size + 1, wl.length - 16, none⟩ = some (.int .u32 (x16.toNat : Int)) := cell_stays b2 hg1 (cell_stays b1 hg c16)
      have d7 : w2.cell? ⟨w.heap.size + 1, wl.length - 7, none⟩ = some (.int .u32 (x7.toNat : Int)) := cell_stays b2 hg1 (cell_stays b1 hg c7)
      have d0 := hrow2.cell wl.length 0 (by rw [List.getElem?_append_right (Nat.le_refl _), Nat.sub_self, List.getElem?_replicate, if_pos (by omega)])
      have df := hrow2.frozen wl.length
      have hbel2 := (hb.out.trans (b1.mono (by omega))).trans (b2.mono (by omega))
      replace hrow2 := hid hrow2
      replace hbel2 := hid hbel2
      clear bc1 bf1 c15 c2 c16 c7 hrow hrow1 b1 b2 hb
      have q1 : IntKind.i64.wrap ((wl.length : Int) - 16) = (wl.length : Int) - 16 := IntWalk.i64_in _ (by omega)
      have q2 : IntKind.i64.wrap ((wl.length : Int) - 7) = (wl.length : Int) - 7 := IntWalk.i64_in _ (by omega)
      have q3 : ((wl.length : Int) - 16).toNat = wl.length - 16 := by omega
      have q4 : ((wl.length : Int) - 7).toNat = wl.length - 7 := by omega
      have q5 : (16 : Int) ≤ (wl.length : Int) := by omega
      have q6 : (7 : Int) ≤ (wl.length : Int) := by omega
      have q7 : (wl.length : Int) - 16 < 64 := by omega
      have q8 : (wl.length : Int) - 7 < 64 := by omega
      have q9 : (0 : Int) ≤ (wl.length : Int) - 16 := by omega
      have q10 : (0 : Int) ≤ (wl.length : Int) - 7 := by omega
      have q11 : (wl.length : Int) < 64 := by omega
      go_wp2_with fail
      go_region
      have hv := sum4 x16 (mixW x15 2) x7 (mixW x2 3)
      have hrow3 := hrow2.out.set wl.length (x16 + mixW x15 2 + x7 + mixW x2 3)
      rw [zeros_set wl _ hlt] at hrow3
      have hbel3 := hid (hbel2.out.setCell (p := ⟨w.heap.size + 1, wl.length, none⟩) (Nat.le_refl _) (.int .u32 (((x16.toNat : Int) + ((mixW x15 2).toNat : Int) + (x7.toNat : Int) + ((mixW x2 3).toNat : Int)) % 4294967296)))
      rw [← hv] at hrow3
      replace hrow3 := hid hrow3
      replace hv := hid hv
      clear q1 q2 q3 q4 q5 q6 q7 q8 q9 q10 q11 hrow2 hbel2 d16 d7 d0 df
      go_wp2_with fail
      go_roundw
      case rel => exact ⟨wl ++ [x16 + mixW x15 2 + x7 + mixW x2 3], by simp, by simp; omega, by simp; omega, hnx.out, hrow3.out, Below.drew hbel3.out⟩
      case measure => simp [intOf]; omega
    · have hlen : wl.length = 64 := by omega
      have hS : SL = wl := by unfold SchedInv at hsc; rw [hsc, hlen]; rfl
      rw [hlen, show 64 - 64 = 0 from rfl, List.replicate_zero, List.append_nil, ← hS] at hrow
      have hsz : (SL.flatMap cU32).toArray.size = 64 := by rw [List.size_toArray, fm32_len, hS, hlen]
      have hA : BW wr w.heap.size 210 zero64 := by
        unfold BW
        rw [hb.block w.heap.size (by omega), hWA.out]
        exact bw_new w _ _ _ _ rfl rfl
      have hbw : Below w.heap.size w wr := by
        have h1 := hb.mono (show w.heap.size ≤ w.heap.size + 1 by omega)
        rw [hWA.out] at h1
        exact (b_alloc (Below.refl _ w) _).trans h1
      replace hrow := hid hrow
      replace hA := hid hA
      replace hb := hid hbw
      replace hsz := hid hsz
      replace hS := hid hS
      replace hlen := hid hlen
      clear hsc hrow1 hbel hbw
      clear hsc
      go_wp2_with (first
        | (refine wpList_load_row rfl 210 (.tmp 3) rfl (w.heap.size + 1) rfl 210 _ (0, 0) _ hrow.out Tryz.underlying210 rfl (by rw [hsz.out]; kernel_rfl) ?_)
        | (refine wpList_store_row rfl 210 (.tmp 2) (.tmp 47) rfl w.heap.size _ rfl rfl 210 _ hA.out (by rw [hsz.out]; kernel_rfl) (by rw [hsz.out]; decide) (fm32_one SL) ?_))
      refine bodyPost_ret (v := aggW SL) (results_cell_row Tryz.results202 _ _ w.heap.size 210 _ (0, 0) _ rfl (setRow_bw hA.out) Tryz.underlying210 rfl (by rw [hsz.out]; kernel_rfl)) rfl ⟨rfl, below_setRow hb.out (Nat.le_refl _) _⟩

theorem sha_schedule (v : Value) (l : List UInt32) (w : World) (hl : RW w v l) (h16 : l.length = 16) :
    Calls Tryz.prog 202 #[v] w fun e w' => e = .returned (aggW (sched l)) ∧ Below w.heap.size w w' :=
  sha_schedule' (sched l) v l w hl h16 (by unfold SchedInv; rw [h16]; rfl)
end Go.Proofs.YtojebioolflbkaaGreat
