/-
  reach.From: what it answers.
-/
import Derived.Test.YtojebioolflbkaaGreatSki
import Derived.Test.YtojebioolflbkaaGreatIter
import Derived.CallsIn
namespace Go.Proofs.YtojebioolflbkaaGreat
open Go.RowKit Go.Maps

theorem keys_of (b : Nat) (w : World) : Calls Tryz.prog 89 #[.map (some b)] w fun e w' =>
    e = .returned (.func (.func 137) #[] #[.pointer (some ⟨w.heap.size, 0, none⟩)]) ∧ w' = w.alloc (.cells #[.map (some b)] 102) :=
  callsIn_wide.1 (Tryz.maps_Keys_89 (some b) w)
theorem map_str : ∀ R : List ByteArray, (R.map (fun s => s.data.toList)).map Go.Proofs.encStr = R.flatMap cStr
  | [] => rfl
  | s :: R => by
    rw [List.map_cons, List.map_cons, List.flatMap_cons, map_str R]
    rfl
theorem sorted_of (b : Nat) (M : List ByteArray) (w : World) (h : MetS w b M) (hl : M.length * 16 ≤ 140737488351232) :
    Calls Tryz.prog 88 #[.func (.func 137) #[] #[.pointer (some ⟨w.heap.size, 0, none⟩)]] (w.alloc (.cells #[.map (some b)] 102)) fun e w' =>
      ∃ v, e = .returned v ∧ OS 9 1 cStr w' (w.alloc (.cells #[.map (some b)] 102)).heap.size v (sortS M) ∧ Below (w.alloc (.cells #[.map (some b)] 102)).heap.size (w.alloc (.cells #[.map (some b)] 102)) w' := by
  obtain ⟨D, h1, h2⟩ := h
  have hz := h2.size
  refine (callsIn_wide.1 (Tryz.slices_Sorted_keys_88_89 b M.length D _ w h1 (by rw [hz]; unfold maxLen; omega) (by rw [hz]; omega))).mono ?_
  rintro e w' ⟨v, ss, rfl, hp, hrow, -, hb⟩
  refine ⟨v, rfl, ?_, hb⟩
  have hs := h2.sorted hp
  have hlen : ss.length = (sortS M).length := by
    have := congrArg List.length hs
    rw [List.length_mergeSort, List.length_map] at this
    exact this
  have e2 := congrArg (List.map Go.Proofs.encStr) hs
  rw [map_str] at e2
  unfold OS
  rw [← hlen, ← e2]
  exact hrow
theorem sortS_len (M : List ByteArray) : (sortS M).length = M.length := by
  unfold sortS
  rw [List.length_map, List.length_mergeSort, List.length_map]
theorem sortS_mem (M : List ByteArray) (x : ByteArray) : x ∈ sortS M ↔ x ∈ M := by
  unfold sortS
  rw [List.mem_map]
  constructor
  · rintro ⟨y, hy, rfl⟩
    rw [List.mem_mergeSort, List.mem_map] at hy
    obtain ⟨z, hz, rfl⟩ := hy
    exact hz
  · intro h
    exact ⟨x.data.toList, by rw [List.mem_mergeSort, List.mem_map]; exact ⟨x, h, rfl⟩, rfl⟩

theorem seek_all (v : Value) (l : List Blob) (w0 : World) (hR : RBl w0 v l) (q mb : Nat) (hmb : w0.heap.size ≤ mb) : ∀ (n : Nat) (M : List ByteArray) (d : ByteArray) (w : World), l.length - M.length ≤ n → Tidy l M → Below w0.heap.size w0 w → MetS w mb M →
    w.heap[q]? = some (.cells #[v, .map (some mb)] 129 (0, 0)) → d.size ≤ 140737488351232 →
    Calls Tryz.prog 112 #[.pointer (some ⟨q, 0, none⟩), .string d] w (SeekPost l d M mb w) := by
  intro n
  induction n with
  | zero =>
    intro M d w hn ht hb hm hq hd
    exact seek_step v l w0 hR q mb hmb M d w ht hb hm hq hd (fun M2 _ _ hlt ht2 _ _ _ _ => by have := ht2.len; omega)
  | succ n ih =>
    intro M d w hn ht hb hm hq hd
    exact seek_step v l w0 hR q mb hmb M d w ht hb hm hq hd (fun M2 d2 w2 hlt ht2 hb2 hm2 hq2 hd2 => ih M2 d2 w2 (by have := ht2.len; omega) ht2 hb2 hm2 hq2 hd2)

/-- All that digests come to, each once, sorted. -/
def Comes (l : List Blob) (ds L : List ByteArray) : Prop := Rising id L ∧ ∀ x, x ∈ L ↔ Come l ds x
theorem Comes.only {l : List Blob} {ds L L' : List ByteArray} (h : Comes l ds L) (g : Comes l ds L') : L = L' := by
  have h1 := rising_sortS h.1 (M := L') (fun x => (h.2 x).trans (g.2 x).symm) (rising_nodup g.1)
  have h2 := rising_sortS g.1 (M := L') (fun x => Iff.rfl) (rising_nodup g.1)
  exact h1.symm.trans h2
theorem Comes.of_sort {l : List Blob} {ds M : List ByteArray} (hn : M.Nodup) (h : ∀ x, x ∈ M ↔ Come l ds x) : Comes l ds (sortS M) := by
  rw [risingL_eq (M := M) (fun x => Iff.rfl) hn]
  obtain ⟨h1, h2⟩ := foldl_ins M [] .nil
  exact ⟨h1, fun x => (h2 x).trans (by simp [h x])⟩
def FromPost (l : List Blob) (ds : List ByteArray) (w : World) (e : Ending) (w' : World) : Prop :=
  ∃ v L, e = .returned v ∧ Comes l ds L ∧ L.length ≤ l.length ∧ (∀ x ∈ L, x.size ≤ 140737488351232) ∧ RT w' v L ∧ OS 9 1 cStr w' w.heap.size v L ∧ Below w.heap.size w w'

set_option maxRecDepth 100000 in
set_option maxHeartbeats 2000000 in
theorem reach_From (v u : Value) (l : List Blob) (ds : List ByteArray) (w : World) (h : RBl w v l) (g : RT w u ds) :
    Calls Tryz.prog 63 #[v, u] w (FromPost l ds w) := by
  have hR := hid h
  have hT := hid g
  have hfit := hid (fit_B h)
  have hS := hid (fun M d W (ht : Tidy l M) => seek_all v l w h (w.heap.size + 1) w.heap.size (Nat.le_refl _) _ M d W (Nat.le_refl _) ht)
  obtain ⟨a, c, rfl, -, -, hre, -⟩ := h
  obtain ⟨a2, c2, rfl, hlc2, hcm2, hre2, -⟩ := g
  have hmm := @run_makeMap Tryz.prog
  have hm0 := MetS.made w
  have hb0 := b_alloc (b_alloc (Below.refl w.heap.size w) (Obj.map #[] 0)) (Obj.cells #[.slice a l.length c, .map (some w.heap.size)] 129)
  have hq0 := heap_put (w.alloc (Obj.map #[] 0)) (Obj.cells #[.slice a l.length c, .map (some w.heap.size)] 129) (w.heap.size + 1) (by simp)
  have hm1 := hm0.after (b_alloc (Below.refl _ _) (Obj.cells #[.slice a l.length c, .map (some w.heap.size)] 129))
  go_enter Tryz.func63, Tryz.ntmps63
  go_wp2_with fail
  have hlW : w.heap.size + 1 < ((w.alloc (Obj.map #[] 0)).alloc (Obj.cells #[.slice a l.length c, .map (some w.heap.size)] 129)).heap.size := by simp
  generalize (w.alloc (Obj.map #[] 0)).alloc (Obj.cells #[.slice a l.length c, .map (some w.heap.size)] 129) = W0 at *
  have hs0 := hid (Sought.refl (l := l) (M := []))
  have ht0 := hid (Tidy.nil (l := l))
  replace hm1 := hid hm1
  replace hq0 := hid hq0
  replace hb0 := hid hb0
  clear hm0 hmm
  go_loopw [7, 14] (fun _ i2 wr => ∃ (j : Nat) (Mj : List ByteArray), j ≤ ds.length ∧ i2 = .int .i64 (j : Int) ∧ Hid (Sought l (ds.take j) [] Mj) ∧ Hid (Tidy l Mj) ∧ Hid (MetS wr w.heap.size Mj) ∧ Hid (W0.grownBy wr (some w.heap.size))) (fun _ i2 _ => ds.length - (intOf i2).toNat)
  case atStart => exact ⟨0, _, by omega, rfl, hs0, ht0, hm1, hid ⟨rfl, rfl, rfl, Nat.le_refl _, fun _ _ _ => rfl⟩⟩
  case round =>
    obtain ⟨j, Mj, hj, rfl, hsj, htj, hmj, hgj⟩ := hrel
    have hqj := hid ((hgj.out.block (w.heap.size + 1) hlW (by simp)).trans hq0.out)
    have hbj := hid (hb0.out.grown hgj.out hb0.out.size (fun k hk => by simp at hk; omega))
    by_cases hlt : j < ds.length
    · have hn : ds[j]? = some ds[j] := List.getElem?_eq_getElem hlt
      have htk := hid (List.take_succ_eq_append_getElem hlt)
      generalize ds[j] = kj at *
      obtain ⟨bq, oq, hv3, hbq, he4, hsz⟩ := rt_at (hT.out.mono EStr.stable hbj.out) hn
      obtain rfl : a2 = some ⟨bq, oq, none⟩ := hv3
      rw [Nat.mul_one] at he4
      have hcall := hid (hS.out Mj kj _ htj.out hbj.out hmj.out hqj.out hsz)
      unfold SeekPost at hcall
      clear hn hbq hsz hqj hbj
      go_wp2_with fail
      ((with_reducible refine hcall.out.mono ?_); rintro e w5 ⟨rfl, M5, hs5, ht5, hm5, hg5⟩)
      have hs6 := hid (hsj.out.snoc hs5)
      rw [← htk.out] at hs6
      have hg6 := hid (grown_trans hgj.out hg5)
      replace ht5 := hid ht5
      replace hm5 := hid hm5
      clear hs5 hg5 hcall hsj htj hmj hgj htk he4
      go_wp2_with fail
      go_roundw
      case rel => exact ⟨j + 1, M5, by omega, by go_num, hs6, ht5, hm5, hg6⟩
      case measure => simp [intOf]; omega
    · obtain rfl : j = ds.length := by omega
      have hall := hid (fun x => (hsj.out.all (ds := ds.take ds.length) (M := Mj) x))
      rw [List.take_length] at hall
      have hl := htj.out.len
      have hC := hid (Comes.of_sort htj.out.nodup hall.out)
      have hsz := hid (fun x (hx : x ∈ sortS Mj) => (show x.size ≤ 140737488351232 from by
        obtain ⟨y, hy, rfl⟩ := List.mem_map.1 (inB_digest (htj.out.inB x ((sortS_mem Mj x).1 hx)))
        exact (hfit.out y hy).1.1))
      have hsl := sortS_len Mj
      have hsrt := hid (sorted_of w.heap.size Mj _ hmj.out (by omega))
      obtain ⟨x0, x1⟩ := box2g hqj.out
      clear hsj hall hmj hgj
      go_wp2_with fail
      ((with_reducible refine (keys_of w.heap.size _).mono ?_); rintro e w6 ⟨rfl, rfl⟩)
      go_wp2_with fail
      ((with_reducible refine hsrt.out.mono ?_); rintro e w7 ⟨v7, rfl, o7, b7⟩)
      have hb7 := hid (b_call (b_alloc hbj.out _) b7)
      have r7 := hid (reads_str o7 (by omega) hsz.out)
      have o8 := hid (OS.mono o7 (b_alloc hbj.out (.cells #[.map (some w.heap.size)] 102)).size)
      clear o7 b7 hsrt
      go_wp2_with fail
      go_ret
      exact ⟨_, _, rfl, hC.out, by omega, hsz.out, r7.out, o8.out, hb7.out⟩
end Go.Proofs.YtojebioolflbkaaGreat
