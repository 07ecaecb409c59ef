import Derived.Test.YtpkpgehiplhkpaaGreatTxRtx
import Derived.Test.YtpkpgehiplhkpaaGreatTxShelf
import Derived.Test.YtpkpgehiplhkpaaGreatTxShelfB
import Derived.Lib.SlicesCompact
import Derived.Lib.RowBridge
import Derived.Lib.AppendZerosOnto
import Derived.Sort.OwnSorted
namespace Go.Proofs.YtpkpgehiplhkpaaGreat
open Go.RowKit Go.Maps Go.Lib
theorem qxcnx_1 {P : Prop} (h : P := by omega) : P := h
theorem rising_only {R R' : List ByteArray} (h : Rising id R) (h' : Rising id R') (hm : ∀ x, x ∈ R ↔ x ∈ R') : R = R' :=
 (rising_sortS h hm (rising_nodup h')).symm.trans (rising_sortS h' (fun _ => Iff.rfl) (rising_nodup h'))
theorem lt_of_le_ne {a b : List UInt8} (h : a ≤ b) (hn : a ≠ b) : a < b := by
 by_cases hl : a < b
 · exact hl
 · exact absurd (List.le_antisymm h (List.not_lt.1 hl)) hn
theorem compactUpTo_sorted (d : Array (List UInt8)) (hs : ∀ i j, i < j → j < d.size → d[i]! ≤ d[j]!) : ∀ m, m ≤ d.size → (compactUpTo d m).Pairwise (· < ·) ∧ (∀ x, x ∈ compactUpTo d m ↔ ∃ j, j < m ∧ d[j]! = x)
 | 0, _ => ⟨by simp [compactUpTo], fun x => by simp [compactUpTo]⟩
 | m + 1, h => by
   obtain ⟨h1, h2⟩ := compactUpTo_sorted d hs m qxcnx_1
   rw [compactUpTo_succ]
   by_cases hk : keeps d m = true
   · rw [if_pos hk]
     refine ⟨List.pairwise_append.2 ⟨h1, List.pairwise_singleton _ _, fun x hx y hy => ?_⟩, fun x => ?_⟩
     · rw [List.mem_singleton] at hy
       subst hy
       obtain ⟨j, hj, rfl⟩ := (h2 x).1 hx
       have hne : d[m - 1]! ≠ d[m]! := by
        unfold keeps at hk
        rw [decide_eq_true_eq] at hk
        rcases hk with h0 | h0
        · omega
        · exact fun e => h0 e.symm
       have h4 : d[m - 1]! < d[m]! := lt_of_le_ne (hs _ _ qxcnx_1 qxcnx_1) hne
       by_cases e : j = m - 1
       · rw [e]; exact h4
       · exact List.lt_of_le_of_lt (hs _ _ qxcnx_1 qxcnx_1) h4
     · rw [List.mem_append, h2 x, List.mem_singleton]
       constructor
       · rintro (⟨j, hj, e⟩ | e)
         · exact ⟨j, by omega, e⟩
         · exact ⟨m, by omega, e.symm⟩
       · rintro ⟨j, hj, e⟩
         by_cases hjm : j = m
         · subst hjm; exact .inr e.symm
         · exact .inl ⟨j, by omega, e⟩
   · rw [if_neg hk, List.append_nil]
     refine ⟨h1, fun x => (h2 x).trans ⟨fun ⟨j, hj, e⟩ => ⟨j, by omega, e⟩, fun ⟨j, hj, e⟩ => ?_⟩⟩
     unfold keeps at hk
     rw [decide_eq_true_eq] at hk
     by_cases hjm : j = m
     · subst hjm
       have h0 : j ≠ 0 := fun h0 => hk (.inl h0)
       have h3 : d[j]! = d[j - 1]! := Classical.not_not.1 fun h3 => hk (.inr h3)
       exact ⟨j - 1, by omega, by rw [← h3]; exact e⟩
     · exact ⟨j, by omega, e⟩
theorem compact_rising (M : List ByteArray) : (compact ((M.map (fun s => s.data.toList)).mergeSort leB)).map bstr = risingL M := by
 have tr : ∀ a b c : List UInt8, leB a b = true → leB b c = true → leB a c = true := fun a b c h1 h2 => by simp only [leB, decide_eq_true_eq] at *; exact List.le_trans h1 h2
 have to : ∀ a b : List UInt8, (leB a b || leB b a) = true := fun a b => by simp only [leB, Bool.or_eq_true, decide_eq_true_eq]; exact List.le_total a b
 have hp := List.pairwise_mergeSort tr to (M.map (fun s => s.data.toList))
 have hm : ∀ x, x ∈ (M.map (fun s => s.data.toList)).mergeSort leB ↔ x ∈ M.map (fun s => s.data.toList) := fun x => List.mem_mergeSort
 generalize (M.map (fun s => s.data.toList)).mergeSort leB = S at *
 obtain ⟨h1, h2⟩ := compactUpTo_sorted S.toArray (fun i j hij hj => by
  have hj' : j < S.length := by simpa using hj
  have := List.pairwise_iff_getElem.1 hp i j qxcnx_1 hj' hij
  simp only [leB, decide_eq_true_eq] at this
  rw [getElem!_pos S.toArray i (by simp; omega), getElem!_pos S.toArray j hj]
  exact this) S.length (by simp)
 have g1 := foldl_ins M [] .nil
 refine rising_only (List.pairwise_map.2 (h1.imp fun {a b} hab => ?_)) g1.1 fun x => ?_
 · rw [id, id, slt_list, decide_eq_true_eq]
   exact hab
 · show _ ↔ x ∈ M.foldl insS []
   rw [g1.2 x, List.mem_map]
   constructor
   · rintro ⟨y, hy, rfl⟩
     obtain ⟨j, hj, rfl⟩ := (h2 y).1 hy
     have hjs : S.toArray[j]! ∈ S := by
      rw [getElem!_pos S.toArray j (by simpa using hj)]
      simp
     obtain ⟨z, hz, he⟩ := List.mem_map.1 ((hm _).1 hjs)
     rw [← he]
     exact .inr hz
   · rintro (h | h)
     · cases h
     · have hx : x.data.toList ∈ S := (hm _).2 (List.mem_map.2 ⟨x, h, rfl⟩)
       obtain ⟨j, hj, he⟩ := List.mem_iff_getElem.1 hx
       exact ⟨x.data.toList, (h2 _).2 ⟨j, hj, by rw [getElem!_pos S.toArray j (by simpa using hj)]; simpa using he⟩, rfl⟩
set_option maxRecDepth 100000 in
set_option maxHeartbeats 1000000 in
theorem slices_Grow_str (n : Nat) (w : World) (hn : n * 16 ≤ 140737488355328) :
 Calls Tryz.prog 198 #[.slice none 0 0, .int .i64 (n : Int)] w fun e w' => ∃ v, e = .returned v ∧ OS 9 1 cStr w' w.heap.size v ([] : List ByteArray) ∧ Below w.heap.size w w' := by
 obtain ⟨i0, hi, hz0, hz1, hz2⟩ := info_parts info_str
 have h2 : wrap64 ((0 : Int) - (0 : Int)) = 0 := by unfold wrap64; omega
 by_cases h0 : n = 0
 · subst h0
   go_enter Tryz.func198, Tryz.ntmps198
   go_wp2
   go_ret
   exact ⟨_, rfl, OS.nil, Below.refl _ _⟩
 · have h3 : wrap64 ((n : Int) - (0 : Int)) = (n : Int) := by unfold wrap64; omega
   have h4 : decide ((n : Int) > 0) = true := decide_eq_true qxcnx_1
   have h5 : decide ((n : Int) < 0) = false := decide_eq_false qxcnx_1
   obtain ⟨G, hG⟩ : ∃ G, G = grownCap w n 0 9 := ⟨_, rfl⟩
   obtain ⟨cur, hcur⟩ : ∃ cur : Array Value, cur = (#[] : Array Value) ++ Builtin.zeroCells (Value.string ⟨#[]⟩).cells n ++ Builtin.zeroCells (Value.string ⟨#[]⟩).cells (G - n) := ⟨_, rfl⟩
   have hGn : n ≤ G := by rw [hG]; exact grownCap_ge w _ _ _
   have hGm : G ≤ maxLen := by rw [hG]; exact grownCap_le_maxLen w n 0 9 (by unfold maxLen; omega)
   have hcs : cur.size = G * 1 := by
    rw [hcur]
    simp [Builtin.zeroCells, Value.cells]
    omega
   have hrz : ∀ ty, (Builtin.append_ #[30, 3] ty #[.slice none 0 0, .int .i64 (n : Int)]).run Tryz.prog w = .ok (.slice (some ⟨w.heap.size, 0, none⟩) n G) (w.drew.alloc (.cells cur 9)) := fun ty => by
    have h := Lib.run_append_grow_zeros w 30 3 ty 9 i0 _ .i64 .i64 Tryz.underlying30 Tryz.underlying3 hi hz0 none 0 0 [] (run_firstCells_none w.drew i0.size 0 0 0) n qxcnx_1 qxcnx_1 qxcnx_1 qxcnx_1 (by rw [hz2]; omega) (growslice_fits qxcnx_1 (by rw [hz2]; omega))
    rw [Nat.zero_add] at h
    rw [hcur, hG]
    exact h
   have hown : OS 9 1 cStr (w.drew.alloc (.cells cur 9)) w.heap.size (.slice (some ⟨w.heap.size, 0, none⟩) 0 G) ([] : List ByteArray) := World.ownsRow_made w.drew cur G (Nat.le_refl _) hGm hcs
   replace hown := hid hown
   have hb := hid (b_alloc (Below.refl _ w).drew (.cells cur 9))
   clear hcur hG hcs
   go_enter Tryz.func198, Tryz.ntmps198
   go_wp2_with (at_builtin; refine Lib.wpList_append_run _ rfl _ _ _ _ rfl _ _ rfl rfl _ _ (hrz _) ?_)
   go_ret
   exact ⟨_, rfl, hown.out, hb.out⟩
set_option maxRecDepth 100000 in
set_option maxHeartbeats 2000000 in
theorem slices_Concat_str (x y : Value) (g m : List ByteArray) (q : Nat) (w : World) (hq : w.heap[q]? = some (.cells #[x, y] 30 (0, 0))) (hx : RT w x g) (hy : RT w y m) (hl : (g.length + m.length) * 16 ≤ 140737488355328) :
 Calls Tryz.prog 131 #[.slice (some ⟨q, 0, none⟩) 2 2] w fun e w' => ∃ v, e = .returned v ∧ OS 9 1 cStr w' w.heap.size v (g ++ m) ∧ Below w.heap.size w w' := by
 obtain ⟨i0, ii0, hz0, hz1, hz2⟩ := info_parts info_str
 have hX := hid hx
 have hY := hid hy
 have hQ := hid hq
 obtain ⟨a, c, rfl, -⟩ := hx
 obtain ⟨a2, c2, rfl, -⟩ := hy
 have hG := hid (slices_Grow_str (g.length + m.length) w hl)
 rw [Int.natCast_add] at hG
 obtain ⟨x0, x1⟩ := box2g hq
 have h1 : wrap64 ((0 : Int) + (g.length : Int)) = (g.length : Int) := by unfold wrap64; omega
 have h2 : wrap64 ((g.length : Int) + (m.length : Int)) = (g.length : Int) + (m.length : Int) := by unfold wrap64; omega
 have h3 : decide ((g.length : Int) < 0) = false := decide_eq_false qxcnx_1
 have h4 : decide ((g.length : Int) + (m.length : Int) < 0) = false := decide_eq_false qxcnx_1
 go_enter Tryz.func131, Tryz.ntmps131
 go_wp2_with fail
 refine wp_loop_rounds 3 ?_
 rw [rounds_succ]
 go_wp2_with fail
 rw [rounds_succ]
 go_wp2_with fail
 rw [rounds_succ]
 go_wp2_with fail
 ((with_reducible refine hG.out.mono ?_); rintro e w1 ⟨v1, rfl, o1, b1⟩)
 have hq1 := stays b1 hQ.out
 have hs1 := b1.size
 have rx1 := hid (hX.out.mono EStr.stable b1)
 have ry1 := hid (hY.out.mono EStr.stable b1)
 have hb1 := hid b1
 replace o1 := hid o1
 clear x0 x1 hG b1
 obtain ⟨x0, x1⟩ := box2g hq1
 have hq1' := hid hq1
 clear hq1
 go_wp2_with fail
 refine wp_loop_rounds 3 ?_
 rw [rounds_succ]
 go_wp2_with (at_builtin; go_must (refine wpL_append flat_str rfl (.tmp 31) (.tmp 32) 30 rfl 9 i0 _ Tryz.underlying30 ii0 hz0 hz1 hz2 rfl w.heap.size _ _ rfl o1.out _ g rfl rx1.out ?c1 ?c2 ?c3 ?_))
 case c1 => simp; omega
 case c2 => simp [maxLen]; omega
 case c3 => omega
 intro v2 w2 o2 g2
 have hb2 := hid (hb1.out.grown g2 hs1 (OS.block o1.out))
 have hs2 := hb2.out.size
 have ry2 := hid (hY.out.mono EStr.stable hb2.out)
 have hq2 := hid (stays hb2.out hQ.out)
 replace o2 := hid o2
 clear x0 x1 g2 o1 rx1 ry1 hb1 hq1'
 obtain ⟨x0, x1⟩ := box2g hq2.out
 go_wp2_with fail
 rw [rounds_succ]
 go_wp2_with (at_builtin; go_must (refine wpL_append flat_str rfl (.tmp 31) (.tmp 32) 30 rfl 9 i0 _ Tryz.underlying30 ii0 hz0 hz1 hz2 rfl w.heap.size _ _ rfl o2.out _ m rfl ry2.out ?c1 ?c2 ?c3 ?_))
 case c1 => omega
 case c2 => simp [maxLen]; omega
 case c3 => omega
 intro v3 w3 o3 g3
 have hb3 := hid (hb2.out.grown g3 hs2 (OS.block o2.out))
 replace o3 := hid o3
 clear x0 x1 g3 o2 ry2 hb2 hq2
 go_wp2_with fail
 rw [rounds_succ]
 go_wp2_with fail
 go_ret
 exact ⟨_, rfl, o3.out, hb3.out⟩
theorem flat_enc (R : List ByteArray) : R.flatMap cStr = (R.map (fun s => s.data.toList)).map Go.Proofs.encStr := (map_str R).symm
theorem flat_enc' (R : List (List UInt8)) : (R.map bstr).flatMap cStr = R.map Go.Proofs.encStr := by
 rw [flat_enc]
 refine congrArg (List.map Go.Proofs.encStr) ?_
 rw [List.map_map]
 exact List.map_id'' (f := (fun s : ByteArray => s.data.toList) ∘ bstr) (fun s => rfl) R
theorem slices_Sort_own (v : Value) (M : List ByteArray) (B : Nat) (w : World) (h : OS 9 1 cStr w B v M) (hl : M.length ≤ 140737488351232) :
 Calls Tryz.prog 245 #[v] w fun e w' => e = .returned (.tuple #[]) ∧ OS 9 1 cStr w' B v (sortS M) ∧ w.grownBy w' v.ownBlock := by
 have hf : OS 9 1 cStr w B v M := h
 unfold OS at hf
 rw [flat_enc] at hf
 rcases hf.2 with ⟨rfl, hn⟩ | ⟨g, cap, cur, rfl, hB, hb, h1, h2, h3, h4⟩
 · obtain rfl : M = [] := List.eq_nil_of_length_eq_zero hn
   refine (Tryz.slices_Sort_string_none none 0 w).mono ?_
   rintro e w' ⟨rfl, rfl⟩
   exact ⟨rfl, by rw [show sortS [] = [] by simp [sortS]]; exact OS.nil, ⟨rfl, rfl, rfl, Nat.le_refl _, fun _ _ _ => rfl⟩⟩
 · have hlen : M.length = (M.map (fun s => s.data.toList)).length := by rw [List.length_map]
   have hH := holds_of_block hb (ss := M.map (fun s => s.data.toList)) (by rw [← hlen, ← Nat.mul_one M.length]; exact h4)
   refine (by
    have hc := Tryz.slices_Sort_string g 0 cap (M.map (fun s => s.data.toList)) w hH (Array.getElem?_eq_some_iff.1 hb).1 (by rw [← hlen]; omega)
    rw [← hlen] at hc
    exact hc : Calls Tryz.prog 245 #[.slice (some ⟨g, 0, none⟩) M.length cap] w _).mono ?_
   rintro e w' ⟨rfl, n, os, rfl⟩
   refine ⟨rfl, ?_, grownBy_sorted _⟩
   have hs := ownsRow_sorted (n := n) (os := os) (ss := M.map (fun s => s.data.toList)) (ts := (M.map (fun s => s.data.toList)).mergeSort fun x y => decide (x ≤ y)) (by simp) hB hb (by rw [← hlen]; exact h1) h2 h3
   unfold OS
   rw [sortS_len, show (sortS M).flatMap cStr = ((M.map (fun s => s.data.toList)).mergeSort fun x y => decide (x ≤ y)).map Go.Proofs.encStr from flat_enc' _]
   rw [← hlen] at hs
   exact hs
theorem slices_Compact_own (v : Value) (M : List (List UInt8)) (B : Nat) (w : World) (h : OS 9 1 cStr w B v (M.map bstr)) (hl : M.length ≤ 140737488351232) :
 Calls Tryz.prog 276 #[v] w fun e w' => ∃ v', e = .returned v' ∧ OS 9 1 cStr w' B v' ((Lib.compact M).map bstr) ∧ w.grownBy w' v.ownBlock := by
 have hf : OS 9 1 cStr w B v (M.map bstr) := h
 unfold OS at hf
 rw [flat_enc', List.length_map] at hf
 rcases hf.2 with ⟨rfl, hn⟩ | ⟨g, cap, cur, rfl, hB, hb, h1, h2, h3, h4⟩
 · obtain rfl : M = [] := List.eq_nil_of_length_eq_zero hn
   refine (Tryz.slices_Compact_string_empty none 0 w).mono ?_
   rintro e w' ⟨rfl, rfl⟩
   exact ⟨_, rfl, OS.nil, ⟨rfl, rfl, rfl, Nat.le_refl _, fun _ _ _ => rfl⟩⟩
 · have hH := holds_of_block hb (ss := M) (by rw [← Nat.mul_one M.length]; exact h4)
   refine (Tryz.slices_Compact_string g 0 cap M w hH qxcnx_1 h1).mono ?_
   rintro e w' ⟨rfl, q, hw⟩
   have hle := Lib.compact_length_le M
   have hgr := grownBy_sorted (n := q) (os := #[]) (w := w) (g := g) (Lib.compact M ++ List.replicate (M.length - (Lib.compact M).length) []).toArray
   have hs := ownsRow_sorted (n := q) (os := #[]) (ss := M) (ts := Lib.compact M ++ List.replicate (M.length - (Lib.compact M).length) []) (by simp; omega) hB hb h1 h2 h3
   rw [Go.Sort.grow_empty] at hs hgr
   rw [← hw] at hs hgr
   refine ⟨_, rfl, ?_, hgr⟩
   have hs2 : OS 9 1 cStr w' B (.slice (some ⟨g, 0, none⟩) M.length cap) ((Lib.compact M ++ List.replicate (M.length - (Lib.compact M).length) []).map bstr) := by
    have e9 : (Lib.compact M ++ List.replicate (M.length - (Lib.compact M).length) []).length = M.length := by simp; omega
    unfold OS
    rw [flat_enc', List.length_map, e9]
    exact hs
   have hs3 := OS.upto (s := 1) (cells := cStr) (fun _ => rfl) hs2 (Lib.compact M).length hle
   rw [← List.map_take, List.take_left] at hs3
   exact hs3
set_option maxRecDepth 100000 in
set_option maxHeartbeats 400000 in
theorem slices_Clone_str (v : Value) (l : List ByteArray) (w : World) (h : RT w v l) :
 Calls Tryz.prog 124 #[v] w fun e w' => ∃ v', e = .returned v' ∧ OS 9 1 cStr w' w.heap.size v' l ∧ Below w.heap.size w w' := by
 obtain ⟨i0, hi, hz0, hz1, hz2⟩ := info_parts info_str
 have hh := h
 obtain ⟨a, c, rfl, hlc, hcm, hre, hno, hat⟩ := hh
 cases a with
 | none =>
   have hc0 := hno rfl
   subst hc0
   have hl0 : l = [] := List.eq_nil_of_length_eq_zero qxcnx_1
   subst hl0
   have he := fun w => Lib.run_eql_slice_nil (P := Tryz.prog) w 30 9 none 0 0 0 0 Tryz.underlying30
   go_enter Tryz.func124, Tryz.ntmps124
   go_wp2
   go_ret
   exact ⟨_, rfl, OS.nil, Below.refl _ _⟩
 | some ad =>
   have he := fun w => Lib.run_eql_slice_nil (P := Tryz.prog) w 30 9 (some ad) l.length c 0 0 Tryz.underlying30
   clear hat
   go_enter Tryz.func124, Tryz.ntmps124
   go_wp2_with (at_builtin; go_must (refine wpL_append flat_str rfl (.tmp 5) (.tmp 6) 30 rfl 9 i0 _ Tryz.underlying30 hi hz0 hz1 hz2 rfl w.heap.size _ [] rfl (os_empty' _ _ _ _ (by simp) (by simp)) _ l rfl (h.mono EStr.stable (b_alloc (Below.refl _ _) _)) ?c1 ?c2 ?c3 ?_))
   case c1 => simp; omega
   case c2 => simp [maxLen]; omega
   case c3 => simp
   intro v' w1 hown hg
   have hb := b_grown (b_alloc (Below.refl _ w) (.cells #[] 9)) hg (fun k hk => by simp [Value.ownBlock] at hk; omega)
   clear hg
   go_wp2
   go_ret
   exact ⟨_, rfl, hown, hb⟩
def addedL (g m : List ByteArray) : List ByteArray := risingL (g ++ m)
theorem addedL_mem (g m : List ByteArray) (x : ByteArray) : x ∈ addedL g m ↔ x ∈ g ∨ x ∈ m := by
 unfold addedL risingL
 rw [(foldl_ins (g ++ m) [] .nil).2 x]
 simp
theorem compact_len_map (M : List ByteArray) : (risingL M).length ≤ M.length := by
 rw [← compact_rising, List.length_map]
 exact Nat.le_trans (Lib.compact_length_le _) (by simp)
def AddPost (g m : List ByteArray) (w : World) (e : Ending) (w' : World) : Prop := ∃ v, e = .returned v ∧ RT w' v (addedL g m) ∧ OS 9 1 cStr w' w.heap.size v (addedL g m) ∧ Below w.heap.size w w'
set_option maxRecDepth 100000 in
set_option maxHeartbeats 1000000 in
theorem mark_Add (x y : Value) (g m : List ByteArray) (w : World) (hx : RT w x g) (hy : RT w y m) (hl : (g.length + m.length) * 16 ≤ 140737488351232) (hs : ∀ s ∈ g ++ m, s.size ≤ 140737488351232) :
 Calls Tryz.prog 250 #[x, y] w (AddPost g m w) := by
 have hX := hid hx
 have hY := hid hy
 obtain ⟨a, c, rfl, -⟩ := hx
 obtain ⟨a2, c2, rfl, -⟩ := hy
 have hq0 := heap_alloc_new w (Obj.cells #[.slice a g.length c, .slice a2 m.length c2] 30)
 have hb0 := b_alloc (Below.refl _ w) (Obj.cells #[.slice a g.length c, .slice a2 m.length c2] 30)
 have hC := hid (slices_Concat_str _ _ g m w.heap.size _ hq0 (hX.out.mono EStr.stable hb0) (hY.out.mono EStr.stable hb0) qxcnx_1)
 replace hb0 := hid hb0
 replace hs := hid hs
 clear hq0
 go_enter Tryz.func250, Tryz.ntmps250
 go_wp2_with fail
 ((with_reducible refine hC.out.mono ?_); rintro e w1 ⟨v1, rfl, o1, b1⟩)
 have hb1 := hid (b_call hb0.out b1)
 replace o1 := hid (OS.mono o1 hb0.out.size)
 clear hC b1
 go_wp2_with fail
 ((with_reducible refine (slices_Sort_own v1 (g ++ m) w.heap.size _ o1.out (by rw [List.length_append]; omega)).mono ?_); rintro e w2 ⟨rfl, o2, g2⟩)
 have hb2 := hid (hb1.out.grown g2 hb1.out.size (OS.block o1.out))
 replace o2 := hid o2
 clear g2 o1 hb1
 go_wp2_with fail
 ((with_reducible refine (slices_Compact_own v1 _ w.heap.size _ o2.out (by simp; omega)).mono ?_); rintro e w3 ⟨v3, rfl, o3, g3⟩)
 have hb3 := hid (hb2.out.grown g3 hb2.out.size (OS.block o2.out))
 rw [compact_rising] at o3
 have hrl := compact_len_map (g ++ m)
 rw [List.length_append] at hrl
 have hsz := hid (show ∀ s ∈ risingL (g ++ m), s.size ≤ 140737488351232 from fun s h => hs.out s (List.mem_append.2 ((addedL_mem g m s).1 h)))
 have r3 := hid (reads_str o3 qxcnx_1 hsz.out)
 clear g3 o2 hb2 o3
 go_wp2_with fail
 ((with_reducible refine (slices_Clone_str v3 _ _ r3.out).mono ?_); rintro e w4 ⟨v4, rfl, o4, b4⟩)
 have r4 := hid (reads_str o4 qxcnx_1 hsz.out)
 have hb4 := hid (b_call hb3.out b4)
 replace o4 := hid (OS.mono o4 hb3.out.size)
 clear b4 r3 hb3
 go_wp2_with fail
 go_ret
 exact ⟨_, rfl, r4.out, o4.out, hb4.out⟩
end Go.Proofs.YtpkpgehiplhkpaaGreat
