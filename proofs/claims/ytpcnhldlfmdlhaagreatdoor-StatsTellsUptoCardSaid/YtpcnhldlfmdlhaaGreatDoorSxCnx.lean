/-
  Texts sorted and made single are the texts rising. No function of the program is named here. slices.Grow, Concat, Sort, Compact and Clone on texts; mark.Add and the reference's MarkAdded: what they answer.
-/
import Derived.Test.YtpcnhldlfmdlhaaGreatDoorSxRtx
import Derived.Test.YtpcnhldlfmdlhaaGreatDoorSxShelf
import Derived.Lib.SlicesCompact
import Derived.Lib.RowBridge
import Derived.Lib.AppendZerosOnto
import Derived.Sort.OwnSorted
namespace Go.Proofs.YtpcnhldlfmdlhaaGreatDoor
open Go.RowKit Go.Maps Go.Lib

end Go.Proofs.YtpcnhldlfmdlhaaGreatDoor

namespace Go.Proofs.YtpcnhldlfmdlhaaGreatDoor
open Go.RowKit Go.Maps

set_option maxRecDepth 100000 in
set_option maxHeartbeats 1000000 in
theorem slices_Grow_str (n : Nat) (w : World) (hn : n * 16 ≤ 140737488355328) :
    Calls Tryz.prog 63 #[.slice none 0 0, .int .i64 (n : Int)] w fun e w' => ∃ v, e = .returned v ∧ OS 9 1 cStr w' w.heap.size v ([] : List ByteArray) ∧ Below w.heap.size w w' := by
  obtain ⟨i0, hi, hz0, hz1, hz2⟩ := info_parts info_str
  have h2 : wrap64 ((0 : Int) - (0 : Int)) = 0 := by unfold wrap64; omega
  by_cases h0 : n = 0
  · subst h0
    go_enter Tryz.func63, Tryz.ntmps63
    go_wp2
    go_ret
    exact ⟨_, rfl, OS.nil, Below.refl _ _⟩
  · have h3 : wrap64 ((n : Int) - (0 : Int)) = (n : Int) := by unfold wrap64; omega
    have h4 : decide ((n : Int) > 0) = true := decide_eq_true (by omega)
    have h5 : decide ((n : Int) < 0) = false := decide_eq_false (by omega)
    obtain ⟨G, hG⟩ : ∃ G, G = grownCap w n 0 9 := ⟨_, rfl⟩
    obtain ⟨cur, hcur⟩ : ∃ cur : Array Value, cur = (#[] : Array Value) ++ Builtin.zeroCells (Value.string ⟨#[]⟩).cells n ++ Builtin.zeroCells (Value.string ⟨#[]⟩).cells (G - n) := ⟨_, rfl⟩
    have hGn : n ≤ G := by rw [hG]; exact grownCap_ge w _ _ _
    have hGm : G ≤ maxLen := by rw [hG]; exact grownCap_le_maxLen w n 0 9 (by unfold maxLen; omega)
    have hcs : cur.size = G * 1 := by
      rw [hcur]
      simp [Builtin.zeroCells, Value.cells]
      omega
    have hrz : ∀ ty, (Builtin.append_ #[26, 3] ty #[.slice none 0 0, .int .i64 (n : Int)]).run Tryz.prog w = .ok (.slice (some ⟨w.heap.size, 0, none⟩) n G) (w.drew.alloc (.cells cur 9)) := fun ty => by
      have h := Lib.run_append_grow_zeros w 26 3 ty 9 i0 _ .i64 .i64 Tryz.underlying26 Tryz.underlying3 hi hz0 none 0 0 [] (run_firstCells_none w.drew i0.size 0 0 0) n (by omega) (by omega) (by omega) (by omega) (by rw [hz2]; omega) (growslice_fits (by omega) (by rw [hz2]; omega))
      rw [Nat.zero_add] at h
      rw [hcur, hG]
      exact h
    have hown : OS 9 1 cStr (w.drew.alloc (.cells cur 9)) w.heap.size (.slice (some ⟨w.heap.size, 0, none⟩) 0 G) ([] : List ByteArray) := World.ownsRow_made w.drew cur G (Nat.le_refl _) hGm hcs
    replace hown := hid hown
    have hb := hid (b_alloc (Below.refl w.heap.size w).drew (.cells cur 9))
    clear hcur hG hcs
    go_enter Tryz.func63, Tryz.ntmps63
    go_wp2_with (at_builtin; refine Lib.wpList_append_run _ rfl _ _ _ _ rfl _ _ rfl rfl _ _ (hrz _) ?_)
    go_ret
    exact ⟨_, rfl, hown.out, hb.out⟩

set_option maxRecDepth 100000 in
set_option maxHeartbeats 2000000 in
theorem slices_Concat_str (x y : Value) (g m : List ByteArray) (q : Nat) (w : World) (hq : w.heap[q]? = some (.cells #[x, y] 26 (0, 0))) (hx : RT w x g) (hy : RT w y m) (hl : (g.length + m.length) * 16 ≤ 140737488355328) :
    Calls Tryz.prog 33 #[.slice (some ⟨q, 0, none⟩) 2 2] w fun e w' => ∃ v, e = .returned v ∧ OS 9 1 cStr w' w.heap.size v (g ++ m) ∧ Below w.heap.size w w' := by
  obtain ⟨i0, ii0, hz0, hz1, hz2⟩ := info_parts info_str
  have hX := hid hx
  have hY := hid hy
  have hQ := hid hq
  obtain ⟨a, c, rfl, -⟩ := hx
  obtain ⟨a2, c2, rfl, -⟩ := hy
  have hG := hid (slices_Grow_str (g.length + m.length) w hl)
  rw [Int.natCast_add] at hG
  obtain ⟨x0, x1⟩ := box2g hq
  have h1 : wrap64 ((0 : Int) + (g.length : Int)) = (g.length : Int) := by unfold wrap64; omega
  have h2 : wrap64 ((g.length : Int) + (m.length : Int)) = (g.length : Int) + (m.length : Int) := by unfold wrap64; omega
  have h3 : decide ((g.length : Int) < 0) = false := decide_eq_false (by omega)
  have h4 : decide ((g.length : Int) + (m.length : Int) < 0) = false := decide_eq_false (by omega)
  go_enter Tryz.func33, Tryz.ntmps33
  go_wp2_with fail
  refine wp_loop_rounds 3 ?_
  rw [rounds_succ]
  go_wp2_with fail
  rw [rounds_succ]
  go_wp2_with fail
  rw [rounds_succ]
  go_wp2_with fail
  ((with_reducible refine hG.out.mono ?_); rintro e w1 ⟨v1, rfl, o1, b1⟩)
  have hq1 := stays b1 hQ.out
  have hs1 := b1.size
  have rx1 := hid (hX.out.mono EStr.stable b1)
  have ry1 := hid (hY.out.mono EStr.stable b1)
  have hb1 := hid b1
  replace o1 := hid o1
  clear x0 x1 hG b1
  obtain ⟨x0, x1⟩ := box2g hq1
  have hq1' := hid hq1
  clear hq1
  go_wp2_with fail
  refine wp_loop_rounds 3 ?_
  rw [rounds_succ]
  go_wp2_with (at_builtin; go_must (refine wpL_append flat_str rfl (.tmp 31) (.tmp 32) 26 rfl 9 i0 _ Tryz.underlying26 ii0 hz0 hz1 hz2 rfl w.heap.size _ _ rfl o1.out _ g rfl rx1.out ?c1 ?c2 ?c3 ?_))
  case c1 => simp; omega
  case c2 => simp [maxLen]; omega
  case c3 => omega
  intro v2 w2 o2 g2
  have hb2 := hid (hb1.out.grown g2 hs1 (OS.block o1.out))
  have hs2 := hb2.out.size
  have ry2 := hid (hY.out.mono EStr.stable hb2.out)
  have hq2 := hid (stays hb2.out hQ.out)
  replace o2 := hid o2
  clear x0 x1 g2 o1 rx1 ry1 hb1 hq1'
  obtain ⟨x0, x1⟩ := box2g hq2.out
  go_wp2_with fail
  rw [rounds_succ]
  go_wp2_with (at_builtin; go_must (refine wpL_append flat_str rfl (.tmp 31) (.tmp 32) 26 rfl 9 i0 _ Tryz.underlying26 ii0 hz0 hz1 hz2 rfl w.heap.size _ _ rfl o2.out _ m rfl ry2.out ?c1 ?c2 ?c3 ?_))
  case c1 => omega
  case c2 => simp [maxLen]; omega
  case c3 => omega
  intro v3 w3 o3 g3
  have hb3 := hid (hb2.out.grown g3 hs2 (OS.block o2.out))
  replace o3 := hid o3
  clear x0 x1 g3 o2 ry2 hb2 hq2
  go_wp2_with fail
  rw [rounds_succ]
  go_wp2_with fail
  go_ret
  exact ⟨_, rfl, o3.out, hb3.out⟩

set_option maxRecDepth 100000 in
set_option maxHeartbeats 400000 in
/-- slices.Clone of texts. -/
theorem slices_Clone_str (v : Value) (l : List ByteArray) (w : World) (h : RT w v l) :
    Calls Tryz.prog 26 #[v] w fun e w' => ∃ v', e = .returned v' ∧ OS 9 1 cStr w' w.heap.size v' l ∧ Below w.heap.size w w' := by
  obtain ⟨i0, hi, hz0, hz1, hz2⟩ := info_parts info_str
  have hh := h
  obtain ⟨a, c, rfl, hlc, hcm, hre, hno, hat⟩ := hh
  cases a with
  | none =>
    have hc0 := hno rfl
    subst hc0
    have hl0 : l = [] := List.eq_nil_of_length_eq_zero (by omega)
    subst hl0
    have he := fun w => Lib.run_eql_slice_nil (P := Tryz.prog) w 26 9 none 0 0 0 0 Tryz.underlying26
    go_enter Tryz.func26, Tryz.ntmps26
    go_wp2
    go_ret
    exact ⟨_, rfl, OS.nil, Below.refl _ _⟩
  | some ad =>
    have he := fun w => Lib.run_eql_slice_nil (P := Tryz.prog) w 26 9 (some ad) l.length c 0 0 Tryz.underlying26
    clear hat
    go_enter Tryz.func26, Tryz.ntmps26
    go_wp2_with (at_builtin; go_must (refine wpL_append flat_str rfl (.tmp 5) (.tmp 6) 26 rfl 9 i0 _ Tryz.underlying26 hi hz0 hz1 hz2 rfl w.heap.size _ [] rfl (os_empty' _ _ _ _ (by simp) (by simp)) _ l rfl (h.mono EStr.stable (b_alloc (Below.refl _ _) _)) ?c1 ?c2 ?c3 ?_))
    case c1 => simp; omega
    case c2 => simp [maxLen]; omega
    case c3 => simp
    intro v' w1 hown hg
    have hb := b_grown (b_alloc (Below.refl w.heap.size w) (.cells #[] 9)) hg (fun k hk => by simp [Value.ownBlock] at hk; omega)
    clear hg
    go_wp2
    go_ret
    exact ⟨_, rfl, hown, hb⟩

end Go.Proofs.YtpcnhldlfmdlhaaGreatDoor
