/-
  slices.Clone on parts and on ints: a row of this call's own.
-/
import Derived.Test.YtaojfpgbpakmpaaPrt
import Derived.Test.YtaojfpgbpakmpaaRec2
namespace Go.Proofs.Ytaojfpgbpakmpaa
open Go.RowKit

theorem info_part : (Try.prog.info? 143).map (fun i => (i.zero, i.size, i.bytes)) = some (some (.agg #[.string ⟨#[]⟩, .string ⟨#[]⟩, .int .i64 0]), 3, 40) := by kernel_rfl
theorem info_int : (Try.prog.info? 3).map (fun i => (i.zero, i.size, i.bytes)) = some (some (.int .i64 0), 1, 8) := by kernel_rfl

set_option maxRecDepth 100000 in
set_option maxHeartbeats 400000 in
theorem slices_Clone_part (v : Value) (l : List Part) (w : World) (h : RP w v l) :
    Calls Try.prog 122 #[v] w fun e w' => ∃ v', e = .returned v' ∧ OS 143 3 cPart w' w.heap.size v' l ∧ Below w.heap.size w w' := by
  obtain ⟨i0, hi, hz0, hz1, hz2⟩ := info_parts info_part
  have hh := h
  obtain ⟨a, c, rfl, hlc, hcm, hre, hno, hat⟩ := hh
  cases a with
  | none =>
    have hc0 := hno rfl
    subst hc0
    have hl0 : l = [] := List.eq_nil_of_length_eq_zero (by omega)
    subst hl0
    have he := fun w => Lib.run_eql_slice_nil (P := Try.prog) w 39 143 none 0 0 0 0 Try.underlying39
    go_enter Try.func122, Try.ntmps122
    go_wp2
    go_ret
    exact ⟨_, rfl, OS.nil, Below.refl _ _⟩
  | some ad =>
    have he := fun w => Lib.run_eql_slice_nil (P := Try.prog) w 39 143 (some ad) l.length c 0 0 Try.underlying39
    clear hat
    go_enter Try.func122, Try.ntmps122
    go_wp2_with (at_builtin; go_must (refine wpL_append flat_part rfl (.tmp 5) (.tmp 6) 39 rfl 143 i0 _ Try.underlying39 hi hz0 hz1 hz2 rfl w.heap.size _ [] rfl (os_empty' _ _ _ _ (by simp) (by simp)) _ l rfl (h.mono EPart.stable (b_alloc (Below.refl _ _) _)) ?c1 ?c2 ?c3 ?_))
    case c1 => simp; omega
    case c2 => simp [maxLen]; omega
    case c3 => simp
    intro v' w1 hown hg
    have hb := b_grown (b_alloc (Below.refl w.heap.size w) (.cells #[] 143)) hg (fun k hk => by simp [Value.ownBlock] at hk; omega)
    clear hg
    go_wp2
    go_ret
    exact ⟨_, rfl, hown, hb⟩

set_option maxRecDepth 100000 in
set_option maxHeartbeats 400000 in
theorem slices_Clone_int (v : Value) (l : List Int) (w : World) (h : RI w v l) :
    Calls Try.prog 96 #[v] w fun e w' => ∃ v', e = .returned v' ∧ OS 3 1 cI w' w.heap.size v' l ∧ Below w.heap.size w w' := by
  obtain ⟨i0, hi, hz0, hz1, hz2⟩ := info_parts info_int
  have hh := h
  obtain ⟨a, c, rfl, hlc, hcm, hre, hno, hat⟩ := hh
  cases a with
  | none =>
    have hc0 := hno rfl
    subst hc0
    have hl0 : l = [] := List.eq_nil_of_length_eq_zero (by omega)
    subst hl0
    have he := fun w => Lib.run_eql_slice_nil (P := Try.prog) w 31 3 none 0 0 0 0 Try.underlying31
    go_enter Try.func96, Try.ntmps96
    go_wp2
    go_ret
    exact ⟨_, rfl, OS.nil, Below.refl _ _⟩
  | some ad =>
    have he := fun w => Lib.run_eql_slice_nil (P := Try.prog) w 31 3 (some ad) l.length c 0 0 Try.underlying31
    clear hat
    go_enter Try.func96, Try.ntmps96
    go_wp2_with (at_builtin; go_must (refine wpL_append flat_i rfl (.tmp 5) (.tmp 6) 31 rfl 3 i0 (.int .i64 0) Try.underlying31 hi hz0 hz1 hz2 rfl w.heap.size _ [] rfl (os_empty' _ _ _ _ (by simp) (by simp)) _ l rfl (h.mono EI.stable (b_alloc (Below.refl _ _) _)) ?c1 ?c2 ?c3 ?_))
    case c1 => simp; omega
    case c2 => simp [maxLen]; omega
    case c3 => simp
    intro v' w1 hown hg
    have hb := b_grown (b_alloc (Below.refl w.heap.size w) (.cells #[] 3)) hg (fun k hk => by simp [Value.ownBlock] at hk; omega)
    clear hg
    go_wp2
    go_ret
    exact ⟨_, rfl, hown, hb⟩
end Go.Proofs.Ytaojfpgbpakmpaa
