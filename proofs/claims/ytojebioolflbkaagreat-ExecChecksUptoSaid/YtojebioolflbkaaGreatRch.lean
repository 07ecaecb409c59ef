/-
  reach.Parts, the reference's PartsIn, and the law ReachParts: its walk. Printed by gen_rch.py.
-/
import Derived.Test.YtojebioolflbkaaGreatDe
import Derived.Test.YtojebioolflbkaaGreatCl
import Derived.Test.YtojebioolflbkaaGreatBas
namespace Go.Proofs.YtojebioolflbkaaGreat
open Go.RowKit

theorem info_str : (Tryz.prog.info? 9).map (fun i => (i.zero, i.size, i.bytes)) = some (some (.string ⟨#[]⟩), 1, 16) := by kernel_rfl
theorem flat_rstr : Flat 1 cStr (ERaw cStr) := flat_raw (by decide) (fun _ => rfl) (fun _ u hu => by simp [cStr] at hu; subst hu; rfl)
/-- The digests of parts, in a row of this call's own. -/
def DigPost (L : List Part) (w : World) (e : Ending) (w' : World) : Prop :=
  ∃ v', e = .returned v' ∧ OS 9 1 cStr w' w.heap.size v' (L.map (·.digest)) ∧ Below w.heap.size w w'

set_option maxRecDepth 100000 in
set_option maxHeartbeats 1000000 in
theorem reach_Parts' (x : Blob) (dv : Value) (w : World) (h : RB w dv x.data) (L : List Part) (n : Int)
    (c1 : ∀ w, RB w dv x.data → Calls Tryz.prog 110 #[dv] w fun e w' => ∃ v', e = .returned (.tuple #[v', .int .i64 n]) ∧ RP w' v' L ∧ Below w.heap.size w w') :
    Calls Tryz.prog 60 #[.agg #[.string x.digest, dv, .int .i64 x.pins, .bool x.mark]] w (DigPost L w) := by
  obtain ⟨i0, ii0, hz0, hz1, hz2⟩ := info_parts info_str
  replace c1 := hid c1
  have hD := hid h
  obtain ⟨da, dc, rfl, -⟩ := h
  go_enter Tryz.func60, Tryz.ntmps60
  go_wp2_with fail
  ((with_reducible refine (c1.out _ (hD.out.mono EU8.stable (b_alloc (Below.refl _ _) _))).mono ?_); rintro e w1 ⟨v1, rfl, r1, b1⟩)
  have hb1 := hid (b_call (b_alloc (Below.refl w.heap.size w) _) b1)
  obtain ⟨pa, pc, rfl, hlc, hcm, hre, hno, hat⟩ := r1
  unfold maxLen at hcm
  replace hat := hid hat
  clear hno b1
  have hown0 : Hid (OS 9 1 cStr w1 w1.heap.size (.slice none 0 0) ((L.map (·.digest)).take 0)) := hid OS.nil
  unfold DigPost
  go_wp2_with fail
  go_loopw [5, 7, 16] (fun o _ i wr => ∃ k : Nat, k ≤ L.length ∧ i = .int .i64 (k : Int) ∧ Hid (OS 9 1 cStr wr w1.heap.size o ((L.map (·.digest)).take k)) ∧ Hid (Below w1.heap.size w1 wr)) (fun _ _ i _ => L.length - (intOf i).toNat)
  case atStart => exact ⟨0, by omega, rfl, hown0, hid (Below.refl _ _)⟩
  case round =>
    obtain ⟨k, hk, rfl, hown, hbr⟩ := hrel
    by_cases hlt : k < L.length
    · have hx : L[k]? = some L[k] := List.getElem?_eq_getElem hlt
      have htk := hid (List.take_succ_eq_append_getElem hlt)
      generalize L[k] = y at hx htk
      obtain ⟨bb, off, rfl, hbb, he⟩ := hat.out k _ hx
      obtain ⟨c0, c1', c2, s0, s1, wf⟩ := EPart.stable _ _ _ _ _ hbr.out hbb he
      have hbw : bb < wr.heap.size := Nat.lt_of_lt_of_le hbb hbr.out.size
      clear he hx
      have hown1 := hid (OS.alloc hown.out (Obj.cells #[.string y.name, .string y.digest, .int .i64 y.size] 104))
      have hsB := hbr.out.size
      have hrow := row_one (s := 1) (bs := 16) (cells := cStr) (wr.alloc (Obj.cells #[.string y.name, .string y.digest, .int .i64 y.size] 104)) 9 y.digest #[.string y.digest] (wr.heap.size + 1) (by simp) rfl (by decide)
      have hlk : ((L.map (·.digest)).take k).length ≤ L.length := by rw [List.length_take, List.length_map]; omega
      go_wp2_with (at_builtin; go_must (refine wpL_append flat_rstr rfl (.tmp 20) (.tmp 23) 26 rfl 9 i0 _ Tryz.underlying26 ii0 hz0 hz1 hz2 rfl w1.heap.size _ _ rfl (OS.alloc hown1.out _) _ [y.digest] rfl hrow ?c1 ?c2 ?c3 ?_))
      case c1 => simp only [List.length_cons, List.length_nil]; omega
      case c2 => simp only [List.length_cons, List.length_nil, maxLen]; omega
      case c3 => simp; omega
      intro v8 w8 ho8 hg8
      have hbr8 := hid ((((hbr.out.alloc hsB (Obj.cells #[.string y.name, .string y.digest, .int .i64 y.size] 104)).alloc (by simp; omega) (Obj.cells #[.string y.digest] 9)).grown hg8 (by simp; omega) (OS.block hown.out)))
      have hxs : Hid ((L.map (·.digest)).take k ++ [y.digest] = (L.map (·.digest)).take (k + 1)) := hid (by rw [← List.map_take, ← List.map_take, htk.out, List.map_append]; rfl)
      rw [hxs.out] at ho8
      replace ho8 := hid ho8
      clear hg8 hrow hown1 hown hbr hxs
      go_wp2_with fail
      go_roundw
      case rel => exact ⟨k + 1, by omega, by go_num, ho8, hbr8⟩
      case measure => simp [intOf]; omega
    · obtain rfl : k = L.length := by omega
      rw [List.take_of_length_le (by rw [List.length_map]; exact Nat.le_refl _)] at hown
      go_wp2_with fail
      go_ret
      exact ⟨_, rfl, OS.mono hown.out hb1.out.size, b_call hb1.out hbr.out⟩

set_option maxRecDepth 100000 in
set_option maxHeartbeats 1000000 in
theorem ref_PartsIn' (x : Blob) (dv : Value) (w : World) (h : RB w dv x.data) (L : List Part) (n : Int)
    (c1 : ∀ w, RB w dv x.data → Calls Tryz.prog 106 #[dv] w fun e w' => ∃ v', e = .returned (.tuple #[v', .int .i64 n]) ∧ RP w' v' L ∧ Below w.heap.size w w') :
    Calls Tryz.prog 55 #[.agg #[.string x.digest, dv, .int .i64 x.pins, .bool x.mark]] w (DigPost L w) := by
  obtain ⟨i0, ii0, hz0, hz1, hz2⟩ := info_parts info_str
  replace c1 := hid c1
  have hD := hid h
  obtain ⟨da, dc, rfl, -⟩ := h
  go_enter Tryz.func55, Tryz.ntmps55
  go_wp2_with fail
  ((with_reducible refine (c1.out _ (hD.out.mono EU8.stable (b_alloc (Below.refl _ _) _))).mono ?_); rintro e w1 ⟨v1, rfl, r1, b1⟩)
  have hb1 := hid (b_call (b_alloc (Below.refl w.heap.size w) _) b1)
  obtain ⟨pa, pc, rfl, hlc, hcm, hre, hno, hat⟩ := r1
  unfold maxLen at hcm
  replace hat := hid hat
  clear hno b1
  have hown0 : Hid (OS 9 1 cStr w1 w1.heap.size (.slice none 0 0) ((L.map (·.digest)).take 0)) := hid OS.nil
  unfold DigPost
  go_wp2_with fail
  go_loopw [5, 7, 16] (fun o _ i wr => ∃ k : Nat, k ≤ L.length ∧ i = .int .i64 (k : Int) ∧ Hid (OS 9 1 cStr wr w1.heap.size o ((L.map (·.digest)).take k)) ∧ Hid (Below w1.heap.size w1 wr)) (fun _ _ i _ => L.length - (intOf i).toNat)
  case atStart => exact ⟨0, by omega, rfl, hown0, hid (Below.refl _ _)⟩
  case round =>
    obtain ⟨k, hk, rfl, hown, hbr⟩ := hrel
    by_cases hlt : k < L.length
    · have hx : L[k]? = some L[k] := List.getElem?_eq_getElem hlt
      have htk := hid (List.take_succ_eq_append_getElem hlt)
      generalize L[k] = y at hx htk
      obtain ⟨bb, off, rfl, hbb, he⟩ := hat.out k _ hx
      obtain ⟨c0, c1', c2, s0, s1, wf⟩ := EPart.stable _ _ _ _ _ hbr.out hbb he
      have hbw : bb < wr.heap.size := Nat.lt_of_lt_of_le hbb hbr.out.size
      clear he hx
      have hown1 := hid (OS.alloc hown.out (Obj.cells #[.string y.name, .string y.digest, .int .i64 y.size] 104))
      have hsB := hbr.out.size
      have hrow := row_one (s := 1) (bs := 16) (cells := cStr) (wr.alloc (Obj.cells #[.string y.name, .string y.digest, .int .i64 y.size] 104)) 9 y.digest #[.string y.digest] (wr.heap.size + 1) (by simp) rfl (by decide)
      have hlk : ((L.map (·.digest)).take k).length ≤ L.length := by rw [List.length_take, List.length_map]; omega
      go_wp2_with (at_builtin; go_must (refine wpL_append flat_rstr rfl (.tmp 20) (.tmp 23) 26 rfl 9 i0 _ Tryz.underlying26 ii0 hz0 hz1 hz2 rfl w1.heap.size _ _ rfl (OS.alloc hown1.out _) _ [y.digest] rfl hrow ?c1 ?c2 ?c3 ?_))
      case c1 => simp only [List.length_cons, List.length_nil]; omega
      case c2 => simp only [List.length_cons, List.length_nil, maxLen]; omega
      case c3 => simp; omega
      intro v8 w8 ho8 hg8
      have hbr8 := hid ((((hbr.out.alloc hsB (Obj.cells #[.string y.name, .string y.digest, .int .i64 y.size] 104)).alloc (by simp; omega) (Obj.cells #[.string y.digest] 9)).grown hg8 (by simp; omega) (OS.block hown.out)))
      have hxs : Hid ((L.map (·.digest)).take k ++ [y.digest] = (L.map (·.digest)).take (k + 1)) := hid (by rw [← List.map_take, ← List.map_take, htk.out, List.map_append]; rfl)
      rw [hxs.out] at ho8
      replace ho8 := hid ho8
      clear hg8 hrow hown1 hown hbr hxs
      go_wp2_with fail
      go_roundw
      case rel => exact ⟨k + 1, by omega, by go_num, ho8, hbr8⟩
      case measure => simp [intOf]; omega
    · obtain rfl : k = L.length := by omega
      rw [List.take_of_length_le (by rw [List.length_map]; exact Nat.le_refl _)] at hown
      go_wp2_with fail
      go_ret
      exact ⟨_, rfl, OS.mono hown.out hb1.out.size, b_call hb1.out hbr.out⟩

theorem dig_ok {w : World} {v : Value} {L : List Part} (h : RP w v L) : ∀ x ∈ L, x.digest.size ≤ 140737488351232 := by
  intro x hx
  obtain ⟨i, hi⟩ := List.getElem?_of_mem hx
  obtain ⟨_, _, _, _, _, _, _, hat⟩ := h
  obtain ⟨_, _, _, _, he⟩ := hat i x hi
  exact he.2.2.2.2.1
theorem reads_str {e : TypeId} {w : World} {B : Nat} {v : Value} {l : List ByteArray} (h : OS e 1 cStr w B v l) (hb : l.length * 16 ≤ 140737488351232) (ho : ∀ x ∈ l, x.size ≤ 140737488351232) : RT w v l :=
  OS.reads (cells := cStr) (fun _ => rfl) (by decide) (fun b o x hx hc => ⟨hc 0 (by omega), ho x hx⟩) h hb

theorem decParts_len (b : List UInt8) : (decParts b).1.length ≤ 8 ∧ ∀ y ∈ (decParts b).1, y.digest.size ≤ 140737488351232 := by
  have key : ∀ (n : Nat) (ps : List Part) (l : List UInt8), (∀ y ∈ (decRest n ps l).1, y.digest.size ≤ 140737488351232) ∧ (decRest n ps l).1.length ≤ 8 := by
    intro n
    induction n with
    | zero =>
      intro ps l
      rw [decRest]
      split
      · simp
      · split
        · simp
        · rename_i h1 h2
          obtain ⟨h3, h4⟩ := partsFault_zero (l := ps) (by simpa using h2)
          refine ⟨fun y hy => ?_, h3⟩
          have := (hexFault_zero (h4 y hy).2.1).1
          omega
    | succ n ih =>
      intro ps l
      rw [decRest]
      split
      · simp
      · exact ih _ _
  unfold decParts
  split
  · simp
  · split
    · simp
    · split
      · simp
      · split
        · simp
        · exact ⟨(key _ _ _).2, (key _ _ _).1⟩
end Go.Proofs.YtojebioolflbkaaGreat
