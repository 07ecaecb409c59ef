/-
  action.Encode and the reference's ActionBytes: what each answers.
-/
import Derived.Test.YtoeolhlmngnjnaaAct
import Derived.Test.YtoeolhlmngnjnaaEn
import Derived.Test.YtoeolhlmngnjnaaJoin
namespace Go.Proofs.Ytoeolhlmngnjnaa
open Go.RowKit

theorem holds_of {w : World} {v : Value} {l : List UInt8} (h : RB w v l) : Lib.HoldsBytes w v l := by
  obtain ⟨a, c, rfl, hlc, hcm, hre, hno, hat⟩ := h
  refine ⟨a, c, rfl, ?_, ?_⟩
  · rintro rfl
    cases l with
    | nil => rfl
    | cons x l =>
      obtain ⟨b, off, hb, _⟩ := hat 0 x rfl
      cases hb
  · rintro ad rfl i x hx
    obtain ⟨b, off, hb, _, he⟩ := hat i x hx
    simp only [Option.some.injEq] at hb
    subst hb
    rw [Lib.add_plain2]
    rw [Nat.mul_one] at he
    exact he
theorem cell_blk {w : World} {a : Addr} {v : Value} (h : w.cell? a = some v) : a.block < w.heap.size := by
  unfold World.cell? at h
  split at h
  · rename_i hb; exact (Array.getElem?_eq_some_iff.1 hb).1
  · cases h
theorem fresh_reads {B : Nat} {w : World} {v : Value} {l : List UInt8} (h : Lib.FreshBytes B w v l) (hl : l.length ≤ 140737488351232) : RB w v l := by
  obtain ⟨g, cap, zs, rfl, hB, hlc, hm, hz, hr, hb, hcell, _⟩ := h
  refine ⟨some ⟨g, 0, none⟩, cap, rfl, hlc, hm, by omega, fun h => (by cases h), fun k x hk => ⟨g, 0, rfl, ?_, ?_⟩⟩
  · have hkl := (List.getElem?_eq_some_iff.1 hk).1
    exact cell_blk (hcell k (by omega))
  · have hkl := (List.getElem?_eq_some_iff.1 hk).1
    have hc := hcell k (by omega)
    unfold EU8
    rw [Nat.zero_add, Nat.mul_one, hc]
    rw [← hb] at hk
    unfold Lib.bytesOf at hk
    rw [List.getElem?_map, List.getElem?_take_of_lt hkl] at hk
    have hkz : k < zs.length := by omega
    rw [List.getElem?_eq_getElem hkz] at hk
    simp only [Option.map_some, Option.some.injEq] at hk
    obtain ⟨h0, h1⟩ := hr zs[k] (List.getElem_mem hkz)
    rw [List.getD_eq_getElem?_getD, List.getElem?_eq_getElem hkz, ← hk]
    simp
    omega

def actBytes (s : ByteArray) (l : List Part) : List UInt8 := [65, 65, 49] ++ textBytes s ++ encParts l
def actRes (s : ByteArray) (l : List Part) : List UInt8 := if actFault s l = 0 then actBytes s l else []
theorem actFault_zero {s : ByteArray} {l : List Part} (h : actFault s l = 0) : s.size ≤ 60 ∧ partsFault l = 0 := by
  unfold actFault at h
  split at h
  · rename_i h1; exact ⟨(textFault_zero h1).2.1, h⟩
  · rename_i h1; exact absurd h h1
theorem encParts_len {l : List Part} (h : partsFault l = 0) : (encParts l).length ≤ 1000 := by
  obtain ⟨h8, hall⟩ := partsFault_zero h
  have := encs_len hall
  have := varint_len5 l.length (by omega)
  simp only [encParts, List.length_append, List.length_cons, List.length_nil]
  omega

set_option maxRecDepth 100000 in
set_option maxHeartbeats 1000000 in
theorem action_Encode_ok (s : ByteArray) (v : Value) (l : List Part) (w : World) (hs : s.size ≤ 140737488351232) (h : RP w v l) (hz : actFault s l = 0) :
    Calls Try.prog 6 #[.agg #[.string s, v]] w fun e w' => ∃ v', e = .returned (.tuple #[v', .int .i64 0]) ∧ RB w' v' (actBytes s l) ∧ Below w.heap.size w w' := by
  have hch := fun w (g : RP w v l) => action_Check s v l w hs g
  obtain ⟨hs60, hzp⟩ := actFault_zero hz
  have hen := fun w (g : RP w v l) => manifest_Encode v l w g
  have hr : encRes l = encParts l := by unfold encRes; rw [if_pos hzp]
  rw [hz] at hch
  rw [hzp, hr] at hen
  have hel := encParts_len hzp
  have htl := textBytes_len s (by omega)
  replace hch := hid hch
  replace hen := hid hen
  clear hr
  have hP := hid h
  obtain ⟨a, c, rfl, -⟩ := h
  have kc := fun (W : World) (C : Array Value) (n c : Nat) => Lib.run_convert_bytes_const (P := Try.prog) W 27 5 C n c Try.underlying27 Try.underlying5
  go_enter Try.func6, Try.ntmps6
  go_wp2_with fail
  ((with_reducible refine (hch.out _ (hP.out.mono EPart.stable (b_alloc (Below.refl _ _) _))).mono ?_); rintro e w1 ⟨rfl, b1⟩)
  obtain ⟨bc1, bf1⟩ := bcell b1
  have hs1 : w.heap.size < w1.heap.size := by have := b1.size; simp at this; omega
  have hb1 := hid (b_call (b_alloc (Below.refl w.heap.size w) _) b1)
  go_wp2_with fail
  ((with_reducible refine (wire_Text s _ (by omega)).mono ?_); rintro e w2 ⟨v2, rfl, o2, b2⟩)
  obtain ⟨bc2, bf2⟩ := bcell b2
  have hs2 : w.heap.size < w2.heap.size := Nat.lt_of_lt_of_le hs1 b2.size
  have hb2 := hid (b_call hb1.out b2)
  have r2 := reads_u8 o2 (by omega)
  clear o2
  go_wp2_with fail
  ((with_reducible refine (hen.out _ (hP.out.mono EPart.stable hb2.out)).mono ?_); rintro e w3 ⟨v3, rfl, r3, b3⟩)
  have hb3 := hid (b_call hb2.out b3)
  have r2' := hid (r2.mono EU8.stable b3)
  obtain ⟨a2, c2, rfl, -⟩ := id r2
  obtain ⟨a3, c3, rfl, -⟩ := id r3
  replace r3 := hid r3
  clear b1 b2 b3 bc1 bc2 bf1 bf2 r2
  go_wp2_with fail
  obtain ⟨w4, hw4⟩ : ∃ w4 : World, w4 = (w3.alloc (Obj.cells #[.int .u8 65, .int .u8 65, .int .u8 49] 5 (3, 4))).alloc (Obj.cells #[.slice (some ⟨w3.heap.size, 0, none⟩) 3 3, .slice a2 (textBytes s).length c2, .slice a3 (encParts l).length c3] 27) := ⟨_, rfl⟩
  have hb34 : Below w3.heap.size w3 w4 := by rw [hw4]; exact b_alloc (b_alloc (Below.refl _ w3) _) _
  have q0 : w4.heap[w3.heap.size]? = some (.cells #[.int .u8 65, .int .u8 65, .int .u8 49] 5 (3, 4)) := by rw [hw4]; exact heap_alloc2_old w3 _ _
  have q1 : w4.heap[w3.heap.size + 1]? = some (.cells #[.slice (some ⟨w3.heap.size, 0, none⟩) 3 3, .slice a2 (textBytes s).length c2, .slice a3 (encParts l).length c3] 27 (0, 0)) := by rw [hw4]; exact heap_alloc2_new w3 _ _
  rw [← hw4]
  have H0 : Lib.HoldsBytes w4 (.slice (some ⟨w3.heap.size, 0, none⟩) 3 3) [65, 65, 49] := by
    refine ⟨_, 3, rfl, (fun e => by cases e), fun ad had i x hx => ?_⟩
    simp only [Option.some.injEq] at had
    subst had
    rw [Lib.add_plain2, Nat.zero_add, cell_of_row w4 w3.heap.size i _ _ _ q0]
    rcases i with _ | _ | _ | i <;> simp at hx <;> subst hx <;> rfl
  have H1 := holds_of (r2'.out.mono EU8.stable hb34)
  have H2 := holds_of (r3.out.mono EU8.stable hb34)
  have hPA : Hid (Lib.PartsAt w4 ⟨w3.heap.size + 1, 0, none⟩ [.slice (some ⟨w3.heap.size, 0, none⟩) 3 3, .slice a2 (textBytes s).length c2, .slice a3 (encParts l).length c3] [[65, 65, 49], textBytes s, encParts l]) := by
    refine hid ⟨rfl, fun i u hu => ?_, fun i u m hu hm => ?_⟩
    · rw [Lib.add_plain2, Nat.zero_add, cell_of_row w4 (w3.heap.size + 1) i _ _ _ q1]
      rcases i with _ | _ | _ | i <;> simp at hu <;> subst hu <;> rfl
    · rcases i with _ | _ | _ | i <;> simp at hu hm <;> subst hu <;> subst hm <;> assumption
  have hb4 := hid (b_call hb3.out hb34)
  have hS0 : Lib.HoldsBytes w4 (.slice none 0 0) [] := by refine ⟨none, 0, rfl, fun _ => rfl, fun _ e => ?_⟩; cases e
  clear H0 H1 H2 q0 q1 hw4 hb34 kc
  ((with_reducible refine (Try.bytes_Join (w3.heap.size + 1) 0 3 3 _ [[65, 65, 49], textBytes s, encParts l] (.slice none 0 0) [] w4 rfl (by decide) hPA.out (by decide) hS0 (by decide) (by simp [Lib.lens]; omega)).mono ?_); rintro e w5 ⟨v5, rfl, f5, b5⟩)
  have hj : Lib.join [[65, 65, 49], textBytes s, encParts l] [] = actBytes s l := by simp [Lib.join, actBytes, List.intercalate]
  rw [hj] at f5
  have r5 := hid (fresh_reads f5 (by simp only [actBytes, List.length_append, List.length_cons, List.length_nil]; omega))
  have hb5 := hid (b_call hb4.out b5)
  clear f5 b5
  go_wp2_with fail
  go_ret2
  exact ⟨_, rfl, r5.out, hb5.out⟩

set_option maxRecDepth 100000 in
theorem action_Encode (s : ByteArray) (v : Value) (l : List Part) (w : World) (hs : s.size ≤ 140737488351232) (h : RP w v l) :
    Calls Try.prog 6 #[.agg #[.string s, v]] w fun e w' => ∃ v', e = .returned (.tuple #[v', .int .i64 (actFault s l)]) ∧ RB w' v' (actRes s l) ∧ Below w.heap.size w w' := by
  by_cases hz : actFault s l = 0
  · unfold actRes
    rw [if_pos hz, hz]
    exact action_Encode_ok s v l w hs h hz
  · have ht : (actFault s l != 0) = true := by simp [hz]
    have hr : actRes s l = [] := by unfold actRes; rw [if_neg hz]
    rw [hr]
    have hch := action_Check s v l _ hs (h.mono EPart.stable (b_alloc (Below.refl w.heap.size w) (Obj.cells #[.string s, v] 24)))
    generalize actFault s l = z at *
    clear hr
    replace hch := hid hch
    obtain ⟨a, c, rfl, -⟩ := h
    go_enter Try.func6, Try.ntmps6
    go_wp2_with fail
    ((with_reducible refine hch.out.mono ?_); rintro e w1 ⟨rfl, b1⟩)
    have hb1 := hid (b_call (b_alloc (Below.refl w.heap.size w) _) b1)
    clear b1
    go_wp2_with fail
    go_ret2
    exact ⟨_, rfl, RS.nil, hb1.out⟩
end Go.Proofs.Ytoeolhlmngnjnaa
