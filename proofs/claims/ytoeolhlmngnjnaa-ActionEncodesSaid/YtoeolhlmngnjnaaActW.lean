/-
  The law ActionEncodes: its walk.
-/
import Derived.Test.YtoeolhlmngnjnaaAct3
import Derived.Test.YtoeolhlmngnjnaaOpn
namespace Go.Proofs.Ytoeolhlmngnjnaa
open Go.RowKit

set_option maxRecDepth 100000 in
set_option maxHeartbeats 400000 in
theorem ActionEncodes_walk' (s : ByteArray) (v : Value) (l : List Part) (w : World) (hs : s.size ≤ 140737488351232) (h : RP w v l) :
    Calls Try.prog 3 #[.agg #[.string s, v]] w fun e w' => e = .returned (.bool true) ∧ Below w.heap.size w w' := by
  have f1 := hid fun w (g : RP w v l) => action_Check s v l w hs g
  have f2 := hid fun w (g : RP w v l) => action_Encode s v l w hs g
  have f3 := hid fun w (g : RP w v l) => ref_ActionFault s v l w hs g
  have f4 := hid fun w (g : RP w v l) => ref_ActionBytes s v l w hs g
  generalize actFault s l = z at *
  generalize actRes s l = r at *
  have hP := hid h
  obtain ⟨a, c, rfl, -⟩ := h
  go_enter Try.func3, Try.ntmps3
  go_wp2_with fail
  ((with_reducible refine (f1.out _ (hP.out.mono EPart.stable (b_alloc (Below.refl _ _) _))).mono ?_); rintro e w1 ⟨rfl, b1⟩)
  obtain ⟨bc1, bf1⟩ := bcell b1
  have hs1 : w.heap.size < w1.heap.size := by have := b1.size; simp at this; omega
  have hb1 := hid (b_call (b_alloc (Below.refl w.heap.size w) _) b1)
  go_wp2_with fail
  ((with_reducible refine (f2.out _ (hP.out.mono EPart.stable hb1.out)).mono ?_); rintro e w2 ⟨v2, rfl, r2, b2⟩)
  obtain ⟨bc2, bf2⟩ := bcell b2
  have hs2 : w.heap.size < w2.heap.size := Nat.lt_of_lt_of_le hs1 b2.size
  have hb2 := hid (b_call hb1.out b2)
  go_wp2_with fail
  ((with_reducible refine (f3.out _ (hP.out.mono EPart.stable hb2.out)).mono ?_); rintro e w3 ⟨rfl, b3⟩)
  obtain ⟨bc3, bf3⟩ := bcell b3
  have hs3 : w.heap.size < w3.heap.size := Nat.lt_of_lt_of_le hs2 b3.size
  have hb3 := hid (b_call hb2.out b3)
  go_wp2_with fail
  ((with_reducible refine (f4.out _ (hP.out.mono EPart.stable hb3.out)).mono ?_); rintro e w4 ⟨v4, rfl, r4, b4⟩)
  have hb4 := hid (b_call hb3.out b4)
  have r2' := hid (r2.mono EU8.stable (b_call b3 b4))
  replace r4 := hid r4
  clear b1 b2 b3 b4 r2
  go_wp2_with fail
  ((with_reducible refine (law_sameBytes_yes _ _ _ _ r2'.out r4.out).mono ?_); rintro e w5 ⟨rfl, rfl⟩)
  go_wp2_with fail
  go_ret
  exact ⟨rfl, hb4.out⟩
theorem ActionEncodes_walk (w : World) (cs : Array Value) (x : Action) (hx : VAction w cs.toList x) :
    Calls Try.prog 3 #[.agg cs] w fun e w' => e = .returned (.bool true) ∧ Below w.heap.size w w' := by
  obtain ⟨pv, hc, hp, hs⟩ := hx
  obtain rfl : cs = #[.string x.command, pv] := by
    cases cs
    simp only at hc
    rw [hc]
  exact ActionEncodes_walk' x.command pv x.inputs w hs hp
end Go.Proofs.Ytoeolhlmngnjnaa
