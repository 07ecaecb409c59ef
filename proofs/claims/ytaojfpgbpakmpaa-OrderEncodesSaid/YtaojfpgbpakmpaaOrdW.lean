/-
  The law OrderEncodes: its walk.
-/
import Derived.Test.YtaojfpgbpakmpaaOrd9
import Derived.Test.YtaojfpgbpakmpaaOpen3
namespace Go.Proofs.Ytaojfpgbpakmpaa
open Go.RowKit

set_option maxRecDepth 100000 in
set_option maxHeartbeats 400000 in
theorem OrderEncodes_walk' (o : Order) (dv pv : Value) (w : World) (hd : RB w dv o.data) (hp : RP w pv o.parts) (hs : o.digest.size ≤ 140737488351232) :
    Calls Try.prog 6 #[.agg #[.int .i64 o.kind, .int .i64 o.n, .string o.digest, dv, pv]] w fun e w' => e = .returned (.bool true) ∧ Below w.heap.size w w' := by
  have f1 := hid fun w (g1 : RB w dv o.data) (g2 : RP w pv o.parts) => order_Check o dv pv w g1 g2 hs
  have f2 := hid fun w (g1 : RB w dv o.data) (g2 : RP w pv o.parts) => order_Encode o dv pv w g1 g2 hs
  have f3 := hid fun w (g1 : RB w dv o.data) (g2 : RP w pv o.parts) => ref_OrderFault o dv pv w g1 g2 hs
  have f4 := hid fun w (g1 : RB w dv o.data) (g2 : RP w pv o.parts) => ref_OrderBytes o dv pv w g1 g2 hs
  generalize ordFault o = z at *
  generalize ordRes o = r at *
  have hD := hid hd
  have hP := hid hp
  obtain ⟨da, dc, rfl, -⟩ := hd
  obtain ⟨pa, pc, rfl, -⟩ := hp
  go_enter Try.func6, Try.ntmps6
  go_wp2_with fail
  ((with_reducible refine (f1.out _ (hD.out.mono EU8.stable (b_alloc (Below.refl _ _) _)) (hP.out.mono EPart.stable (b_alloc (Below.refl _ _) _))).mono ?_); rintro e w1 ⟨rfl, b1⟩)
  obtain ⟨bc1, bf1⟩ := bcell b1
  have hs1 : w.heap.size < w1.heap.size := by have := b1.size; simp at this; omega
  have hb1 := hid (b_call (b_alloc (Below.refl w.heap.size w) _) b1)
  go_wp2_with fail
  ((with_reducible refine (f2.out _ (hD.out.mono EU8.stable hb1.out) (hP.out.mono EPart.stable hb1.out)).mono ?_); rintro e w2 ⟨v2, rfl, r2, b2⟩)
  obtain ⟨bc2, bf2⟩ := bcell b2
  have hs2 : w.heap.size < w2.heap.size := Nat.lt_of_lt_of_le hs1 b2.size
  have hb2 := hid (b_call hb1.out b2)
  go_wp2_with fail
  ((with_reducible refine (f3.out _ (hD.out.mono EU8.stable hb2.out) (hP.out.mono EPart.stable hb2.out)).mono ?_); rintro e w3 ⟨rfl, b3⟩)
  obtain ⟨bc3, bf3⟩ := bcell b3
  have hs3 : w.heap.size < w3.heap.size := Nat.lt_of_lt_of_le hs2 b3.size
  have hb3 := hid (b_call hb2.out b3)
  go_wp2_with fail
  ((with_reducible refine (f4.out _ (hD.out.mono EU8.stable hb3.out) (hP.out.mono EPart.stable hb3.out)).mono ?_); rintro e w4 ⟨v4, rfl, r4, b4⟩)
  have hb4 := hid (b_call hb3.out b4)
  have r2' := hid (r2.mono EU8.stable (b_call b3 b4))
  replace r4 := hid r4
  clear b1 b2 b3 b4 r2
  go_wp2_with fail
  ((with_reducible refine (law_sameBytes_yes _ _ _ _ r2'.out r4.out).mono ?_); rintro e w5 ⟨rfl, rfl⟩)
  go_wp2_with fail
  go_ret
  exact ⟨rfl, hb4.out⟩
theorem OrderEncodes_walk (w : World) (cs : Array Value) (x : Order) (hx : VOrder w cs.toList x) :
    Calls Try.prog 6 #[.agg cs] w fun e w' => e = .returned (.bool true) ∧ Below w.heap.size w w' := by
  obtain ⟨dv, pv, hc, hd, hp, hs, -⟩ := hx
  obtain rfl : cs = #[.int .i64 x.kind, .int .i64 x.n, .string x.digest, dv, pv] := by
    cases cs
    simp only at hc
    rw [hc]
  exact OrderEncodes_walk' x dv pv w hd hp hs
end Go.Proofs.Ytaojfpgbpakmpaa
