/-
  The law FlightLands: its walk.
-/
import Derived.Test.YtaojfpgbpakmpaaFltE
namespace Go.Proofs.Ytaojfpgbpakmpaa
open Go.RowKit

set_option maxRecDepth 100000 in
set_option maxHeartbeats 1000000 in
theorem FlightLands_walk' (v : Value) (l : List Flight) (s : ByteArray) (w : World) (h : RF w v l) (z : Int) (hw : z = 0 → ∀ x ∈ l, x.waiters.length ≤ 5)
    (c1 : ∀ w, RF w v l → Calls Try.prog 23 #[v] w fun e w' => e = .returned (.int .i64 z) ∧ Below w.heap.size w w')
    (c2 : ∀ w, RF w v l → Calls Try.prog 26 #[v] w fun e w' => e = .returned (.int .i64 z) ∧ Below w.heap.size w w') :
    Calls Try.prog 4 #[v, .string s] w fun e w' => e = .returned (.bool true) ∧ Below w.heap.size w w' := by
  have f1 := hid fun w (g : RF w v l) => flight_End v l s w g z hw c1
  have f2 := hid fun w (g : RF w v l) => ref_FlightEnded v l s w g z hw c2
  have hR := hid h
  obtain ⟨a, c, rfl, -⟩ := h
  unfold EndPost at f1 f2
  clear c1 c2 hw
  generalize endE z s l = ee at *
  generalize endL z s l = el at *
  generalize endW z s l = ew at *
  go_enter Try.func4, Try.ntmps4
  go_wp2_with fail
  ((with_reducible refine (f1.out _ hR.out).mono ?_); rintro e w1 ⟨v1, u1, rfl, r1, s1, b1⟩)
  have hR1 := hid (hR.out.mono EFlight.stable b1)
  replace b1 := hid b1
  replace r1 := hid r1
  replace s1 := hid s1
  go_wp2_with fail
  ((with_reducible refine (f2.out _ hR1.out).mono ?_); rintro e w2 ⟨v2, u2, rfl, r2, s2, b2⟩)
  have hb2 := hid (b_call b1.out b2)
  have r1' := hid (r1.out.mono EFlight.stable b2)
  have s1' := hid (s1.out.mono EI.stable b2)
  replace r2 := hid r2
  replace s2 := hid s2
  clear b1 b2 r1 s1
  go_wp2_with fail
  ((with_reducible refine (law_sameFlights_yes _ _ _ el r1'.out r2.out).mono ?_); rintro e w3 ⟨rfl, b3⟩)
  have hb3 := hid (b_call hb2.out b3)
  have s1'' := hid (s1'.out.mono EI.stable b3)
  have s2' := hid (s2.out.mono EI.stable b3)
  clear b3
  go_wp2_with fail
  ((with_reducible refine (law_sameInts_yes _ _ _ ew s1''.out s2'.out).mono ?_); rintro e w4 ⟨rfl, b4⟩)
  have hb4 := hid (b_call hb3.out b4)
  clear b4
  go_wp2_with fail
  go_ret
  exact ⟨rfl, hb4.out⟩
theorem FlightLands_walk (w : World) (v : Value) (l : List Flight) (s : ByteArray) (h : RF w v l) (_ : s.size ≤ 140737488351232) :
    Calls Try.prog 4 #[v, .string s] w fun e w' => e = .returned (.bool true) ∧ Below w.heap.size w w' :=
  FlightLands_walk' v l s w h _ flights_fit (fun w g => flight_Check v l w g) (fun w g => ref_FlightsFault v l w g)
end Go.Proofs.Ytaojfpgbpakmpaa
