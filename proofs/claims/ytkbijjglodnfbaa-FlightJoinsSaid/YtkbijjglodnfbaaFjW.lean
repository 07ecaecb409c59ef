/-
  The law FlightJoins: its walk.
-/
import Derived.Test.YtkbijjglodnfbaaFjr
namespace Go.Proofs.Ytkbijjglodnfbaa
open Go.RowKit

theorem flights_ok6 {l : List Flight} (h0 : flightsFault l = 0) : l.length ≤ 6 ∧ ∀ x ∈ l, x.waiters.length ≤ 5 := ⟨by
  rcases Nat.lt_or_ge 6 l.length with h6 | h6
  · rw [flights_long h6] at h0; cases h0
  · exact h6, flights_fit h0⟩
theorem flight_JoinA (v : Value) (l : List Flight) (s : ByteArray) (n : Int) (w : World) (h : RF w v l) (hs : s.size ≤ 140737488351232) (hwf : (Lit.int .i64 n).wf = true) :
    Calls Try.prog 4 #[v, .string s, .int .i64 n] w (JoinPost (flightsFault l) (hexFault s) n s l w) :=
  flight_Join v l s n w h hs hwf _ flights_ok6 (fun w g => flight_Check v l w g)

set_option maxRecDepth 100000 in
set_option maxHeartbeats 1000000 in
theorem FlightJoins_walk (w : World) (v : Value) (l : List Flight) (s : ByteArray) (n : Int) (h : RF w v l) (hs : s.size ≤ 140737488351232) (hwf : (Lit.int .i64 n).wf = true) :
    Calls Try.prog 3 #[v, .string s, .int .i64 n] w fun e w' => e = .returned (.bool true) ∧ Below w.heap.size w w' := by
  have f1 := hid fun w (g : RF w v l) => flight_JoinA v l s n w g hs hwf
  have f2 := hid fun w (g : RF w v l) => ref_FlightJoined v l s n w g hs hwf
  have hR := hid h
  obtain ⟨a, c, rfl, -⟩ := h
  unfold JoinPost at f1 f2
  generalize joinE (flightsFault l) (hexFault s) n s l = ee at *
  generalize joinL (flightsFault l) (hexFault s) n s l = el at *
  generalize joinB (flightsFault l) (hexFault s) n s l = ew at *
  go_enter Try.func3, Try.ntmps3
  go_wp2_with fail
  ((with_reducible refine (f1.out _ hR.out).mono ?_); rintro e w1 ⟨v1, rfl, r1, -, b1⟩)
  have hR1 := hid (hR.out.mono EFlight.stable b1)
  replace b1 := hid b1
  replace r1 := hid r1
  go_wp2_with fail
  ((with_reducible refine (f2.out _ hR1.out).mono ?_); rintro e w2 ⟨v2, rfl, r2, -, b2⟩)
  have hb2 := hid (b_call b1.out b2)
  have r1' := hid (r1.out.mono EFlight.stable b2)
  replace r2 := hid r2
  clear b1 b2 r1
  go_wp2_with fail
  ((with_reducible refine (law_sameFlights_yes _ _ _ el r1'.out r2.out).mono ?_); rintro e w3 ⟨rfl, b3⟩)
  have hb3 := hid (b_call hb2.out b3)
  clear b3
  have q1 : (ew == ew) = true := by simp
  go_wp2_with fail
  go_ret
  exact ⟨rfl, hb3.out⟩
end Go.Proofs.Ytkbijjglodnfbaa
