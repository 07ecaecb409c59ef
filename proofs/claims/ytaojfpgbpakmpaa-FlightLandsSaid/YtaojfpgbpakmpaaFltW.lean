/-
  The law FlightChecks: its walk.
-/
import Derived.Test.YtaojfpgbpakmpaaFltR
import Derived.Test.YtaojfpgbpakmpaaAtF
import Derived.Test.YtaojfpgbpakmpaaCpF
import Derived.Test.YtaojfpgbpakmpaaEqF
import Derived.Test.YtaojfpgbpakmpaaFtF
namespace Go.Proofs.Ytaojfpgbpakmpaa
open Go.RowKit

theorem find_cases_F (s : ByteArray) (l : List Flight) : (findE (fun x : Flight => x.key) s l = 0 ∧ findI (fun x : Flight => x.key) s l = (atKey (fun x : Flight => x.key) s l : Int)) ∨
    (findE (fun x : Flight => x.key) s l = 5 ∧ findI (fun x : Flight => x.key) s l = 0 ∧ atKey (fun x : Flight => x.key) s l = l.length) := by
  unfold findE findI
  by_cases h : atKey (fun x : Flight => x.key) s l = l.length
  · rw [if_pos h, if_pos h]; exact .inr ⟨rfl, rfl, h⟩
  · rw [if_neg h, if_neg h]; exact .inl ⟨rfl, rfl⟩

set_option maxRecDepth 100000 in
set_option maxHeartbeats 1000000 in
theorem FlightChecks_walk' (v : Value) (l : List Flight) (s : ByteArray) (w : World) (h : RF w v l) (z : Int)
    (c1 : ∀ w, RF w v l → Calls Try.prog 23 #[v] w fun e w' => e = .returned (.int .i64 z) ∧ Below w.heap.size w w')
    (c2 : ∀ w, RF w v l → Calls Try.prog 26 #[v] w fun e w' => e = .returned (.int .i64 z) ∧ Below w.heap.size w w') :
    Calls Try.prog 3 #[v, .string s] w fun e w' => e = .returned (.bool true) ∧ Below w.heap.size w w' := by
  have f1 := hid fun w (g : RF w v l) => flight_Find v l s w g
  have f2 := hid fun w (g : RF w v l) => flight_Copy v l w g
  have f4 := hid fun w (g : RF w v l) => ref_FlightAt v l s w g
  replace c1 := hid c1
  replace c2 := hid c2
  have hcase := find_cases_F s l
  have hfit := hid (fit_F h)
  have hR := hid h
  obtain ⟨a, c, rfl, hlc, hcm, hre, -⟩ := h
  generalize atKey (fun x : Flight => x.key) s l = k at *
  generalize findI (fun x : Flight => x.key) s l = fi at *
  generalize findE (fun x : Flight => x.key) s l = fe at *
  rcases hcase with ⟨rfl, rfl⟩ | ⟨rfl, rfl, rfl⟩
  all_goals
    go_enter Try.func3, Try.ntmps3
    go_wp2_with fail
    ((with_reducible refine (c1.out _ hR.out).mono ?_); rintro e w0 ⟨rfl, b0⟩)
    have hR1 := hid (hR.out.mono EFlight.stable b0)
    go_wp2_with fail
    ((with_reducible refine (f1.out _ hR1.out).mono ?_); rintro e w1 ⟨rfl, b1⟩)
    have hb1 := hid (b_call b0 b1)
    clear b0 b1
    go_wp2_with fail
    ((with_reducible refine (f2.out _ (hR.out.mono EFlight.stable hb1.out)).mono ?_); rintro e w2 ⟨rfl, o2, b2⟩)
    have hb2 := hid (b_call hb1.out b2)
    have r2 := hid (o2.toR hre hfit.out)
    clear o2 b2
    go_wp2_with fail
    ((with_reducible refine (c2.out _ (hR.out.mono EFlight.stable hb2.out)).mono ?_); rintro e w3 ⟨rfl, b3⟩)
    have hb3 := hid (b_call hb2.out b3)
    have r2' := hid (r2.out.mono EFlight.stable b3)
    clear b3
    go_wp2_with fail
    ((with_reducible refine (f4.out _ (hR.out.mono EFlight.stable hb3.out)).mono ?_); rintro e w4 ⟨rfl, rfl⟩)
    go_wp2_with fail
    ((with_reducible refine (law_sameFlights_yes _ _ _ l r2'.out (hR.out.mono EFlight.stable hb3.out)).mono ?_); rintro e w6 ⟨rfl, b6⟩)
    have hb6 := hid (b_call hb3.out b6)
    clear b6
    go_wp2_with fail
    go_ret
    exact ⟨rfl, hb6.out⟩
theorem FlightChecks_walk (w : World) (v : Value) (l : List Flight) (s : ByteArray) (h : RF w v l) (_ : s.size ≤ 140737488351232) :
    Calls Try.prog 3 #[v, .string s] w fun e w' => e = .returned (.bool true) ∧ Below w.heap.size w w' :=
  FlightChecks_walk' v l s w h _ (fun w g => flight_Check v l w g) (fun w g => ref_FlightsFault v l w g)
end Go.Proofs.Ytaojfpgbpakmpaa
