/-
  The law IndexPuts: its walk. Printed by gen_ipw.py.
-/
import Derived.Test.YtcbopanekmpllaaPuti
import Derived.Test.YtcbopanekmpllaaPutr
namespace Go.Proofs.Ytcbopanekmpllaa
open Go.RowKit

/-- What is wrong with putting an entry. -/
def putsE (x : Entry) (l : List Entry) : Int := putErr (entriesFault l) (entriesFault (putL x l))
theorem index_Put (v dv : Value) (l : List Entry) (x : Entry) (w : World) (h : RE w v l) (g : RP w dv x.parts) (hx : FitEntry x) :
    Calls Try.prog 18 #[v, .agg #[.string x.key, dv, .int .i64 x.pins, .int .i64 x.stamp]] w (EnRes (putsE x l) (putL x l) w) :=
  index_Put' v dv l x w h g hx _ _ (fun w h => index_Check v l w h) (fun v w h => index_Check v _ w h) rising_entries
theorem ref_EntriesPut (v dv : Value) (l : List Entry) (x : Entry) (w : World) (h : RE w v l) (g : RP w dv x.parts) (hx : FitEntry x) :
    Calls Try.prog 19 #[v, .agg #[.string x.key, dv, .int .i64 x.pins, .int .i64 x.stamp]] w (EnRes (putsE x l) (putL x l) w) :=
  ref_EntriesPut' v dv l x w h g hx _ _ (fun w h => ref_EntriesFault v l w h) (fun v w h => ref_EntriesFault v _ w h) rising_entries
theorem fit_of {w : World} {dv : Value} {x : Entry} (g : RP w dv x.parts) (h : okEntry x) : FitEntry x := by
  obtain ⟨_, _, _, _, _, hr, _, hat⟩ := g
  refine ⟨h, hr, fun p hp => ?_⟩
  obtain ⟨j, hj⟩ := List.getElem?_of_mem hp
  obtain ⟨_, _, _, _, _, _, _, q⟩ := hat j p hj
  exact q

set_option maxRecDepth 100000 in
set_option maxHeartbeats 1000000 in
theorem IndexPuts_walk (w : World) (v : Value) (l : List Entry) (cs : Array Value) (x : Entry) (h : RE w v l) (hx : VEntry w cs.toList x) :
    Calls Try.prog 4 #[v, .agg cs] w fun e w' => e = .returned (.bool true) ∧ Below w.heap.size w w' := by
  obtain ⟨dv, hc, hp, hs, hw1, hw2⟩ := hx
  obtain rfl : cs = #[.string x.key, dv, .int .i64 x.pins, .int .i64 x.stamp] := by
    cases cs
    simp only at hc
    rw [hc]
  have hfx := fit_of hp ⟨hs, hw1, hw2⟩
  have f1 := hid fun w (h : RE w v l) (g : RP w dv x.parts) => index_Put v dv l x w h g hfx
  have f2 := hid fun w (h : RE w v l) (g : RP w dv x.parts) => ref_EntriesPut v dv l x w h g hfx
  have hR := hid h
  have hP := hid hp
  obtain ⟨a, c, rfl, -⟩ := h
  obtain ⟨da, dc, rfl, -⟩ := hp
  unfold EnRes at f1 f2
  generalize putsE x l = ee at *
  generalize (if ee = 0 then putL x l else []) = L at *
  clear hfx hc
  go_enter Try.func4, Try.ntmps4
  go_wp2_with fail
  ((with_reducible refine (f1.out _ (hR.out.mono EEntry.stable (b_alloc (Below.refl w.heap.size w) (Obj.cells #[.string x.key, .slice da x.parts.length dc, .int .i64 x.pins, .int .i64 x.stamp] 31))) (hP.out.mono EPart.stable (b_alloc (Below.refl w.heap.size w) (Obj.cells #[.string x.key, .slice da x.parts.length dc, .int .i64 x.pins, .int .i64 x.stamp] 31)))).mono ?_); rintro e1 w1 ⟨v1, rfl, ra1, b1⟩)
  have hq_q_1 := hid (stays b1 (heap_alloc_new w (Obj.cells #[.string x.key, .slice da x.parts.length dc, .int .i64 x.pins, .int .i64 x.stamp] 31)))
  have hb1 := hid (b_call (b_alloc (Below.refl w.heap.size w) (Obj.cells #[.string x.key, .slice da x.parts.length dc, .int .i64 x.pins, .int .i64 x.stamp] 31)) b1)
  have r_R_1 := hid (hR.out.mono EEntry.stable (b_call (b_alloc (Below.refl w.heap.size w) (Obj.cells #[.string x.key, .slice da x.parts.length dc, .int .i64 x.pins, .int .i64 x.stamp] 31)) b1))
  have r_P_1 := hid (hP.out.mono EPart.stable (b_call (b_alloc (Below.refl w.heap.size w) (Obj.cells #[.string x.key, .slice da x.parts.length dc, .int .i64 x.pins, .int .i64 x.stamp] 31)) b1))
  have r_a1_1 := hid ra1
  clear ra1 b1
  obtain ⟨x_q_0, x_q_1, x_q_2, x_q_3⟩ := box4f hq_q_1.out
  go_wp2_with fail
  ((with_reducible refine (f2.out _ r_R_1.out r_P_1.out).mono ?_); rintro e2 w2 ⟨v2, rfl, ra2, b2⟩)
  clear x_q_0 x_q_1 x_q_2 x_q_3
  have hq_q_2 := hid (stays b2 hq_q_1.out)
  have hb2 := hid (b_call hb1.out b2)
  have r_R_2 := hid (r_R_1.out.mono EEntry.stable (b_call (Below.refl w1.heap.size w1) b2))
  have r_P_2 := hid (r_P_1.out.mono EPart.stable (b_call (Below.refl w1.heap.size w1) b2))
  have r_a1_2 := hid (r_a1_1.out.mono EEntry.stable (b_call (Below.refl w1.heap.size w1) b2))
  have r_a2_2 := hid ra2
  clear hq_q_1 hb1 r_R_1 r_P_1 r_a1_1 ra2 b2
  go_wp2_with fail
  ((with_reducible refine (law_sameEntries_yes _ _ _ L r_a1_2.out r_a2_2.out).mono ?_); rintro e3 w3 ⟨rfl, b3⟩)
  have hq_q_3 := hid (stays b3 hq_q_2.out)
  have hb3 := hid (b_call hb2.out b3)
  have r_R_3 := hid (r_R_2.out.mono EEntry.stable (b_call (Below.refl w2.heap.size w2) b3))
  have r_P_3 := hid (r_P_2.out.mono EPart.stable (b_call (Below.refl w2.heap.size w2) b3))
  have r_a1_3 := hid (r_a1_2.out.mono EEntry.stable (b_call (Below.refl w2.heap.size w2) b3))
  have r_a2_3 := hid (r_a2_2.out.mono EEntry.stable (b_call (Below.refl w2.heap.size w2) b3))
  clear hq_q_2 hb2 r_R_2 r_P_2 r_a1_2 r_a2_2 b3
  go_wp2_with fail
  go_ret
  exact ⟨rfl, hb3.out⟩
end Go.Proofs.Ytcbopanekmpllaa
