/-
  The law IndexDrops: its walk.
-/
import Derived.Test.YtaojfpgbpakmpaaDrE
namespace Go.Proofs.Ytaojfpgbpakmpaa
open Go.RowKit

theorem find_cases_E (s : ByteArray) (l : List Entry) : (findE (fun x : Entry => x.key) s l = 0 ∧ findI (fun x : Entry => x.key) s l = (atKey (fun x : Entry => x.key) s l : Int)) ∨
    (findE (fun x : Entry => x.key) s l = 5 ∧ findI (fun x : Entry => x.key) s l = 0 ∧ atKey (fun x : Entry => x.key) s l = l.length) := by
  unfold findE findI
  by_cases h : atKey (fun x : Entry => x.key) s l = l.length
  · rw [if_pos h, if_pos h]; exact .inr ⟨rfl, rfl, h⟩
  · rw [if_neg h, if_neg h]; exact .inl ⟨rfl, rfl⟩

set_option maxRecDepth 100000 in
set_option maxHeartbeats 1000000 in
theorem IndexDrops_walk' (v : Value) (l : List Entry) (s : ByteArray) (w : World) (h : RE w v l) (z : Int)
    (c1 : ∀ w, RE w v l → Calls Try.prog 123 #[v] w fun e w' => e = .returned (.int .i64 z) ∧ Below w.heap.size w w')
    (c2 : ∀ w, RE w v l → Calls Try.prog 125 #[v] w fun e w' => e = .returned (.int .i64 z) ∧ Below w.heap.size w w') :
    Calls Try.prog 7 #[v, .string s] w fun e w' => e = .returned (.bool true) ∧ Below w.heap.size w w' := by
  have f1 := hid fun w (g : RE w v l) => index_Find v l s w g
  have f2 := hid fun w (g : RE w v l) => index_Copy v l w g
  have f3 := hid fun w (g : RE w v l) => index_Drop v l s w g z c1
  have f4 := hid fun w (g : RE w v l) => ref_EntryAt v l s w g
  have f5 := hid fun w (g : RE w v l) => ref_EntriesDrop v l s w g z c2
  have hcase := find_cases_E s l
  have hfit := hid (fit_E h)
  have hR := hid h
  obtain ⟨a, c, rfl, hlc, hcm, hre, -⟩ := h
  unfold DropPost_E at f3 f5
  clear c1 c2
  generalize atKey (fun x : Entry => x.key) s l = k at *
  generalize findI (fun x : Entry => x.key) s l = fi at *
  generalize findE (fun x : Entry => x.key) s l = fe at *
  generalize dropE_E z s l = de at *
  generalize dropL_E z s l = dl at *
  rcases hcase with ⟨rfl, rfl⟩ | ⟨rfl, rfl, rfl⟩
  all_goals
    go_enter Try.func7, Try.ntmps7
    go_wp2_with fail
    ((with_reducible refine (f1.out _ hR.out).mono ?_); rintro e w1 ⟨rfl, b1⟩)
    go_wp2_with fail
    ((with_reducible refine (f2.out _ (hR.out.mono EEntry.stable b1)).mono ?_); rintro e w2 ⟨rfl, o2, b2⟩)
    have hb2 := hid (b_call b1 b2)
    have r2 := hid (o2.toR hre hfit.out)
    clear o2 b1 b2
    go_wp2_with fail
    ((with_reducible refine (f3.out _ (hR.out.mono EEntry.stable hb2.out)).mono ?_); rintro e w3 ⟨v3, rfl, r3, b3⟩)
    have hb3 := hid (b_call hb2.out b3)
    have r2' := hid (r2.out.mono EEntry.stable b3)
    replace r3 := hid r3
    clear b3
    go_wp2_with fail
    ((with_reducible refine (f4.out _ (hR.out.mono EEntry.stable hb3.out)).mono ?_); rintro e w4 ⟨rfl, rfl⟩)
    go_wp2_with fail
    ((with_reducible refine (f5.out _ (hR.out.mono EEntry.stable hb3.out)).mono ?_); rintro e w5 ⟨v5, rfl, r5, b5⟩)
    have hb5 := hid (b_call hb3.out b5)
    have r2'' := hid (r2'.out.mono EEntry.stable b5)
    have r3' := hid (r3.out.mono EEntry.stable b5)
    replace r5 := hid r5
    clear b5
    go_wp2_with fail
    ((with_reducible refine (law_sameEntries_yes _ _ _ l r2''.out (hR.out.mono EEntry.stable hb5.out)).mono ?_); rintro e w6 ⟨rfl, b6⟩)
    have hb6 := hid (b_call hb5.out b6)
    have r3'' := hid (r3'.out.mono EEntry.stable b6)
    have r5' := hid (r5.out.mono EEntry.stable b6)
    clear b6
    go_wp2_with fail
    ((with_reducible refine (law_sameEntries_yes _ _ _ dl r3''.out r5'.out).mono ?_); rintro e w7 ⟨rfl, b7⟩)
    have hb7 := hid (b_call hb6.out b7)
    clear b7
    go_wp2_with fail
    go_ret
    exact ⟨rfl, hb7.out⟩
theorem IndexDrops_walk (w : World) (v : Value) (l : List Entry) (s : ByteArray) (h : RE w v l) (_ : s.size ≤ 140737488351232) :
    Calls Try.prog 7 #[v, .string s] w fun e w' => e = .returned (.bool true) ∧ Below w.heap.size w w' :=
  IndexDrops_walk' v l s w h _ (fun w g => index_Check v l w g) (fun w g => ref_EntriesFault v l w g)
end Go.Proofs.Ytaojfpgbpakmpaa
