/-
  room.Fits: what it answers; the law RoomFits.
-/
import Derived.Test.YtamepigaenkidaaRoom
namespace Go.Proofs.Ytamepigaenkidaa
open Go.RowKit

theorem lackV_nonneg (l : List Blob) (room more : Int) : 0 ≤ lackV l room more := by
  unfold lackV
  split
  · exact Int.le_refl _
  · omega

set_option maxRecDepth 100000 in
theorem room_Fits (v : Value) (l : List Blob) (room more : Int) (w : World) (h : RBl w v l) (h1 : 0 ≤ room) (h2 : room ≤ 4000) (h3 : 0 ≤ more) (h4 : more ≤ 4000) (hp : 0 < lackV l room more) :
    Calls Try.prog 58 #[v, .int .i64 room, .int .i64 more] w fun e w' => e = .returned (.int .i64 7) ∧ Below w.heap.size w w' := by
  go_enter Try.func58, Try.ntmps58
  go_wp2_with fail
  refine (room_Lacks _ _ _ _ _ h h1 h2 h3 h4).mono ?_
  rintro e w1 ⟨rfl, hb⟩
  go_wp2_with fail
  go_ret
  exact ⟨rfl, hb⟩

set_option maxRecDepth 100000 in
theorem room_Fits_yes (v : Value) (l : List Blob) (room more : Int) (w : World) (h : RBl w v l) (h1 : 0 ≤ room) (h2 : room ≤ 4000) (h3 : 0 ≤ more) (h4 : more ≤ 4000) (hp : lackV l room more = 0) :
    Calls Try.prog 58 #[v, .int .i64 room, .int .i64 more] w fun e w' => e = .returned (.int .i64 0) ∧ Below w.heap.size w w' := by
  go_enter Try.func58, Try.ntmps58
  go_wp2_with fail
  refine (room_Lacks _ _ _ _ _ h h1 h2 h3 h4).mono ?_
  rintro e w1 ⟨rfl, hb⟩
  go_wp2_with fail
  go_ret
  exact ⟨rfl, hb⟩

set_option maxRecDepth 100000 in
theorem room_Fits_no (v : Value) (room more : Int) (w : World) (h : ¬ inRoom room more) :
    Calls Try.prog 58 #[v, .int .i64 room, .int .i64 more] w fun e w' => e = .returned (.int .i64 4) ∧ w = w' := by
  replace h := hid h
  go_enter Try.func58, Try.ntmps58
  go_wp2_with fail
  refine (room_Lacks_no _ _ _ _ h.out).mono ?_
  rintro e w1 ⟨rfl, rfl⟩
  go_wp2_with fail
  go_ret
  exact ⟨rfl, rfl⟩

set_option maxRecDepth 100000 in
set_option maxHeartbeats 400000 in
theorem RoomFits_walk (w : World) (v : Value) (l : List Blob) (room more : Int) (h : RBl w v l) (_ : (Lit.int .i64 room).wf = true) (_ : (Lit.int .i64 more).wf = true) :
    Calls Try.prog 10 #[v, .int .i64 room, .int .i64 more] w fun e w' => e = .returned (.bool true) ∧ Below w.heap.size w w' := by
  by_cases hr : inRoom room more
  · obtain ⟨h1, h2, h3, h4⟩ := hr
    by_cases hp : lackV l room more = 0
    · go_enter Try.func10, Try.ntmps10
      go_wp2_with fail
      refine (room_Fits_yes _ _ _ _ _ h h1 h2 h3 h4 hp).mono ?_
      rintro e w1 ⟨rfl, b1⟩
      go_wp2_with fail
      refine (ref_RoomLacks _ _ _ _ _ (h.mono EBlob.stable b1) h1 h2 h3 h4).mono ?_
      rintro e w4 ⟨rfl, b4⟩
      have b4 := b_call b1 b4
      go_wp2_with fail
      go_ret
      exact ⟨rfl, b4⟩
    · have hn := lackV_nonneg l room more
      have hq : 0 < lackV l room more := by omega
      have hz : (lackV l room more == 0) = false := by simp; omega
      go_enter Try.func10, Try.ntmps10
      go_wp2_with fail
      refine (room_Fits _ _ _ _ _ h h1 h2 h3 h4 hq).mono ?_
      rintro e w1 ⟨rfl, b1⟩
      go_wp2_with fail
      refine (ref_RoomLacks _ _ _ _ _ (h.mono EBlob.stable b1) h1 h2 h3 h4).mono ?_
      rintro e w4 ⟨rfl, b4⟩
      have b4 := b_call b1 b4
      go_wp2_with fail
      go_ret
      exact ⟨rfl, b4⟩
  · replace hr := hid hr
    go_enter Try.func10, Try.ntmps10
    go_wp2_with fail
    refine (room_Fits_no _ _ _ _ hr.out).mono ?_
    rintro e w2 ⟨rfl, rfl⟩
    go_wp2_with fail
    refine (ref_RoomLacks_no _ _ _ _ hr.out).mono ?_
    rintro e w4 ⟨rfl, rfl⟩
    go_wp2_with fail
    go_ret
    exact ⟨rfl, Below.refl _ _⟩
end Go.Proofs.Ytamepigaenkidaa
