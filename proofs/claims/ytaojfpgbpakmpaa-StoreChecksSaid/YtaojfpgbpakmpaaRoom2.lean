/-
  room.Fits: what it answers; the law RoomFits.
-/
import Derived.Test.YtaojfpgbpakmpaaRoom
namespace Go.Proofs.Ytaojfpgbpakmpaa
open Go.RowKit

theorem lackV_nonneg (l : List Blob) (room more : Int) : 0 ≤ lackV l room more := by
  unfold lackV
  split
  · exact Int.le_refl _
  · omega

set_option maxRecDepth 100000 in
theorem room_Fits (v : Value) (l : List Blob) (room more : Int) (w : World) (h : RBl w v l) (h1 : 0 ≤ room) (h2 : room ≤ 4000) (h3 : 0 ≤ more) (h4 : more ≤ 4000) (hp : 0 < lackV l room more) :
    Calls Try.prog 163 #[v, .int .i64 room, .int .i64 more] w fun e w' => e = .returned (.int .i64 7) ∧ Below w.heap.size w w' := by
  go_enter Try.func163, Try.ntmps163
  go_wp2_with fail
  refine (room_Lacks _ _ _ _ _ h h1 h2 h3 h4).mono ?_
  rintro e w1 ⟨rfl, hb⟩
  go_wp2_with fail
  go_ret
  exact ⟨rfl, hb⟩

set_option maxRecDepth 100000 in
theorem room_Fits_yes (v : Value) (l : List Blob) (room more : Int) (w : World) (h : RBl w v l) (h1 : 0 ≤ room) (h2 : room ≤ 4000) (h3 : 0 ≤ more) (h4 : more ≤ 4000) (hp : lackV l room more = 0) :
    Calls Try.prog 163 #[v, .int .i64 room, .int .i64 more] w fun e w' => e = .returned (.int .i64 0) ∧ Below w.heap.size w w' := by
  go_enter Try.func163, Try.ntmps163
  go_wp2_with fail
  refine (room_Lacks _ _ _ _ _ h h1 h2 h3 h4).mono ?_
  rintro e w1 ⟨rfl, hb⟩
  go_wp2_with fail
  go_ret
  exact ⟨rfl, hb⟩

set_option maxRecDepth 100000 in
theorem room_Fits_no (v : Value) (room more : Int) (w : World) (h : ¬ inRoom room more) :
    Calls Try.prog 163 #[v, .int .i64 room, .int .i64 more] w fun e w' => e = .returned (.int .i64 4) ∧ w = w' := by
  replace h := hid h
  go_enter Try.func163, Try.ntmps163
  go_wp2_with fail
  refine (room_Lacks_no _ _ _ _ h.out).mono ?_
  rintro e w1 ⟨rfl, rfl⟩
  go_wp2_with fail
  go_ret
  exact ⟨rfl, rfl⟩

end Go.Proofs.Ytaojfpgbpakmpaa
