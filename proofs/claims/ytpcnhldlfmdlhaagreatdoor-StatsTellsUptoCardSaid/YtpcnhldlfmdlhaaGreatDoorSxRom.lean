/-
  room.Used, room.Lacks and the reference's RoomUsed, RoomLacks: what each computes. room.Fits: what it answers; the law RoomFits.
-/
import Derived.Test.YtpcnhldlfmdlhaaGreatDoorSxBas
import Derived.BigQuiet
import Derived.Deep.QuietTactic
namespace Go.Proofs.YtpcnhldlfmdlhaaGreatDoor
open Go.RowKit

def used (l : List Blob) : Int := l.foldl (fun n b => wrap64 (n + (b.data.length : Int))) 0
theorem used_snoc (l : List Blob) (k : Nat) (x : Blob) (h : l[k]? = some x) : used (l.take (k+1)) = wrap64 (used (l.take k) + (x.data.length : Int)) := by
  unfold used
  rw [List.take_add_one, h, List.foldl_append]; rfl

set_option maxRecDepth 100000 in
set_option maxHeartbeats 400000 in
theorem room_Used (v : Value) (l : List Blob) (w : World) (h : RBl w v l) :
    Calls Tryz.prog 10 #[v] w fun e w' => e = .returned (.int .i64 (used l)) ∧ Below w.heap.size w w' := by
  obtain ⟨a, c, rfl, hlc, hcm, hre, hno, hat⟩ := h
  unfold maxLen at hcm
  clear hno
  go_enter Tryz.func10, Tryz.ntmps10
  go_wp2
  go_loopw [3, 8] (fun t i wr => ∃ (k : Nat), k ≤ l.length ∧ i = .int .i64 k ∧ t = .int .i64 (used (l.take k)) ∧ Below w.heap.size w wr) (fun _ i _ => l.length - (intOf i).toNat)
  case atStart => exact ⟨0, by omega, rfl, rfl, Below.refl _ _⟩
  case round =>
   obtain ⟨k, hk, rfl, rfl, hb⟩ := hrel
   by_cases hlt : k < l.length
   · have hx : l[k]? = some l[k] := List.getElem?_eq_getElem hlt
     obtain ⟨b, off, rfl, hbb, he⟩ := hat k _ hx
     obtain ⟨dv, h0, h1, h2, h3, ⟨da, dc, hdv, _⟩, _⟩ := EBlob.stable _ _ _ _ _ hb hbb he
     have hs := hid (used_snoc l k _ hx)
     clear hat he hx
     subst hdv
     go_wp2
     go_roundw
     case rel => exact ⟨k+1, by omega, by go_num, by rw [hs.out], b_alloc hb _⟩
     case measure => simp [intOf]; omega
   · go_wp2
     go_ret
     obtain rfl : k = l.length := by omega
     exact ⟨ret_i (by rw [List.take_length]), hb⟩

set_option maxRecDepth 100000 in
set_option maxHeartbeats 400000 in
theorem ref_RoomUsed (v : Value) (l : List Blob) (w : World) (h : RBl w v l) :
    Calls Tryz.prog 14 #[v] w fun e w' => e = .returned (.int .i64 (used l)) ∧ Below w.heap.size w w' := by
  obtain ⟨a, c, rfl, hlc, hcm, hre, hno, hat⟩ := h
  unfold maxLen at hcm
  clear hno
  go_enter Tryz.func14, Tryz.ntmps14
  go_wp2
  go_loopw [3, 7] (fun t i wr => ∃ (k : Nat), k ≤ l.length ∧ i = .int .i64 k ∧ t = .int .i64 (used (l.take k)) ∧ Below w.heap.size w wr) (fun _ i _ => l.length - (intOf i).toNat)
  case atStart => exact ⟨0, by omega, rfl, rfl, Below.refl _ _⟩
  case round =>
   obtain ⟨k, hk, rfl, rfl, hb⟩ := hrel
   by_cases hlt : k < l.length
   · have hx : l[k]? = some l[k] := List.getElem?_eq_getElem hlt
     obtain ⟨b, off, rfl, hbb, he⟩ := hat k _ hx
     obtain ⟨dv, h0, h1, h2, h3, ⟨da, dc, hdv, _⟩, _⟩ := EBlob.stable _ _ _ _ _ hb hbb he
     have hs := hid (used_snoc l k _ hx)
     clear hat he hx
     subst hdv
     go_wp2
     go_roundw
     case rel => exact ⟨k+1, by omega, by go_num, by rw [hs.out], hb⟩
     case measure => simp [intOf]; omega
   · go_wp2
     go_ret
     obtain rfl : k = l.length := by omega
     exact ⟨ret_i (by rw [List.take_length]), hb⟩

def lackV (l : List Blob) (room more : Int) : Int := if wrap64 (wrap64 (used l + more) - room) < 0 then 0 else wrap64 (wrap64 (used l + more) - room)
def inRoom (room more : Int) : Prop := 0 ≤ room ∧ room ≤ 4000 ∧ 0 ≤ more ∧ more ≤ 4000
theorem lackV_pos {l : List Blob} {room more : Int} (h : 0 ≤ wrap64 (wrap64 (used l + more) - room)) : lackV l room more = wrap64 (wrap64 (used l + more) - room) := by unfold lackV; rw [if_neg (by omega)]
theorem lackV_neg {l : List Blob} {room more : Int} (h : wrap64 (wrap64 (used l + more) - room) ≤ 0) : lackV l room more = 0 := by
  unfold lackV
  split
  · rfl
  · omega

set_option maxRecDepth 100000 in
set_option maxHeartbeats 400000 in
theorem room_Lacks (v : Value) (l : List Blob) (room more : Int) (w : World) (h : RBl w v l) (h1 : 0 ≤ room) (h2 : room ≤ 4000) (h3 : 0 ≤ more) (h4 : more ≤ 4000) :
    Calls Tryz.prog 82 #[v, .int .i64 room, .int .i64 more] w fun e w' => e = .returned (.tuple #[.int .i64 (lackV l room more), .int .i64 0]) ∧ Below w.heap.size w w' := by
  go_enter Tryz.func82, Tryz.ntmps82
  go_wp2_with fail
  refine (room_Used _ _ _ h).mono ?_
  rintro e w1 ⟨rfl, hb⟩
  have HP := hid (@lackV_pos l room more)
  have HN := hid (@lackV_neg l room more)
  go_wp2
  · have hp : 0 < wrap64 (wrap64 (used l + more) - room) := by assumption
    go_ret2
    rw [HP.out (by omega)]
    exact ⟨rfl, hb⟩
  · have hp : wrap64 (wrap64 (used l + more) - room) ≤ 0 := by assumption
    go_ret2
    rw [HN.out hp]
    exact ⟨rfl, hb⟩

set_option maxRecDepth 100000 in
set_option maxHeartbeats 400000 in
theorem room_Lacks_no (v : Value) (room more : Int) (w : World) (h : ¬ inRoom room more) :
    Calls Tryz.prog 82 #[v, .int .i64 room, .int .i64 more] w fun e w' => e = .returned (.tuple #[.int .i64 0, .int .i64 4]) ∧ w = w' := by
  unfold inRoom at h
  have h' : (room < 0 ∨ 4000 < room) ∨ (more < 0 ∨ 4000 < more) := by omega
  clear h
  have hd : (decide (room < 0) || decide (4000 < room) || decide (more < 0) || decide (4000 < more)) = true := by simp; omega
  clear h'
  go_enter Tryz.func82, Tryz.ntmps82
  go_wp2_with fail
  all_goals go_ret2
  all_goals exact ⟨rfl, rfl⟩

end Go.Proofs.YtpcnhldlfmdlhaaGreatDoor

namespace Go.Proofs.YtpcnhldlfmdlhaaGreatDoor
open Go.RowKit

theorem lackV_nonneg (l : List Blob) (room more : Int) : 0 ≤ lackV l room more := by
  unfold lackV
  split
  · exact Int.le_refl _
  · omega

set_option maxRecDepth 100000 in
theorem room_Fits (v : Value) (l : List Blob) (room more : Int) (w : World) (h : RBl w v l) (h1 : 0 ≤ room) (h2 : room ≤ 4000) (h3 : 0 ≤ more) (h4 : more ≤ 4000) (hp : 0 < lackV l room more) :
    Calls Tryz.prog 53 #[v, .int .i64 room, .int .i64 more] w fun e w' => e = .returned (.int .i64 7) ∧ Below w.heap.size w w' := by
  go_enter Tryz.func53, Tryz.ntmps53
  go_wp2_with fail
  refine (room_Lacks _ _ _ _ _ h h1 h2 h3 h4).mono ?_
  rintro e w1 ⟨rfl, hb⟩
  go_wp2_with fail
  go_ret
  exact ⟨rfl, hb⟩

set_option maxRecDepth 100000 in
theorem room_Fits_yes (v : Value) (l : List Blob) (room more : Int) (w : World) (h : RBl w v l) (h1 : 0 ≤ room) (h2 : room ≤ 4000) (h3 : 0 ≤ more) (h4 : more ≤ 4000) (hp : lackV l room more = 0) :
    Calls Tryz.prog 53 #[v, .int .i64 room, .int .i64 more] w fun e w' => e = .returned (.int .i64 0) ∧ Below w.heap.size w w' := by
  go_enter Tryz.func53, Tryz.ntmps53
  go_wp2_with fail
  refine (room_Lacks _ _ _ _ _ h h1 h2 h3 h4).mono ?_
  rintro e w1 ⟨rfl, hb⟩
  go_wp2_with fail
  go_ret
  exact ⟨rfl, hb⟩

set_option maxRecDepth 100000 in
theorem room_Fits_no (v : Value) (room more : Int) (w : World) (h : ¬ inRoom room more) :
    Calls Tryz.prog 53 #[v, .int .i64 room, .int .i64 more] w fun e w' => e = .returned (.int .i64 4) ∧ w = w' := by
  replace h := hid h
  go_enter Tryz.func53, Tryz.ntmps53
  go_wp2_with fail
  refine (room_Lacks_no _ _ _ _ h.out).mono ?_
  rintro e w1 ⟨rfl, rfl⟩
  go_wp2_with fail
  go_ret
  exact ⟨rfl, rfl⟩

end Go.Proofs.YtpcnhldlfmdlhaaGreatDoor
