/-
  room.Used, room.Lacks and the reference's RoomUsed, RoomLacks: what each computes. room.Fits: what it answers; the law RoomFits.
-/
import Derived.Test.YtojebioolflbkaaBas
import Derived.BigQuiet
import Derived.Deep.QuietTactic
namespace Go.Proofs.Ytojebioolflbkaa
open Go.RowKit

def used (l : List Blob) : Int := l.foldl (fun n b => wrap64 (n + (b.data.length : Int))) 0
theorem used_snoc (l : List Blob) (k : Nat) (x : Blob) (h : l[k]? = some x) : used (l.take (k+1)) = wrap64 (used (l.take k) + (x.data.length : Int)) := by
  unfold used
  rw [List.take_add_one, h, List.foldl_append]; rfl

def lackV (l : List Blob) (room more : Int) : Int := if wrap64 (wrap64 (used l + more) - room) < 0 then 0 else wrap64 (wrap64 (used l + more) - room)
def inRoom (room more : Int) : Prop := 0 ≤ room ∧ room ≤ 4000 ∧ 0 ≤ more ∧ more ≤ 4000
theorem lackV_pos {l : List Blob} {room more : Int} (h : 0 ≤ wrap64 (wrap64 (used l + more) - room)) : lackV l room more = wrap64 (wrap64 (used l + more) - room) := by unfold lackV; rw [if_neg (by omega)]
theorem lackV_neg {l : List Blob} {room more : Int} (h : wrap64 (wrap64 (used l + more) - room) ≤ 0) : lackV l room more = 0 := by
  unfold lackV
  split
  · rfl
  · omega

end Go.Proofs.Ytojebioolflbkaa

namespace Go.Proofs.Ytojebioolflbkaa
open Go.RowKit

theorem lackV_nonneg (l : List Blob) (room more : Int) : 0 ≤ lackV l room more := by
  unfold lackV
  split
  · exact Int.le_refl _
  · omega

end Go.Proofs.Ytojebioolflbkaa
