import Derived.Test.YtpkpgehiplhkpaaGreatTzOd
import Derived.Test.YtpkpgehiplhkpaaGreatTzShb
namespace Go.Proofs.YtpkpgehiplhkpaaGreat
open Go.RowKit
def keyStr (z : Int) (t : ByteArray) : ByteArray := if z = 0 then t else ⟨#[]⟩
def keyErr (z p : Int) : Int := if z = 0 then p else z
set_option maxRecDepth 100000 in
set_option maxHeartbeats 400000 in
theorem action_Key' (s : ByteArray) (v : Value) (l : List Part) (w : World) (h : RP w v l) (z p : Int) (r : List UInt8) (t : ByteArray)
 (c1 : ∀ w, RP w v l → Calls Tryz.prog 31 #[.agg #[.string s, v]] w fun e w' => ∃ v', e = .returned (.tuple #[v', .int .i64 z]) ∧ RB w' v' r ∧ Below w.heap.size w w')
 (c2 : ∀ v w, RB w v r → Calls Tryz.prog 72 #[v] w fun e w' => e = .returned (.tuple #[.string t, .int .i64 p]) ∧ Below w.heap.size w w') :
 Calls Tryz.prog 30 #[.agg #[.string s, v]] w fun e w' => e = .returned (.tuple #[.string (keyStr z t), .int .i64 (keyErr z p)]) ∧ Below w.heap.size w w' := by
 replace c1 := hid c1
 replace c2 := hid c2
 have hP := hid h
 obtain ⟨a, c, rfl, -⟩ := h
 by_cases hz : z = 0
 · subst hz
   go_enter Tryz.func30, Tryz.ntmps30
   go_wp2_with fail
   ((with_reducible refine (c1.out _ (hP.out.mono EPart.stable (b_alloc (Below.refl _ _) _))).mono ?_); rintro e w1 ⟨v1, rfl, r1, b1⟩)
   have hb1 := hid (b_call (b_alloc (Below.refl _ w) _) b1)
   replace r1 := hid r1
   clear b1
   go_wp2_with fail
   ((with_reducible refine (c2.out _ _ r1.out).mono ?_); rintro e w2 ⟨rfl, b2⟩)
   have hb2 := hid (b_call hb1.out b2)
   clear b2
   go_wp2_with fail
   go_ret2
   exact ⟨rfl, hb2.out⟩
 have ht : (z != 0) = true := by simp [hz]
 have e1 : keyStr z t = ⟨#[]⟩ := if_neg hz
 have e2 : keyErr z p = z := if_neg hz
 rw [e1, e2]
 clear e1 e2
 replace hz := hid hz
 go_enter Tryz.func30, Tryz.ntmps30
 go_wp2_with fail
 ((with_reducible refine (c1.out _ (hP.out.mono EPart.stable (b_alloc (Below.refl _ _) _))).mono ?_); rintro e w1 ⟨v1, rfl, r1, b1⟩)
 have hb1 := hid (b_call (b_alloc (Below.refl _ w) _) b1)
 clear b1 r1
 go_wp2_with fail
 go_ret2
 exact ⟨rfl, hb1.out⟩
end Go.Proofs.YtpkpgehiplhkpaaGreat
