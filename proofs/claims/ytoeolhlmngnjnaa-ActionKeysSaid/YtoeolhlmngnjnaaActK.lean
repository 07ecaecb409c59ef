/-
  action.Key and the reference's ActionKey, and the law ActionKeys: its walk.
-/
import Derived.Test.YtoeolhlmngnjnaaAct3
import Derived.Test.YtoeolhlmngnjnaaSum
import Derived.Test.YtoeolhlmngnjnaaOpn
namespace Go.Proofs.Ytoeolhlmngnjnaa
open Go.RowKit

def keyStr (z : Int) (t : ByteArray) : ByteArray := if z = 0 then t else ⟨#[]⟩
def keyErr (z p : Int) : Int := if z = 0 then p else z

set_option maxRecDepth 100000 in
set_option maxHeartbeats 400000 in
theorem action_Key' (s : ByteArray) (v : Value) (l : List Part) (w : World) (h : RP w v l) (z p : Int) (r : List UInt8) (t : ByteArray)
    (c1 : ∀ w, RP w v l → Calls Try.prog 6 #[.agg #[.string s, v]] w fun e w' => ∃ v', e = .returned (.tuple #[v', .int .i64 z]) ∧ RB w' v' r ∧ Below w.heap.size w w')
    (c2 : ∀ v w, RB w v r → Calls Try.prog 18 #[v] w fun e w' => e = .returned (.tuple #[.string t, .int .i64 p]) ∧ Below w.heap.size w w') :
    Calls Try.prog 10 #[.agg #[.string s, v]] w fun e w' => e = .returned (.tuple #[.string (keyStr z t), .int .i64 (keyErr z p)]) ∧ Below w.heap.size w w' := by
  replace c1 := hid c1
  replace c2 := hid c2
  have hP := hid h
  obtain ⟨a, c, rfl, -⟩ := h
  by_cases hz : z = 0
  · subst hz
    go_enter Try.func10, Try.ntmps10
    go_wp2_with fail
    ((with_reducible refine (c1.out _ (hP.out.mono EPart.stable (b_alloc (Below.refl _ _) _))).mono ?_); rintro e w1 ⟨v1, rfl, r1, b1⟩)
    have hb1 := hid (b_call (b_alloc (Below.refl w.heap.size w) _) b1)
    replace r1 := hid r1
    clear b1
    go_wp2_with fail
    ((with_reducible refine (c2.out _ _ r1.out).mono ?_); rintro e w2 ⟨rfl, b2⟩)
    have hb2 := hid (b_call hb1.out b2)
    clear b2
    go_wp2_with fail
    go_ret2
    exact ⟨rfl, hb2.out⟩
  · have ht : (z != 0) = true := by simp [hz]
    have e1 : keyStr z t = ⟨#[]⟩ := if_neg hz
    have e2 : keyErr z p = z := if_neg hz
    rw [e1, e2]
    clear e1 e2
    replace hz := hid hz
    go_enter Try.func10, Try.ntmps10
    go_wp2_with fail
    ((with_reducible refine (c1.out _ (hP.out.mono EPart.stable (b_alloc (Below.refl _ _) _))).mono ?_); rintro e w1 ⟨v1, rfl, r1, b1⟩)
    have hb1 := hid (b_call (b_alloc (Below.refl w.heap.size w) _) b1)
    clear b1 r1
    go_wp2_with fail
    go_ret2
    exact ⟨rfl, hb1.out⟩

set_option maxRecDepth 100000 in
set_option maxHeartbeats 400000 in
theorem ref_ActionKey' (s : ByteArray) (v : Value) (l : List Part) (w : World) (h : RP w v l) (z p : Int) (r : List UInt8) (t : ByteArray)
    (c1 : ∀ w, RP w v l → Calls Try.prog 8 #[.agg #[.string s, v]] w fun e w' => ∃ v', e = .returned (.tuple #[v', .int .i64 z]) ∧ RB w' v' r ∧ Below w.heap.size w w')
    (c2 : ∀ v w, RB w v r → Calls Try.prog 19 #[v] w fun e w' => e = .returned (.tuple #[.string t, .int .i64 p]) ∧ Below w.heap.size w w') :
    Calls Try.prog 11 #[.agg #[.string s, v]] w fun e w' => e = .returned (.tuple #[.string (keyStr z t), .int .i64 (keyErr z p)]) ∧ Below w.heap.size w w' := by
  replace c1 := hid c1
  replace c2 := hid c2
  have hP := hid h
  obtain ⟨a, c, rfl, -⟩ := h
  by_cases hz : z = 0
  · subst hz
    go_enter Try.func11, Try.ntmps11
    go_wp2_with fail
    ((with_reducible refine (c1.out _ (hP.out.mono EPart.stable (b_alloc (Below.refl _ _) _))).mono ?_); rintro e w1 ⟨v1, rfl, r1, b1⟩)
    have hb1 := hid (b_call (b_alloc (Below.refl w.heap.size w) _) b1)
    replace r1 := hid r1
    clear b1
    go_wp2_with fail
    ((with_reducible refine (c2.out _ _ r1.out).mono ?_); rintro e w2 ⟨rfl, b2⟩)
    have hb2 := hid (b_call hb1.out b2)
    clear b2
    go_wp2_with fail
    go_ret2
    exact ⟨rfl, hb2.out⟩
  · have ht : (z != 0) = true := by simp [hz]
    have e1 : keyStr z t = ⟨#[]⟩ := if_neg hz
    have e2 : keyErr z p = z := if_neg hz
    rw [e1, e2]
    clear e1 e2
    replace hz := hid hz
    go_enter Try.func11, Try.ntmps11
    go_wp2_with fail
    ((with_reducible refine (c1.out _ (hP.out.mono EPart.stable (b_alloc (Below.refl _ _) _))).mono ?_); rintro e w1 ⟨v1, rfl, r1, b1⟩)
    have hb1 := hid (b_call (b_alloc (Below.refl w.heap.size w) _) b1)
    clear b1 r1
    go_wp2_with fail
    go_ret2
    exact ⟨rfl, hb1.out⟩

set_option maxRecDepth 100000 in
set_option maxHeartbeats 400000 in
theorem ActionKeys_walk' (s : ByteArray) (v : Value) (l : List Part) (w : World) (h : RP w v l) (t : ByteArray) (z : Int)
    (c1 : ∀ w, RP w v l → Calls Try.prog 10 #[.agg #[.string s, v]] w fun e w' => e = .returned (.tuple #[.string t, .int .i64 z]) ∧ Below w.heap.size w w')
    (c2 : ∀ w, RP w v l → Calls Try.prog 11 #[.agg #[.string s, v]] w fun e w' => e = .returned (.tuple #[.string t, .int .i64 z]) ∧ Below w.heap.size w w') :
    Calls Try.prog 4 #[.agg #[.string s, v]] w fun e w' => e = .returned (.bool true) ∧ Below w.heap.size w w' := by
  replace c1 := hid c1
  replace c2 := hid c2
  have hP := hid h
  obtain ⟨a, c, rfl, -⟩ := h
  go_enter Try.func4, Try.ntmps4
  go_wp2_with fail
  ((with_reducible refine (c1.out _ (hP.out.mono EPart.stable (b_alloc (Below.refl _ _) _))).mono ?_); rintro e w1 ⟨rfl, b1⟩)
  obtain ⟨bc1, bf1⟩ := bcell b1
  have hs1 : w.heap.size < w1.heap.size := by have := b1.size; simp at this; omega
  have hb1 := hid (b_call (b_alloc (Below.refl w.heap.size w) _) b1)
  clear b1
  go_wp2_with fail
  ((with_reducible refine (c2.out _ (hP.out.mono EPart.stable hb1.out)).mono ?_); rintro e w2 ⟨rfl, b2⟩)
  have hb2 := hid (b_call hb1.out b2)
  clear b2
  go_wp2_with fail
  go_ret
  exact ⟨rfl, hb2.out⟩
theorem ActionKeys_walk (w : World) (cs : Array Value) (x : Action) (hx : VAction w cs.toList x) :
    Calls Try.prog 4 #[.agg cs] w fun e w' => e = .returned (.bool true) ∧ Below w.heap.size w w' := by
  obtain ⟨pv, hc, hp, hs⟩ := hx
  obtain rfl : cs = #[.string x.command, pv] := by
    cases cs
    simp only at hc
    rw [hc]
  exact ActionKeys_walk' x.command pv x.inputs w hp _ _
    (fun w g => action_Key' x.command pv x.inputs w g _ _ _ _ (fun w g => action_Encode _ _ _ w hs g) (fun v w g => sha_Sum v _ w g))
    (fun w g => ref_ActionKey' x.command pv x.inputs w g _ _ _ _ (fun w g => ref_ActionBytes _ _ _ w hs g) (fun v w g => ref_ShaSum v _ w g))
end Go.Proofs.Ytoeolhlmngnjnaa
