/-
  The law ActionDecodes: its walk.
-/
import Derived.Test.YtaojfpgbpakmpaaActDr
import Derived.Test.YtaojfpgbpakmpaaSp
namespace Go.Proofs.Ytaojfpgbpakmpaa
open Go.RowKit

set_option maxRecDepth 100000 in
set_option maxHeartbeats 400000 in
theorem ActionDecodes_walk (w : World) (v : Value) (b : List UInt8) (h : RB w v b) :
    Calls Try.prog 10 #[v] w fun e w' => e = .returned (.bool true) ∧ Below w.heap.size w w' := by
  have f1 := hid fun w (g : RB w v b) => action_Decode v b w g
  have f2 := hid fun w (g : RB w v b) => ref_ActionOf v b w g
  unfold ADPost at f1 f2
  generalize decAct b = z at *
  obtain ⟨s, l, n⟩ := z
  simp only at f1 f2
  go_enter Try.func10, Try.ntmps10
  go_wp2_with fail
  ((with_reducible refine (f1.out _ h).mono ?_); rintro e w1 ⟨v1, rfl, r1, b1⟩)
  obtain ⟨a1, c1, rfl, -⟩ := id r1
  have hb1 := hid (b_alloc b1 (Obj.cells #[.string s, .slice a1 l.length c1] 66))
  replace r1 := hid (r1.mono EPart.stable (b_alloc (Below.refl _ w1) (Obj.cells #[.string s, .slice a1 l.length c1] 66)))
  clear b1
  go_wp2_with fail
  ((with_reducible refine (f2.out _ (h.mono EU8.stable hb1.out)).mono ?_); rintro e w2 ⟨v2, rfl, r2, b2⟩)
  obtain ⟨a2, c2, rfl, -⟩ := id r2
  have hqA := (b2.block w1.heap.size (by simp)).trans (heap_alloc_new w1 _)
  have hlA := (Array.getElem?_eq_some_iff.1 hqA).1
  have hqA2 := (heap_alloc_old w2 (Obj.cells #[.string s, .slice a2 l.length c2] 66) hlA).trans hqA
  have hqB := heap_alloc_new w2 (Obj.cells #[.string s, .slice a2 l.length c2] 66)
  have hb2 := hid (b_alloc (b_call hb1.out b2) (Obj.cells #[.string s, .slice a2 l.length c2] 66))
  have r1' := hid ((r1.out.mono EPart.stable b2).mono EPart.stable (b_alloc (Below.refl _ w2) (Obj.cells #[.string s, .slice a2 l.length c2] 66)))
  have r2' := hid (r2.mono EPart.stable (b_alloc (Below.refl _ w2) (Obj.cells #[.string s, .slice a2 l.length c2] 66)))
  obtain ⟨x0, x1, -, -⟩ := box2f hqA2
  obtain ⟨y0, y1, -, -⟩ := box2f hqB
  clear b2 hqA hqA2 hqB r2 r1
  go_wp2_with fail
  ((with_reducible refine (law_sameParts_yes _ _ _ l r1'.out r2'.out).mono ?_); rintro e w3 ⟨rfl, b3⟩)
  have hb3 := hid (b_call hb2.out b3)
  clear b3
  go_wp2_with fail
  go_ret
  exact ⟨rfl, hb3.out⟩
end Go.Proofs.Ytaojfpgbpakmpaa
