/-
  The law MarkAlls: its walk. Printed by gen_mk.py.
-/
import Derived.Test.YtojebioolflbkaaMkr
namespace Go.Proofs.Ytojebioolflbkaa
open Go.RowKit

set_option maxRecDepth 100000 in
set_option maxHeartbeats 400000 in
theorem MarkAlls_walk (w : World) (v : Value) (l : List Blob) (u : Value) (ds : List ByteArray) (h : RBl w v l) (g : RT w u ds) :
    Calls Try.prog 6 #[v, u] w fun e w' => e = .returned (.bool true) ∧ Below w.heap.size w w' := by
  go_enter Try.func6, Try.ntmps6
  go_wp2_with fail
  ((with_reducible refine (mark_All v u l ds w h g).mono ?_); rintro e w1 ⟨v1, L, rfl, hC, r1, b1⟩)
  go_wp2_with fail
  ((with_reducible refine (ref_MarkedAll v u l ds w1 (h.mono EBlob.stable b1) (g.mono EStr.stable b1)).mono ?_); rintro e w2 ⟨v2, L', rfl, hC', r2, b2⟩)
  obtain rfl := hC.only hC'
  go_wp2_with fail
  ((with_reducible refine (law_sameBlobs_yes _ _ _ (marked l L) (r1.mono EBlob.stable b2) r2).mono ?_); rintro e w3 ⟨rfl, b3⟩)
  have hb3 := b_call (b_call b1 b2) b3
  go_wp2_with fail
  go_ret
  exact ⟨rfl, hb3⟩
end Go.Proofs.Ytojebioolflbkaa
