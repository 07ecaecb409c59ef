/-
  The law BlobChecks: its walk.
-/
import Derived.Test.YtkkfjfhbikipbaaBlb
import Derived.Test.YtkkfjfhbikipbaaOpen
namespace Go.Proofs.Ytkkfjfhbikipbaa
open Go.RowKit

set_option maxRecDepth 100000 in
set_option maxHeartbeats 400000 in
theorem BlobChecks_walk' (n m : Int) (w : World) (x : Blob) (dv v : Value) (l : List Blob) (hd : RB w dv x.data) (hl : RBl w v l)
    (c1 : ∀ w, RB w dv x.data → Calls Try.prog 78 #[.agg #[.string x.digest, dv, .int .i64 x.pins, .bool x.mark]] w fun e w' => e = .returned (.int .i64 n) ∧ Below w.heap.size w w')
    (c2 : ∀ w, RBl w v l → Calls Try.prog 79 #[v] w fun e w' => e = .returned (.int .i64 m) ∧ Below w.heap.size w w')
    (c3 : ∀ w, RB w dv x.data → Calls Try.prog 80 #[.agg #[.string x.digest, dv, .int .i64 x.pins, .bool x.mark]] w fun e w' => e = .returned (.int .i64 n) ∧ Below w.heap.size w w')
    (c4 : ∀ w, RBl w v l → Calls Try.prog 81 #[v] w fun e w' => e = .returned (.int .i64 m) ∧ Below w.heap.size w w') :
    Calls Try.prog 18 #[.agg #[.string x.digest, dv, .int .i64 x.pins, .bool x.mark], v] w fun e w' => e = .returned (.bool true) ∧ Below w.heap.size w w' := by
  replace c1 := hid c1
  replace c2 := hid c2
  replace c3 := hid c3
  replace c4 := hid c4
  obtain ⟨da, dc, rfl, -⟩ := id hd
  go_enter Try.func18, Try.ntmps18
  go_wp2_with fail
  ((with_reducible refine (c1.out _ (hd.mono EU8.stable (b_alloc (Below.refl _ w) _))).mono ?_); rintro e w1 ⟨rfl, b1⟩)
  have bb1 := b_call (b_alloc (Below.refl _ w) _) b1
  obtain ⟨bc1, bf1⟩ := bcell b1
  have hsz1 : w.heap.size < w1.heap.size := by have := b1.size; simp at this; omega
  go_wp2_with fail
  ((with_reducible refine (c2.out _ (hl.mono EBlob.stable bb1)).mono ?_); rintro e w2 ⟨rfl, b2⟩)
  have bb2 := b_call bb1 b2
  obtain ⟨bc2, bf2⟩ := bcell b2
  have hsz2 : w1.heap.size ≤ w2.heap.size := b2.size
  go_wp2_with fail
  ((with_reducible refine (c3.out _ (hd.mono EU8.stable bb2)).mono ?_); rintro e w3 ⟨rfl, b3⟩)
  have bb3 := b_call bb2 b3
  go_wp2_with fail
  ((with_reducible refine (c4.out _ (hl.mono EBlob.stable bb3)).mono ?_); rintro e w4 ⟨rfl, b4⟩)
  go_wp2_with fail
  go_ret
  exact ⟨rfl, b_call bb3 b4⟩
theorem BlobChecks_walk (w : World) (cs : Array Value) (x : Blob) (v : Value) (l : List Blob) (hx : VBlob w cs.toList x) (hl : RBl w v l) :
    Calls Try.prog 18 #[.agg cs, v] w fun e w' => e = .returned (.bool true) ∧ Below w.heap.size w w' := by
  obtain ⟨dv, hc, hd, hs, -⟩ := hx
  obtain rfl : cs = #[.string x.digest, dv, .int .i64 x.pins, .bool x.mark] := by
    cases cs
    simp only at hc
    rw [hc]
  exact BlobChecks_walk' (blobErr x) (blobsFault l) w x dv v l hd hl (fun w g => blob_Right x dv w g hs) (fun w g => blob_Check v l w g) (fun w g => ref_BlobFault x dv w g hs) (fun w g => ref_BlobsFault v l w g)
end Go.Proofs.Ytkkfjfhbikipbaa
