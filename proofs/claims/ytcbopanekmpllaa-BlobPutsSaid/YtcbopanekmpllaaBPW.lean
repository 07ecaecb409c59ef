/-
  The law BlobPuts: its walk. Printed by gen_bpw.py.
-/
import Derived.Test.YtcbopanekmpllaaBpc
namespace Go.Proofs.Ytcbopanekmpllaa
open Go.RowKit

set_option maxRecDepth 100000 in
set_option maxHeartbeats 1000000 in
theorem BlobPuts_walk (w : World) (v : Value) (l : List Blob) (u : Value) (data : List UInt8) (h : RBl w v l) (g : RB w u data) :
    Calls Try.prog 6 #[v, u] w fun e w' => e = .returned (.bool true) ∧ Below w.heap.size w w' := by
  have f1 := hid fun w (h : RBl w v l) (g : RB w u data) => blob_Put v u l data w h g
  have f2 := hid fun w (h : RBl w v l) (g : RB w u data) => ref_BlobsPut v u l data w h g
  have hR := hid h
  have hD := hid g
  unfold BlRes at f1 f2
  generalize bputsE data l = ee at *
  generalize (if ee = 0 then bputsL data l else []) = L at *
  generalize (if ee = 0 then sumStr data else ⟨#[]⟩) = D at *
  clear h g
  go_enter Try.func6, Try.ntmps6
  go_wp2_with fail
  ((with_reducible refine (f1.out _ hR.out hD.out).mono ?_); rintro e1 w1 ⟨v1, rfl, ra1, b1⟩)
  have hb1 := hid (b_call (Below.refl w.heap.size w) b1)
  have r_R_1 := hid (hR.out.mono EBlob.stable (b_call (Below.refl w.heap.size w) b1))
  have r_D_1 := hid (hD.out.mono EU8.stable (b_call (Below.refl w.heap.size w) b1))
  have r_a1_1 := hid ra1
  clear ra1 b1
  go_wp2_with fail
  ((with_reducible refine (f2.out _ r_R_1.out r_D_1.out).mono ?_); rintro e2 w2 ⟨v2, rfl, ra2, b2⟩)
  have hb2 := hid (b_call hb1.out b2)
  have r_R_2 := hid (r_R_1.out.mono EBlob.stable (b_call (Below.refl w1.heap.size w1) b2))
  have r_D_2 := hid (r_D_1.out.mono EU8.stable (b_call (Below.refl w1.heap.size w1) b2))
  have r_a1_2 := hid (r_a1_1.out.mono EBlob.stable (b_call (Below.refl w1.heap.size w1) b2))
  have r_a2_2 := hid ra2
  clear hb1 r_R_1 r_D_1 r_a1_1 ra2 b2
  go_wp2_with fail
  ((with_reducible refine (law_sameBlobs_yes _ _ _ L r_a1_2.out r_a2_2.out).mono ?_); rintro e3 w3 ⟨rfl, b3⟩)
  have hb3 := hid (b_call hb2.out b3)
  have r_R_3 := hid (r_R_2.out.mono EBlob.stable (b_call (Below.refl w2.heap.size w2) b3))
  have r_D_3 := hid (r_D_2.out.mono EU8.stable (b_call (Below.refl w2.heap.size w2) b3))
  have r_a1_3 := hid (r_a1_2.out.mono EBlob.stable (b_call (Below.refl w2.heap.size w2) b3))
  have r_a2_3 := hid (r_a2_2.out.mono EBlob.stable (b_call (Below.refl w2.heap.size w2) b3))
  clear hb2 r_R_2 r_D_2 r_a1_2 r_a2_2 b3
  go_wp2_with fail
  go_ret
  exact ⟨rfl, hb3.out⟩
end Go.Proofs.Ytcbopanekmpllaa
