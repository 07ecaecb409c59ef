/-
  The law BlobDrops: its walk.
-/
import Derived.Test.YtaojfpgbpakmpaaDrB
namespace Go.Proofs.Ytaojfpgbpakmpaa
open Go.RowKit

theorem find_cases_B (s : ByteArray) (l : List Blob) : (findE (fun x : Blob => x.digest) s l = 0 ∧ findI (fun x : Blob => x.digest) s l = (atKey (fun x : Blob => x.digest) s l : Int)) ∨
    (findE (fun x : Blob => x.digest) s l = 5 ∧ findI (fun x : Blob => x.digest) s l = 0 ∧ atKey (fun x : Blob => x.digest) s l = l.length) := by
  unfold findE findI
  by_cases h : atKey (fun x : Blob => x.digest) s l = l.length
  · rw [if_pos h, if_pos h]; exact .inr ⟨rfl, rfl, h⟩
  · rw [if_neg h, if_neg h]; exact .inl ⟨rfl, rfl⟩

set_option maxRecDepth 100000 in
set_option maxHeartbeats 1000000 in
theorem BlobDrops_walk' (v : Value) (l : List Blob) (s : ByteArray) (w : World) (h : RBl w v l) (z : Int)
    (c1 : ∀ w, RBl w v l → Calls Try.prog 146 #[v] w fun e w' => e = .returned (.int .i64 z) ∧ Below w.heap.size w w')
    (c2 : ∀ w, RBl w v l → Calls Try.prog 148 #[v] w fun e w' => e = .returned (.int .i64 z) ∧ Below w.heap.size w w') :
    Calls Try.prog 11 #[v, .string s] w fun e w' => e = .returned (.bool true) ∧ Below w.heap.size w w' := by
  have f1 := hid fun w (g : RBl w v l) => blob_Find v l s w g
  have f2 := hid fun w (g : RBl w v l) => blob_Copy v l w g
  have f3 := hid fun w (g : RBl w v l) => blob_Drop v l s w g z c1
  have f4 := hid fun w (g : RBl w v l) => ref_BlobAt v l s w g
  have f5 := hid fun w (g : RBl w v l) => ref_BlobsDrop v l s w g z c2
  have hcase := find_cases_B s l
  have hfit := hid (fit_B h)
  have hR := hid h
  obtain ⟨a, c, rfl, hlc, hcm, hre, -⟩ := h
  unfold DropPost_B at f3 f5
  clear c1 c2
  generalize atKey (fun x : Blob => x.digest) s l = k at *
  generalize findI (fun x : Blob => x.digest) s l = fi at *
  generalize findE (fun x : Blob => x.digest) s l = fe at *
  generalize dropE_B z s l = de at *
  generalize dropL_B z s l = dl at *
  rcases hcase with ⟨rfl, rfl⟩ | ⟨rfl, rfl, rfl⟩
  all_goals
    go_enter Try.func11, Try.ntmps11
    go_wp2_with fail
    ((with_reducible refine (f1.out _ hR.out).mono ?_); rintro e w1 ⟨rfl, b1⟩)
    go_wp2_with fail
    ((with_reducible refine (f2.out _ (hR.out.mono EBlob.stable b1)).mono ?_); rintro e w2 ⟨rfl, o2, b2⟩)
    have hb2 := hid (b_call b1 b2)
    have r2 := hid (o2.toR hre hfit.out)
    clear o2 b1 b2
    go_wp2_with fail
    ((with_reducible refine (f3.out _ (hR.out.mono EBlob.stable hb2.out)).mono ?_); rintro e w3 ⟨v3, rfl, r3, b3⟩)
    have hb3 := hid (b_call hb2.out b3)
    have r2' := hid (r2.out.mono EBlob.stable b3)
    replace r3 := hid r3
    clear b3
    go_wp2_with fail
    ((with_reducible refine (f4.out _ (hR.out.mono EBlob.stable hb3.out)).mono ?_); rintro e w4 ⟨rfl, rfl⟩)
    go_wp2_with fail
    ((with_reducible refine (f5.out _ (hR.out.mono EBlob.stable hb3.out)).mono ?_); rintro e w5 ⟨v5, rfl, r5, b5⟩)
    have hb5 := hid (b_call hb3.out b5)
    have r2'' := hid (r2'.out.mono EBlob.stable b5)
    have r3' := hid (r3.out.mono EBlob.stable b5)
    replace r5 := hid r5
    clear b5
    go_wp2_with fail
    ((with_reducible refine (law_sameBlobs_yes _ _ _ l r2''.out (hR.out.mono EBlob.stable hb5.out)).mono ?_); rintro e w6 ⟨rfl, b6⟩)
    have hb6 := hid (b_call hb5.out b6)
    have r3'' := hid (r3'.out.mono EBlob.stable b6)
    have r5' := hid (r5.out.mono EBlob.stable b6)
    clear b6
    go_wp2_with fail
    ((with_reducible refine (law_sameBlobs_yes _ _ _ dl r3''.out r5'.out).mono ?_); rintro e w7 ⟨rfl, b7⟩)
    have hb7 := hid (b_call hb6.out b7)
    clear b7
    go_wp2_with fail
    go_ret
    exact ⟨rfl, hb7.out⟩
theorem BlobDrops_walk (w : World) (v : Value) (l : List Blob) (s : ByteArray) (h : RBl w v l) (_ : s.size ≤ 140737488351232) :
    Calls Try.prog 11 #[v, .string s] w fun e w' => e = .returned (.bool true) ∧ Below w.heap.size w w' :=
  BlobDrops_walk' v l s w h _ (fun w g => blob_Check v l w g) (fun w g => ref_BlobsFault v l w g)
end Go.Proofs.Ytaojfpgbpakmpaa
