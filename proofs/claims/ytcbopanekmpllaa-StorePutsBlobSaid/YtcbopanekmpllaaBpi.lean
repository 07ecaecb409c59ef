/-
  blob.Put: what it answers. Printed by gen_bpi.py.
-/
import Derived.Test.YtcbopanekmpllaaBpL
import Derived.Test.YtcbopanekmpllaaBinB
namespace Go.Proofs.Ytcbopanekmpllaa
open Go.RowKit

set_option maxRecDepth 100000 in
set_option maxHeartbeats 1000000 in
theorem blob_Put' (v u : Value) (l : List Blob) (data : List UInt8) (d : ByteArray) (se : Int) (w : World) (h : RBl w v l) (g : RB w u data) (hds : d.size ≤ 140737488351232) (z : Int)
    (hch : ∀ w, RBl w v l → Calls Try.prog 97 #[v] w fun e w' => e = .returned (.int .i64 z) ∧ Below w.heap.size w w')
    (hsum : ∀ w, RB w u data → Calls Try.prog 98 #[u] w fun e w' => e = .returned (.tuple #[.string d, .int .i64 se]) ∧ Below w.heap.size w w')
    (hris : z = 0 → Rising (fun x : Blob => x.digest) l ∧ l.length ≤ 24) :
    Calls Try.prog 24 #[v, u] w (BlRes (bputE z d data l) d (bputL d data l) w) := by
  replace hch := hid hch
  replace hsum := hid hsum
  have hR := hid h
  have hD := hid g
  have hfit := hid (fit_B h)
  obtain ⟨a, c, rfl, hlc, hcm, hre, hno, -⟩ := h
  obtain ⟨da, dc, rfl, -, -, hrd, -, -⟩ := g
  unfold maxLen at hcm
  clear hno
  by_cases hz : z = 0
  · subst hz
    obtain ⟨hri, h24⟩ := hris rfl
    by_cases hlg : 300 < data.length
    · have hd := hid (bputE_long (d := d) (l := l) hlg)
      have q : decide (300 < (data.length : Int)) = true := by simp; omega
      clear hris hri
      go_enter Try.func24, Try.ntmps24
      go_wp2_with fail
      ((with_reducible refine (hch.out _ hR.out).mono ?_); rintro e1 w1 ⟨rfl, b1⟩)
      have hb1 := hid (b_call (Below.refl w.heap.size w) b1)
      have r_R_1 := hid (hR.out.mono EBlob.stable (b_call (Below.refl w.heap.size w) b1))
      have r_D_1 := hid (hD.out.mono EU8.stable (b_call (Below.refl w.heap.size w) b1))
      clear b1
      go_wp2_with fail
      go_ret3
      exact bl_no hd.out (by decide) hb1.out
    · have q : decide (300 < (data.length : Int)) = false := by simp; omega
      have hbin := hid (fun w (g : RBl w (.slice a l.length c) l) => bin_B (.slice a l.length c) l d w g hri)
      have e1 := hid (fun h => bputE_has (d := d) (l := l) hlg h)
      have e2 := hid (fun h h2 => bputE_full (d := d) (l := l) hlg h h2)
      have e3 := hid (fun h h2 => bputE_new (d := d) (l := l) hlg h h2)
      have l1 := hid (fun h => bputL_has (d := d) (data := data) (l := l) h)
      have l2 := hid (fun h => bputL_new (d := d) (data := data) (l := l) h)
      have hle := lowAt_le (fun x : Blob => x.digest) d l
      generalize bputE 0 d data l = err at *
      generalize bputL d data l = L at *
      generalize lowAt (fun x : Blob => x.digest) d l = i at *
      generalize hasKey (fun x : Blob => x.digest) d l = fin at *
      clear hris hri
      cases fin with
      | true =>
        have hd := hid (e1.out rfl)
        have hL := hid (l1.out rfl)
        clear e1 e2 e3 l1 l2
        go_enter Try.func24, Try.ntmps24
        go_wp2_with fail
        ((with_reducible refine (hch.out _ hR.out).mono ?_); rintro e1 w1 ⟨rfl, b1⟩)
        have hb1 := hid (b_call (Below.refl w.heap.size w) b1)
        have r_R_1 := hid (hR.out.mono EBlob.stable (b_call (Below.refl w.heap.size w) b1))
        have r_D_1 := hid (hD.out.mono EU8.stable (b_call (Below.refl w.heap.size w) b1))
        clear b1
        go_wp2_with fail
        ((with_reducible refine (hsum.out _ r_D_1.out).mono ?_); rintro e2 w2 ⟨rfl, b2⟩)
        have hb2 := hid (b_call hb1.out b2)
        have r_R_2 := hid (r_R_1.out.mono EBlob.stable (b_call (Below.refl w1.heap.size w1) b2))
        have r_D_2 := hid (r_D_1.out.mono EU8.stable (b_call (Below.refl w1.heap.size w1) b2))
        clear hb1 r_R_1 r_D_1 b2
        go_wp2_with fail
        ((with_reducible refine (hbin.out _ r_R_2.out).mono ?_); rintro e3 w3 ⟨rfl, b3⟩)
        have hb3 := hid (b_call hb2.out b3)
        have r_R_3 := hid (r_R_2.out.mono EBlob.stable (b_call (Below.refl w2.heap.size w2) b3))
        have r_D_3 := hid (r_D_2.out.mono EU8.stable (b_call (Below.refl w2.heap.size w2) b3))
        clear hb2 r_R_2 r_D_2 b3
        go_wp2_with fail
        have hs3 := hb3.out.size
        ((with_reducible refine (blob_Copy _ l _ r_R_3.out).mono ?_); rintro e4 w4 ⟨rfl, o4, b4⟩)
        have hb4 := hid (b_call hb3.out b4)
        have r_R_4 := hid (r_R_3.out.mono EBlob.stable (b_call (Below.refl w3.heap.size w3) b4))
        have r_D_4 := hid (r_D_3.out.mono EU8.stable (b_call (Below.refl w3.heap.size w3) b4))
        have r4 := hid (show RBl w4 _ L by rw [hL.out]; exact o4.toR hre hfit.out)
        clear hb3 r_R_3 r_D_3 b4
        go_wp2_with fail
        go_ret3
        exact bl_ok hd.out r4.out hb4.out
      | false =>
        by_cases hfu : 24 ≤ l.length
        · have hd := hid (e2.out rfl hfu)
          have q2 : decide (24 ≤ (l.length : Int)) = true := by simp; omega
          clear e1 e2 e3 l1 l2
          go_enter Try.func24, Try.ntmps24
          go_wp2_with fail
          ((with_reducible refine (hch.out _ hR.out).mono ?_); rintro e1 w1 ⟨rfl, b1⟩)
          have hb1 := hid (b_call (Below.refl w.heap.size w) b1)
          have r_R_1 := hid (hR.out.mono EBlob.stable (b_call (Below.refl w.heap.size w) b1))
          have r_D_1 := hid (hD.out.mono EU8.stable (b_call (Below.refl w.heap.size w) b1))
          clear b1
          go_wp2_with fail
          ((with_reducible refine (hsum.out _ r_D_1.out).mono ?_); rintro e2 w2 ⟨rfl, b2⟩)
          have hb2 := hid (b_call hb1.out b2)
          have r_R_2 := hid (r_R_1.out.mono EBlob.stable (b_call (Below.refl w1.heap.size w1) b2))
          have r_D_2 := hid (r_D_1.out.mono EU8.stable (b_call (Below.refl w1.heap.size w1) b2))
          clear hb1 r_R_1 r_D_1 b2
          go_wp2_with fail
          ((with_reducible refine (hbin.out _ r_R_2.out).mono ?_); rintro e3 w3 ⟨rfl, b3⟩)
          have hb3 := hid (b_call hb2.out b3)
          have r_R_3 := hid (r_R_2.out.mono EBlob.stable (b_call (Below.refl w2.heap.size w2) b3))
          have r_D_3 := hid (r_D_2.out.mono EU8.stable (b_call (Below.refl w2.heap.size w2) b3))
          clear hb2 r_R_2 r_D_2 b3
          go_wp2_with fail
          have hs3 := hb3.out.size
          ((with_reducible refine (blob_Copy _ l _ r_R_3.out).mono ?_); rintro e4 w4 ⟨rfl, -, b4⟩)
          have hb4 := hid (b_call hb3.out b4)
          have r_R_4 := hid (r_R_3.out.mono EBlob.stable (b_call (Below.refl w3.heap.size w3) b4))
          have r_D_4 := hid (r_D_3.out.mono EU8.stable (b_call (Below.refl w3.heap.size w3) b4))
          clear hb3 r_R_3 r_D_3 b4
          go_wp2_with fail
          go_ret3
          exact bl_no hd.out (by decide) hb4.out
        · have hd := hid (e3.out rfl hfu)
          have hL := hid (l2.out rfl)
          have q2 : decide (24 ≤ (l.length : Int)) = false := by simp; omega
          clear e1 e2 e3 l1 l2
          go_enter Try.func24, Try.ntmps24
          go_wp2_with fail
          ((with_reducible refine (hch.out _ hR.out).mono ?_); rintro e1 w1 ⟨rfl, b1⟩)
          have hb1 := hid (b_call (Below.refl w.heap.size w) b1)
          have r_R_1 := hid (hR.out.mono EBlob.stable (b_call (Below.refl w.heap.size w) b1))
          have r_D_1 := hid (hD.out.mono EU8.stable (b_call (Below.refl w.heap.size w) b1))
          clear b1
          go_wp2_with fail
          ((with_reducible refine (hsum.out _ r_D_1.out).mono ?_); rintro e2 w2 ⟨rfl, b2⟩)
          have hb2 := hid (b_call hb1.out b2)
          have r_R_2 := hid (r_R_1.out.mono EBlob.stable (b_call (Below.refl w1.heap.size w1) b2))
          have r_D_2 := hid (r_D_1.out.mono EU8.stable (b_call (Below.refl w1.heap.size w1) b2))
          clear hb1 r_R_1 r_D_1 b2
          go_wp2_with fail
          ((with_reducible refine (hbin.out _ r_R_2.out).mono ?_); rintro e3 w3 ⟨rfl, b3⟩)
          have hb3 := hid (b_call hb2.out b3)
          have r_R_3 := hid (r_R_2.out.mono EBlob.stable (b_call (Below.refl w2.heap.size w2) b3))
          have r_D_3 := hid (r_D_2.out.mono EU8.stable (b_call (Below.refl w2.heap.size w2) b3))
          clear hb2 r_R_2 r_D_2 b3
          go_wp2_with fail
          have hs3 := hb3.out.size
          ((with_reducible refine (blob_Copy _ l _ r_R_3.out).mono ?_); rintro e4 w4 ⟨rfl, o4, b4⟩)
          have hb4 := hid (b_call hb3.out b4)
          have r_R_4 := hid (r_R_3.out.mono EBlob.stable (b_call (Below.refl w3.heap.size w3) b4))
          have r_D_4 := hid (r_D_3.out.mono EU8.stable (b_call (Below.refl w3.heap.size w3) b4))
          have h34 := b4.size
          replace o4 := hid o4
          clear hb3 r_R_3 r_D_3 b4
          go_wp2_with fail
          ((with_reducible refine (bytes_Clone _ data _ r_D_4.out).mono ?_); rintro e5 w5 ⟨v5, rfl, o5, b5⟩)
          have hb5 := hid (b_call hb4.out b5)
          have r_R_5 := hid (r_R_4.out.mono EBlob.stable (b_call (Below.refl w4.heap.size w4) b5))
          have r_D_5 := hid (r_D_4.out.mono EU8.stable (b_call (Below.refl w4.heap.size w4) b5))
          have o45 := hid (o4.out.after b5)
          have h45 := b5.size
          clear o4
          clear hb4 r_R_4 r_D_4 b5
          obtain ⟨ca, cc, rfl, -⟩ := id (OS.len_le o5)
          go_wp2_with fail
          have o6 := hid (OBlob.alloc o45.out (Obj.cells #[.string d, .slice ca data.length cc, .int .i64 0, .bool false] 127))
          have hcr6 : Hid (CO 5 1 cU8 w3.heap.size (w5.alloc (Obj.cells #[.string d, .slice ca data.length cc, .int .i64 0, .bool false] 127)) (.slice ca data.length cc) data) := hid (OS.alloc (OS.mono o5 h34) _)
          have hrow := hid (row_one (s := 4) (bs := 56) (cells := xc cBlob (·.data)) w5 127 ⟨⟨d, data, 0, false⟩, ca, cc⟩ #[.string d, .slice ca data.length cc, .int .i64 0, .bool false] w5.heap.size rfl rfl (by decide))
          have hb6 := hid (b_alloc hb5.out (Obj.cells #[.string d, .slice ca data.length cc, .int .i64 0, .bool false] 127))
          have hs6 : w3.heap.size ≤ (w5.alloc (Obj.cells #[.string d, .slice ca data.length cc, .int .i64 0, .bool false] 127)).heap.size := by simp; omega
          clear o5 o45
          generalize w5.alloc (Obj.cells #[.string d, .slice ca data.length cc, .int .i64 0, .bool false] 127) = w6 at *
          ((with_reducible refine (slices_Insert_B l i w3.heap.size w3.heap.size ⟨d, data, 0, false⟩ ca cc w5.heap.size w6 o6.out hle hs6 (by omega) hrow.out hcr6.out).mono ?_); rintro e w7 ⟨v7, rfl, o7, b7⟩)
          have hs7 := b7.size
          have hb7 := hid (hb6.out.trans (b7.mono hs3))
          replace o7 := hid o7
          clear b7 hrow hcr6 o6 hb5 hb6
          go_wp2_with fail
          ((with_reducible refine (slices_Clone_B v7 _ w3.heap.size w7 o7.out (by omega) (by rw [insB_len hle]; omega)).mono ?_); rintro e w8 ⟨v8, rfl, o8, b8⟩)
          have hb8 := hid (hb7.out.trans (b8.mono hs3))
          have rd := hid (show RBl w8 v8 L by rw [hL.out]; exact o8.toR (by rw [insB_len hle]; omega) (insB_all hfit.out (fit_new hds hrd)))
          clear b8 o8 o7 hb7
          go_wp2_with fail
          go_ret3
          exact bl_ok hd.out rd.out hb8.out
  · have ht : (z != 0) = true := by simp [hz]
    have hd := hid (bputE_bad (d := d) (data := data) (l := l) hz)
    replace hz := hid hz
    clear hris
    go_enter Try.func24, Try.ntmps24
    go_wp2_with fail
    ((with_reducible refine (hch.out _ hR.out).mono ?_); rintro e1 w1 ⟨rfl, b1⟩)
    have hb1 := hid (b_call (Below.refl w.heap.size w) b1)
    have r_R_1 := hid (hR.out.mono EBlob.stable (b_call (Below.refl w.heap.size w) b1))
    have r_D_1 := hid (hD.out.mono EU8.stable (b_call (Below.refl w.heap.size w) b1))
    clear b1
    go_wp2_with fail
    go_ret3
    exact bl_no hd.out hz.out hb1.out
end Go.Proofs.Ytcbopanekmpllaa
