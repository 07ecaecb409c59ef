/-
  store.GetBlob and the reference's StoreGetBlob: what each answers. Printed by gen_sto3.py.
-/
import Derived.Test.YtaojfpgbpakmpaaSto2
import Derived.Test.YtaojfpgbpakmpaaPre
namespace Go.Proofs.Ytaojfpgbpakmpaa
open Go.RowKit

def getE (z : Int) (s : ByteArray) (bs : List Blob) : Int := if z ≠ 0 then z else match bs[atKey (·.digest) s bs]? with | none => 5 | some _ => 0
def getB (z : Int) (s : ByteArray) (bs : List Blob) : List UInt8 := if getE z s bs = 0 then (match bs[atKey (·.digest) s bs]? with | none => [] | some x => x.data) else []
def GetPost (z : Int) (s : ByteArray) (bs : List Blob) (w : World) (e : Ending) (w' : World) : Prop :=
  ∃ v', e = .returned (.tuple #[v', .int .i64 (getE z s bs)]) ∧ RB w' v' (getB z s bs) ∧ Below w.heap.size w w'
theorem get_no {z n : Int} {s : ByteArray} {bs : List Blob} {w w' : World} (h : getE z s bs = n) (hn : n ≠ 0) (hb : Below w.heap.size w w') : GetPost z s bs w (.returned (.tuple #[.slice none 0 0, .int .i64 n])) w' := by
  refine ⟨_, by rw [h], ?_, hb⟩
  unfold getB
  rw [if_neg (by rw [h]; exact hn)]
  exact RS.nil
theorem get_ok {z : Int} {s : ByteArray} {bs : List Blob} {l : List UInt8} {w w' : World} {v' : Value} (h : getE z s bs = 0) (hl : getB z s bs = l) (hr : RB w' v' l) (hb : Below w.heap.size w w') : GetPost z s bs w (.returned (.tuple #[v', .int .i64 0])) w' :=
  ⟨_, by rw [h], by rw [hl]; exact hr, hb⟩
theorem rb_len {w : World} {v : Value} {l : List UInt8} (h : RB w v l) : l.length ≤ 140737488351232 := by obtain ⟨_, _, _, _, _, hre, _⟩ := h; omega

set_option maxRecDepth 100000 in
set_option maxHeartbeats 1000000 in
theorem store_GetBlob (v u : Value) (bs : List Blob) (es : List Entry) (r t : Int) (s : ByteArray) (w : World) (h : RBl w v bs) (g : RE w u es) (z : Int)
    (hch : ∀ w, RBl w v bs → RE w u es → Calls Try.prog 68 #[.agg #[v, u, .int .i64 r, .int .i64 t]] w fun e w' => e = .returned (.int .i64 z) ∧ Below w.heap.size w w') :
    Calls Try.prog 66 #[.agg #[v, u, .int .i64 r, .int .i64 t], .string s] w (GetPost z s bs w) := by
  replace hch := hid hch
  have hR := hid h
  have hE := hid g
  obtain ⟨a, c, rfl, hlc, hcm, hre, hno, hat⟩ := h
  obtain ⟨a2, c2, rfl, -⟩ := g
  unfold maxLen at hcm
  clear hno
  by_cases hz : z = 0
  · subst hz
    have hle := atKey_le (fun x : Blob => x.digest) s bs
    have hfi : findI (fun x : Blob => x.digest) s bs = if atKey (fun x : Blob => x.digest) s bs = bs.length then 0 else (atKey (fun x : Blob => x.digest) s bs : Int) := rfl
    have hfe : findE (fun x : Blob => x.digest) s bs = if atKey (fun x : Blob => x.digest) s bs = bs.length then 5 else 0 := rfl
    have hd0 := hid (show getE 0 s bs = match bs[atKey (fun x : Blob => x.digest) s bs]? with | none => 5 | some _ => 0 from rfl)
    have hdb := hid (fun h0 : getE 0 s bs = 0 => show getB 0 s bs = (match bs[atKey (fun x : Blob => x.digest) s bs]? with | none => [] | some x => x.data) from if_pos h0)
    generalize atKey (fun x : Blob => x.digest) s bs = i at *
    by_cases hi : i = bs.length
    · have hd := hid (show getE 0 s bs = 5 by rw [hd0.out, List.getElem?_eq_none (by omega)])
      rw [if_pos hi] at hfi hfe
      replace hfi := hid hfi
      replace hfe := hid hfe
      replace hi := hid hi
      go_enter Try.func66, Try.ntmps66
      go_wp2_with fail
      ((with_reducible refine (hch.out _ (hR.out.mono EBlob.stable (b_alloc (Below.refl _ _) _)) (hE.out.mono EEntry.stable (b_alloc (Below.refl _ _) _))).mono ?_); rintro e w1 ⟨rfl, b1⟩)
      have hq1 := hid ((b1.block w.heap.size (by simp)).trans (heap_alloc_new w _))
      have hb1 := hid (b_call (b_alloc (Below.refl w.heap.size w) _) b1)
      clear b1
      obtain ⟨x0, x1, x2, x3⟩ := box4f hq1.out
      go_wp2_with fail
      have hF := blob_Find _ bs s w1 (hR.out.mono EBlob.stable hb1.out)
      rw [hfi.out, hfe.out] at hF
      ((with_reducible refine hF.mono ?_); rintro e w2 ⟨rfl, b2⟩)
      have hq2 := hid ((b2.block w.heap.size (Array.getElem?_eq_some_iff.1 hq1.out).1).trans hq1.out)
      have hb2 := hid (b_call hb1.out b2)
      clear b2 hF x0 x1 x2 x3
      obtain ⟨x0, x1, x2, x3⟩ := box4f hq2.out
      go_wp2_with fail
      go_ret2
      exact get_no hd.out (by decide) hb2.out
    · have hx : bs[i]? = some bs[i] := List.getElem?_eq_getElem (by omega)
      generalize bs[i] = x at hx
      obtain ⟨bb, off, rfl, hbb, he⟩ := hat _ _ hx
      have hd := hid (show getE 0 s bs = 0 by rw [hd0.out, hx])
      have hdx := hid (show getB 0 s bs = x.data by rw [hdb.out hd.out, hx])
      rw [if_neg hi] at hfi hfe
      replace hfi := hid hfi
      replace hfe := hid hfe
      have hilt : i < bs.length := by omega
      have hi0 : (0 : Int) ≤ (i : Int) := by omega
      have hi1 : (i : Int) < (bs.length : Int) := by omega
      clear hx hat hd0 hdb
      go_enter Try.func66, Try.ntmps66
      go_wp2_with fail
      ((with_reducible refine (hch.out _ (hR.out.mono EBlob.stable (b_alloc (Below.refl _ _) _)) (hE.out.mono EEntry.stable (b_alloc (Below.refl _ _) _))).mono ?_); rintro e w1 ⟨rfl, b1⟩)
      have hq1 := hid ((b1.block w.heap.size (by simp)).trans (heap_alloc_new w _))
      have hb1 := hid (b_call (b_alloc (Below.refl w.heap.size w) _) b1)
      clear b1
      obtain ⟨x0, x1, x2, x3⟩ := box4f hq1.out
      go_wp2_with fail
      have hF := blob_Find _ bs s w1 (hR.out.mono EBlob.stable hb1.out)
      rw [hfi.out, hfe.out] at hF
      ((with_reducible refine hF.mono ?_); rintro e w2 ⟨rfl, b2⟩)
      have hq2 := hid ((b2.block w.heap.size (Array.getElem?_eq_some_iff.1 hq1.out).1).trans hq1.out)
      have hb2 := hid (b_call hb1.out b2)
      clear b2 hF x0 x1 x2 x3
      obtain ⟨x0, x1, x2, x3⟩ := box4f hq2.out
      obtain ⟨dv, d0, d1, d2, d3, rdv, -⟩ := EBlob.stable _ _ _ _ _ hb2.out hbb he
      obtain ⟨da, dc, rfl, -⟩ := id rdv
      have hln := hid (rb_len rdv)
      replace rdv := hid rdv
      clear he
      go_wp2_with fail
      ((with_reducible refine (bytes_Clone _ x.data _ rdv.out).mono ?_); rintro e w3 ⟨cv, rfl, o3, b3⟩)
      have hb3 := hid (b_call hb2.out b3)
      have r3 := hid (reads_u8 o3 hln.out)
      clear o3 b3
      go_wp2_with fail
      go_ret2
      exact get_ok hd.out hdx.out r3.out hb3.out
  · have ht : (z != 0) = true := by simp [hz]
    have hd := hid (show getE z s bs = z from if_pos hz)
    replace hz := hid hz
    go_enter Try.func66, Try.ntmps66
    go_wp2_with fail
    ((with_reducible refine (hch.out _ (hR.out.mono EBlob.stable (b_alloc (Below.refl _ _) _)) (hE.out.mono EEntry.stable (b_alloc (Below.refl _ _) _))).mono ?_); rintro e w1 ⟨rfl, b1⟩)
    have hq1 := hid ((b1.block w.heap.size (by simp)).trans (heap_alloc_new w _))
    have hb1 := hid (b_call (b_alloc (Below.refl w.heap.size w) _) b1)
    clear b1
    obtain ⟨x0, x1, x2, x3⟩ := box4f hq1.out
    go_wp2_with fail
    go_ret2
    exact get_no hd.out hz.out hb1.out

set_option maxRecDepth 100000 in
set_option maxHeartbeats 1000000 in
theorem ref_StoreGetBlob (v u : Value) (bs : List Blob) (es : List Entry) (r t : Int) (s : ByteArray) (w : World) (h : RBl w v bs) (g : RE w u es) (z : Int)
    (hch : ∀ w, RBl w v bs → RE w u es → Calls Try.prog 70 #[.agg #[v, u, .int .i64 r, .int .i64 t]] w fun e w' => e = .returned (.int .i64 z) ∧ Below w.heap.size w w') :
    Calls Try.prog 67 #[.agg #[v, u, .int .i64 r, .int .i64 t], .string s] w (GetPost z s bs w) := by
  replace hch := hid hch
  have hR := hid h
  have hE := hid g
  obtain ⟨a, c, rfl, hlc, hcm, hre, hno, hat⟩ := h
  obtain ⟨a2, c2, rfl, -⟩ := g
  unfold maxLen at hcm
  clear hno
  by_cases hz : z = 0
  · subst hz
    have hle := atKey_le (fun x : Blob => x.digest) s bs
    have hAt := hid (fun w g => ref_BlobAt (.slice a bs.length c) bs s w g)
    have hd0 := hid (show getE 0 s bs = match bs[atKey (fun x : Blob => x.digest) s bs]? with | none => 5 | some _ => 0 from rfl)
    have hdb := hid (fun h0 : getE 0 s bs = 0 => show getB 0 s bs = (match bs[atKey (fun x : Blob => x.digest) s bs]? with | none => [] | some x => x.data) from if_pos h0)
    generalize atKey (fun x : Blob => x.digest) s bs = i at *
    by_cases hi : i = bs.length
    · have hd := hid (show getE 0 s bs = 5 by rw [hd0.out, List.getElem?_eq_none (by omega)])
      have q1 : ((i : Int) == (bs.length : Int)) = true := by simp [hi]
      go_enter Try.func67, Try.ntmps67
      go_wp2_with fail
      ((with_reducible refine (hch.out _ (hR.out.mono EBlob.stable (b_alloc (Below.refl _ _) _)) (hE.out.mono EEntry.stable (b_alloc (Below.refl _ _) _))).mono ?_); rintro e w1 ⟨rfl, b1⟩)
      have hq1 := hid ((b1.block w.heap.size (by simp)).trans (heap_alloc_new w _))
      have hb1 := hid (b_call (b_alloc (Below.refl w.heap.size w) _) b1)
      clear b1
      obtain ⟨x0, x1, x2, x3⟩ := box4f hq1.out
      go_wp2_with fail
      ((with_reducible refine (hAt.out w1 (hR.out.mono EBlob.stable hb1.out)).mono ?_); rintro e w2 ⟨rfl, rfl⟩)
      have hb2 := hid hb1.out
      go_wp2_with fail
      go_ret2
      exact get_no hd.out (by decide) hb2.out
    · have hx : bs[i]? = some bs[i] := List.getElem?_eq_getElem (by omega)
      generalize bs[i] = x at hx
      obtain ⟨bb, off, rfl, hbb, he⟩ := hat _ _ hx
      have hd := hid (show getE 0 s bs = 0 by rw [hd0.out, hx])
      have hdx := hid (show getB 0 s bs = x.data by rw [hdb.out hd.out, hx])
      have q1 : ((i : Int) == (bs.length : Int)) = false := by simp; omega
      have hilt : i < bs.length := by omega
      have hi0 : (0 : Int) ≤ (i : Int) := by omega
      have hi1 : (i : Int) < (bs.length : Int) := by omega
      clear hx hat hd0 hdb
      go_enter Try.func67, Try.ntmps67
      go_wp2_with fail
      ((with_reducible refine (hch.out _ (hR.out.mono EBlob.stable (b_alloc (Below.refl _ _) _)) (hE.out.mono EEntry.stable (b_alloc (Below.refl _ _) _))).mono ?_); rintro e w1 ⟨rfl, b1⟩)
      have hq1 := hid ((b1.block w.heap.size (by simp)).trans (heap_alloc_new w _))
      have hb1 := hid (b_call (b_alloc (Below.refl w.heap.size w) _) b1)
      clear b1
      obtain ⟨x0, x1, x2, x3⟩ := box4f hq1.out
      go_wp2_with fail
      ((with_reducible refine (hAt.out w1 (hR.out.mono EBlob.stable hb1.out)).mono ?_); rintro e w2 ⟨rfl, rfl⟩)
      have hb2 := hid hb1.out
      obtain ⟨dv, d0, d1, d2, d3, rdv, -⟩ := EBlob.stable _ _ _ _ _ hb2.out hbb he
      obtain ⟨da, dc, rfl, -⟩ := id rdv
      have hln := hid (rb_len rdv)
      replace rdv := hid rdv
      clear he
      go_wp2_with fail
      go_ret2
      exact get_ok hd.out hdx.out rdv.out hb2.out
  · have ht : (z != 0) = true := by simp [hz]
    have hd := hid (show getE z s bs = z from if_pos hz)
    replace hz := hid hz
    go_enter Try.func67, Try.ntmps67
    go_wp2_with fail
    ((with_reducible refine (hch.out _ (hR.out.mono EBlob.stable (b_alloc (Below.refl _ _) _)) (hE.out.mono EEntry.stable (b_alloc (Below.refl _ _) _))).mono ?_); rintro e w1 ⟨rfl, b1⟩)
    have hq1 := hid ((b1.block w.heap.size (by simp)).trans (heap_alloc_new w _))
    have hb1 := hid (b_call (b_alloc (Below.refl w.heap.size w) _) b1)
    clear b1
    obtain ⟨x0, x1, x2, x3⟩ := box4f hq1.out
    go_wp2_with fail
    go_ret2
    exact get_no hd.out hz.out hb1.out
end Go.Proofs.Ytaojfpgbpakmpaa
