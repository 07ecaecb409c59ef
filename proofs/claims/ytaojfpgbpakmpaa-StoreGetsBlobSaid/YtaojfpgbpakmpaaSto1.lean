/-
  store.have and the reference's partsThere: are all parts there, of their sizes?
-/
import Derived.Test.YtaojfpgbpakmpaaAtB
import Derived.Test.YtaojfpgbpakmpaaKdB
import Derived.BigQuiet
namespace Go.Proofs.Ytaojfpgbpakmpaa
open Go.RowKit

def thereOne (l : List Blob) (p : Part) : Int := match l[atKey (·.digest) p.digest l]? with | none => 5 | some b => if (b.data.length : Int) = p.size then 0 else 4
/-- What is wrong with parts, as to the blobs that they name. -/
def thereFault (l : List Blob) : List Part → Int
  | [] => 0
  | p :: r => if thereOne l p = 0 then thereFault l r else thereOne l p
theorem there_step {l : List Blob} {ps : List Part} {k : Nat} {p : Part} {z : Int} (h : z = thereFault l (ps.drop k)) (hp : ps[k]? = some p) (h0 : thereOne l p = 0) : z = thereFault l (ps.drop (k + 1)) := by
  obtain ⟨hk, rfl⟩ := List.getElem?_eq_some_iff.1 hp
  rw [h, List.drop_eq_getElem_cons hk, thereFault, if_pos h0]
theorem there_stop {l : List Blob} {ps : List Part} {k : Nat} {p : Part} {z n : Int} (h : z = thereFault l (ps.drop k)) (hp : ps[k]? = some p) (h0 : thereOne l p = n) (hn : n ≠ 0) : z = n := by
  obtain ⟨hk, rfl⟩ := List.getElem?_eq_some_iff.1 hp
  rw [h, List.drop_eq_getElem_cons hk, thereFault, if_neg (by rw [h0]; exact hn), h0]
theorem there_end {l : List Blob} {ps : List Part} {z : Int} (h : z = thereFault l (ps.drop ps.length)) : z = 0 := by rw [h, List.drop_length]; rfl

set_option maxRecDepth 100000 in
set_option maxHeartbeats 1000000 in
theorem store_have (v u : Value) (l : List Blob) (ps : List Part) (w : World) (h : RBl w v l) (g : RP w u ps) :
    Calls Try.prog 164 #[v, u] w fun e w' => e = .returned (.int .i64 (thereFault l ps)) ∧ Below w.heap.size w w' := by
  have hR := hid h
  obtain ⟨a, c, rfl, hlc, hcm, hre, hno, hat⟩ := h
  obtain ⟨a2, c2, rfl, glc, gcm, gre, gno, gat⟩ := g
  unfold maxLen at hcm gcm
  clear hno gno
  replace hat := hid hat
  replace gat := hid gat
  have hz0 : thereFault l ps = thereFault l (ps.drop 0) := rfl
  generalize thereFault l ps = z at *
  replace hz0 := hid hz0
  go_enter Try.func164, Try.ntmps164
  go_wp2_with fail
  go_loopw [6, 7, 8, 11] (fun _ _ _ i wr => ∃ (k : Nat), k ≤ ps.length ∧ i = .int .i64 (k : Int) ∧ Hid (z = thereFault l (ps.drop k)) ∧ Hid (Below w.heap.size w wr)) (fun _ _ _ i _ => ps.length - (intOf i).toNat)
  case atStart => exact ⟨0, by omega, rfl, hz0, hid (Below.refl _ _)⟩
  case round =>
    obtain ⟨k, hk, rfl, hz, hb⟩ := hrel
    by_cases hlt : k < ps.length
    · have hx : ps[k]? = some ps[k] := List.getElem?_eq_getElem hlt
      generalize ps[k] = p at hx
      obtain ⟨bp, op, rfl, hbp, hep⟩ := gat.out k _ hx
      obtain ⟨c0, c1, c2, -⟩ := EPart.stable _ _ _ _ _ hb.out hbp hep
      have hstep := hid (fun h0 => there_step hz.out hx h0)
      have hstop := hid (fun (n : Int) (h0 : thereOne l p = n) (hn : n ≠ 0) => there_stop hz.out hx h0 hn)
      have hone := hid (show thereOne l p = match l[atKey (·.digest) p.digest l]? with | none => 5 | some b => if (b.data.length : Int) = p.size then 0 else 4 from rfl)
      have hle := atKey_le (fun x : Blob => x.digest) p.digest l
      have hfi : findI (fun x : Blob => x.digest) p.digest l = if atKey (fun x : Blob => x.digest) p.digest l = l.length then 0 else (atKey (fun x : Blob => x.digest) p.digest l : Int) := rfl
      have hfe : findE (fun x : Blob => x.digest) p.digest l = if atKey (fun x : Blob => x.digest) p.digest l = l.length then 5 else 0 := rfl
      have hF := fun w g => blob_Find (.slice a l.length c) l p.digest w g
      generalize atKey (fun x : Blob => x.digest) p.digest l = i at *
      generalize findI (fun x : Blob => x.digest) p.digest l = fi at *
      generalize findE (fun x : Blob => x.digest) p.digest l = fe at *
      replace hF := hid hF
      have hba := hid (b_alloc (Below.refl _ wr) (Obj.cells #[.string p.name, .string p.digest, .int .i64 p.size] 143))
      have hq1 := hid (heap_alloc_new wr (Obj.cells #[.string p.name, .string p.digest, .int .i64 p.size] 143))
      have hsz1 : wr.heap.size < (wr.alloc (Obj.cells #[.string p.name, .string p.digest, .int .i64 p.size] 143)).heap.size := by simp
      clear hx hz hep
      by_cases hi : i = l.length
      · rw [if_pos hi] at hfi hfe
        subst hfi hfe
        have hz5 := hid (hstop.out 5 (by rw [hone.out, List.getElem?_eq_none (by omega)]) (by decide))
        clear hstep hstop hone hq1 hsz1
        replace hi := hid hi
        go_wp2_with fail
        ((with_reducible refine (hF.out _ (hR.out.mono EBlob.stable (b_alloc hb.out _))).mono ?_); rintro e w1 ⟨rfl, b1⟩)
        have hb1 := hid (b_call (b_alloc hb.out _) b1)
        clear b1
        go_wp2_with fail
        go_ret
        exact ⟨ret_i hz5.out.symm, hb1.out⟩
      · rw [if_neg hi] at hfi hfe
        subst hfi hfe
        have hx : l[i]? = some l[i] := List.getElem?_eq_getElem (by omega)
        generalize l[i] = x at hx
        obtain ⟨bb, off, rfl, hbb, he⟩ := hat.out _ _ hx
        rw [hx] at hone
        have hilt : i < l.length := by omega
        have hi0 : (0 : Int) ≤ (i : Int) := by omega
        have hi1 : (i : Int) < (l.length : Int) := by omega
        clear hx hi
        go_wp2_with fail
        ((with_reducible refine (hF.out _ (hR.out.mono EBlob.stable (b_alloc hb.out _))).mono ?_); rintro e w1 ⟨rfl, b1⟩)
        have hq2 := (b1.block wr.heap.size hsz1).trans hq1.out
        obtain ⟨x0, x1, x2, -⟩ := box3f hq2
        have hb1 := hid (b_call (b_alloc hb.out _) b1)
        obtain ⟨dv, d0, d1, d2, d3, rdv, okx⟩ := EBlob.stable _ _ _ _ _ hb1.out hbb he
        obtain ⟨da, dc, rfl, -⟩ := id rdv
        clear b1 hq1 hq2 hsz1 he rdv okx hF hba c0 c1 c2
        by_cases hs : (x.data.length : Int) = p.size
        · have tt : ((x.data.length : Int) != p.size) = false := by simp [hs]
          have hn := hid (hstep.out (by rw [hone.out]; exact if_pos hs))
          clear hstep hstop hone hs
          go_wp2_with fail
          go_quiet (fail)
          go_wp2_with fail
          go_roundw
          case rel => exact ⟨k + 1, by omega, by go_num, hn, hid (below_drewN hb1.out _)⟩
          case measure => simp [intOf]; omega
        · have tt : ((x.data.length : Int) != p.size) = true := by simp [hs]
          have hz4 := hid (hstop.out 4 (by rw [hone.out]; exact if_neg hs) (by decide))
          clear hstep hstop hone hs
          go_wp2_with fail
          go_quiet (fail)
          go_wp2_with fail
          go_ret
          exact ⟨ret_i hz4.out.symm, below_drewN hb1.out _⟩
    · obtain rfl : k = ps.length := by omega
      have hr0 := hid (there_end hz.out)
      clear hz
      go_wp2_with fail
      go_ret
      exact ⟨ret_i hr0.out.symm, hb.out⟩
set_option maxRecDepth 100000 in
set_option maxHeartbeats 1000000 in
theorem ref_partsThere (v u : Value) (l : List Blob) (ps : List Part) (w : World) (h : RBl w v l) (g : RP w u ps) :
    Calls Try.prog 166 #[v, u] w fun e w' => e = .returned (.int .i64 (thereFault l ps)) ∧ Below w.heap.size w w' := by
  have hR := hid h
  obtain ⟨a, c, rfl, hlc, hcm, hre, hno, hat⟩ := h
  obtain ⟨a2, c2, rfl, glc, gcm, gre, gno, gat⟩ := g
  unfold maxLen at hcm gcm
  clear hno gno
  replace hat := hid hat
  replace gat := hid gat
  have hz0 : thereFault l ps = thereFault l (ps.drop 0) := rfl
  generalize thereFault l ps = z at *
  replace hz0 := hid hz0
  go_enter Try.func166, Try.ntmps166
  go_wp2_with fail
  go_loopw [6, 7, 10] (fun _ _ i wr => ∃ (k : Nat), k ≤ ps.length ∧ i = .int .i64 (k : Int) ∧ Hid (z = thereFault l (ps.drop k)) ∧ Hid (Below w.heap.size w wr)) (fun _ _ i _ => ps.length - (intOf i).toNat)
  case atStart => exact ⟨0, by omega, rfl, hz0, hid (Below.refl _ _)⟩
  case round =>
    obtain ⟨k, hk, rfl, hz, hb⟩ := hrel
    by_cases hlt : k < ps.length
    · have hx : ps[k]? = some ps[k] := List.getElem?_eq_getElem hlt
      generalize ps[k] = p at hx
      obtain ⟨bp, op, rfl, hbp, hep⟩ := gat.out k _ hx
      obtain ⟨c0, c1, c2, -⟩ := EPart.stable _ _ _ _ _ hb.out hbp hep
      have hstep := hid (fun h0 => there_step hz.out hx h0)
      have hstop := hid (fun (n : Int) (h0 : thereOne l p = n) (hn : n ≠ 0) => there_stop hz.out hx h0 hn)
      have hone := hid (show thereOne l p = match l[atKey (·.digest) p.digest l]? with | none => 5 | some b => if (b.data.length : Int) = p.size then 0 else 4 from rfl)
      have hle := atKey_le (fun x : Blob => x.digest) p.digest l
      have hF := fun w g => ref_BlobAt (.slice a l.length c) l p.digest w g
      generalize atKey (fun x : Blob => x.digest) p.digest l = i at *
      replace hF := hid hF
      have hba := hid (b_alloc (Below.refl _ wr) (Obj.cells #[.string p.name, .string p.digest, .int .i64 p.size] 143))
      have hq1 := hid (heap_alloc_new wr (Obj.cells #[.string p.name, .string p.digest, .int .i64 p.size] 143))
      have hsz1 : wr.heap.size < (wr.alloc (Obj.cells #[.string p.name, .string p.digest, .int .i64 p.size] 143)).heap.size := by simp
      clear hx hz hep
      by_cases hi : i = l.length
      · have q1 : ((i : Int) == (l.length : Int)) = true := by simp [hi]
        have hz5 := hid (hstop.out 5 (by rw [hone.out, List.getElem?_eq_none (by omega)]) (by decide))
        clear hstep hstop hone hq1 hsz1
        replace hi := hid hi
        go_wp2_with fail
        ((with_reducible refine (hF.out _ (hR.out.mono EBlob.stable (b_alloc hb.out _))).mono ?_); rintro e w1 ⟨rfl, rfl⟩)
        have hb1 := hid (b_alloc hb.out (Obj.cells #[.string p.name, .string p.digest, .int .i64 p.size] 143))
        go_wp2_with fail
        go_ret
        exact ⟨ret_i hz5.out.symm, hb1.out⟩
      · have q1 : ((i : Int) == (l.length : Int)) = false := by simp; omega
        have hx : l[i]? = some l[i] := List.getElem?_eq_getElem (by omega)
        generalize l[i] = x at hx
        obtain ⟨bb, off, rfl, hbb, he⟩ := hat.out _ _ hx
        rw [hx] at hone
        have hilt : i < l.length := by omega
        have hi0 : (0 : Int) ≤ (i : Int) := by omega
        have hi1 : (i : Int) < (l.length : Int) := by omega
        clear hx hi
        go_wp2_with fail
        ((with_reducible refine (hF.out _ (hR.out.mono EBlob.stable (b_alloc hb.out _))).mono ?_); rintro e w1 ⟨rfl, rfl⟩)
        obtain ⟨x0, x1, x2, -⟩ := box3f hq1.out
        have hb1 := hid (b_alloc hb.out (Obj.cells #[.string p.name, .string p.digest, .int .i64 p.size] 143))
        obtain ⟨dv, d0, d1, d2, d3, rdv, okx⟩ := EBlob.stable _ _ _ _ _ hb1.out hbb he
        obtain ⟨da, dc, rfl, -⟩ := id rdv
        clear hq1 hsz1 he rdv okx hF hba c0 c1 c2
        by_cases hs : (x.data.length : Int) = p.size
        · have tt : ((x.data.length : Int) != p.size) = false := by simp [hs]
          have hn := hid (hstep.out (by rw [hone.out]; exact if_pos hs))
          clear hstep hstop hone hs
          go_wp2_with fail
          go_quiet (fail)
          go_wp2_with fail
          go_roundw
          case rel => exact ⟨k + 1, by omega, by go_num, hn, hid (below_drewN hb1.out _)⟩
          case measure => simp [intOf]; omega
        · have tt : ((x.data.length : Int) != p.size) = true := by simp [hs]
          have hz4 := hid (hstop.out 4 (by rw [hone.out]; exact if_neg hs) (by decide))
          clear hstep hstop hone hs
          go_wp2_with fail
          go_quiet (fail)
          go_wp2_with fail
          go_ret
          exact ⟨ret_i hz4.out.symm, below_drewN hb1.out _⟩
    · obtain rfl : k = ps.length := by omega
      have hr0 := hid (there_end hz.out)
      clear hz
      go_wp2_with fail
      go_ret
      exact ⟨ret_i hr0.out.symm, hb.out⟩
end Go.Proofs.Ytaojfpgbpakmpaa
