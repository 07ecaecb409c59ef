/-
  Drop of a record (Blob): what the program and the reference answer.
-/
import Derived.Test.YtaojfpgbpakmpaaFtB
import Derived.Test.YtaojfpgbpakmpaaEqB
import Derived.IntWalk
import Derived.Deep.RegionHeld3
import Derived.StillTactics
import Derived.OwnWalk
import Derived.Test.YtaojfpgbpakmpaaBlb
namespace Go.Proofs.Ytaojfpgbpakmpaa
open Go.RowKit

/-- What is wrong with dropping what a key has, z being what is wrong with the list. -/
def dropE_B (z : Int) (s : ByteArray) (l : List Blob) : Int :=
  if z ≠ 0 then z else match l[atKey (·.digest) s l]? with | none => 5 | some x => if 0 < x.pins then 10 else 0
def dropL_B (z : Int) (s : ByteArray) (l : List Blob) : List Blob := if dropE_B z s l = 0 then l.take (atKey (·.digest) s l) ++ l.drop (atKey (·.digest) s l + 1) else []
theorem drop_B_len (i : Nat) (l : List Blob) (h : l.length * 56 ≤ 140737488351232) : (l.take i ++ l.drop (i + 1)).length * 56 ≤ 140737488351232 := by
  have : (l.take i ++ l.drop (i + 1)).length ≤ l.length := by rw [List.length_append, List.length_take, List.length_drop]; omega
  omega
theorem drop_B_mem (i : Nat) (l : List Blob) (Q : Blob → Prop) (h : ∀ x ∈ l, Q x) : ∀ x ∈ l.take i ++ l.drop (i + 1), Q x := by
  intro x hx
  rcases List.mem_append.1 hx with hx | hx
  · exact h x (List.mem_of_mem_take hx)
  · exact h x (List.mem_of_mem_drop hx)

def DropPost_B (z : Int) (s : ByteArray) (l : List Blob) (w : World) (e : Ending) (w' : World) : Prop :=
  ∃ v', e = .returned (.tuple #[v', .int .i64 (dropE_B z s l)]) ∧ RBl w' v' (dropL_B z s l) ∧ Below w.heap.size w w'
theorem drop_no_B {z n : Int} {s : ByteArray} {l : List Blob} {w w' : World} (h : dropE_B z s l = n) (hn : n ≠ 0) (hb : Below w.heap.size w w') : DropPost_B z s l w (.returned (.tuple #[.slice none 0 0, .int .i64 n])) w' := by
  refine ⟨_, by rw [h], ?_, hb⟩
  unfold dropL_B
  rw [if_neg (by rw [h]; exact hn)]
  exact RS.nil
theorem drop_ok_B {z : Int} {s : ByteArray} {l L : List Blob} {w w' : World} {v' : Value} (h : dropE_B z s l = 0) (hl : dropL_B z s l = L) (hr : RBl w' v' L) (hb : Below w.heap.size w w') : DropPost_B z s l w (.returned (.tuple #[v', .int .i64 0])) w' :=
  ⟨_, by rw [h], by rw [hl]; exact hr, hb⟩

set_option maxRecDepth 100000 in
set_option maxHeartbeats 1000000 in
theorem blob_Drop (v : Value) (l : List Blob) (s : ByteArray) (w : World) (h : RBl w v l) (z : Int)
    (hch : ∀ w, RBl w v l → Calls Try.prog 146 #[v] w fun e w' => e = .returned (.int .i64 z) ∧ Below w.heap.size w w') :
    Calls Try.prog 55 #[v, .string s] w (DropPost_B z s l w) := by
  replace hch := hid hch
  have hR := hid h
  obtain ⟨a, c, rfl, hlc, hcm, hre, hno, hat⟩ := h
  unfold maxLen at hcm
  clear hno
  by_cases hz : z = 0
  · subst hz
    have hle := atKey_le (fun x : Blob => x.digest) s l
    have hfi : findI (fun x : Blob => x.digest) s l = if atKey (fun x : Blob => x.digest) s l = l.length then 0 else (atKey (fun x : Blob => x.digest) s l : Int) := rfl
    have hfe : findE (fun x : Blob => x.digest) s l = if atKey (fun x : Blob => x.digest) s l = l.length then 5 else 0 := rfl
    have hd0 := hid (show dropE_B 0 s l = match l[atKey (fun x : Blob => x.digest) s l]? with | none => 5 | some x => if 0 < x.pins then 10 else 0 from rfl)
    have hdl := hid (fun h0 : dropE_B 0 s l = 0 => show dropL_B 0 s l = l.take (atKey (fun x : Blob => x.digest) s l) ++ l.drop (atKey (fun x : Blob => x.digest) s l + 1) from if_pos h0)
    generalize atKey (fun x : Blob => x.digest) s l = i at *
    by_cases hi : i = l.length
    · have hd : Hid (dropE_B 0 s l = 5) := hid (by rw [hd0.out, List.getElem?_eq_none (by omega)])
      rw [if_pos hi] at hfi hfe
      replace hfi := hid hfi
      replace hfe := hid hfe
      replace hi := hid hi
      go_enter Try.func55, Try.ntmps55
      go_wp2_with fail
      ((with_reducible refine (hch.out _ hR.out).mono ?_); rintro e w1 ⟨rfl, b1⟩)
      go_wp2_with fail
      have hF := blob_Find _ l s w1 (hR.out.mono EBlob.stable b1)
      rw [hfi.out, hfe.out] at hF
      ((with_reducible refine hF.mono ?_); rintro e w2 ⟨rfl, b2⟩)
      go_wp2_with fail
      go_ret2
      exact drop_no_B hd.out (by decide) (b_call b1 b2)
    · have hx : l[i]? = some l[i] := List.getElem?_eq_getElem (by omega)
      generalize l[i] = x at hx
      obtain ⟨bb, off, rfl, hbb, he⟩ := hat _ _ hx
      rw [if_neg hi] at hfi hfe
      have hilt : i < l.length := by omega
      have hd : Hid (dropE_B 0 s l = if 0 < x.pins then 10 else 0) := hid (by rw [hd0.out, hx])
      replace hfi := hid hfi
      replace hfe := hid hfe
      have hfit := hid (fit_B hR.out)
      clear hx hat hd0
      go_enter Try.func55, Try.ntmps55
      go_wp2_with fail
      ((with_reducible refine (hch.out _ hR.out).mono ?_); rintro e w1 ⟨rfl, b1⟩)
      go_wp2_with fail
      have hF := blob_Find _ l s w1 (hR.out.mono EBlob.stable b1)
      rw [hfi.out, hfe.out] at hF
      ((with_reducible refine hF.mono ?_); rintro e w2 ⟨rfl, b2⟩)
      have hb2 := hid (b_call b1 b2)
      obtain ⟨dv, c0, c1, c2, c3, rdv, okx⟩ := EBlob.stable _ _ _ _ _ hb2.out hbb he
      clear b1 b2 hF he rdv
      by_cases hp : 0 < x.pins
      · have q : decide (0 < x.pins) = true := by simp [hp]
        replace hd := hid (hd.out.trans (if_pos hp))
        go_wp2_with fail
        go_ret2
        exact drop_no_B hd.out (by decide) hb2.out
      · have q : decide (0 < x.pins) = false := by simp; omega
        replace hd := hid (hd.out.trans (if_neg hp))
        have hi0 : (0 : Int) ≤ (i : Int) := by omega
        have hi1 : (i : Int) < (l.length : Int) := by omega
        go_wp2_with fail
        ((with_reducible refine (blob_Copy _ l _ (hR.out.mono EBlob.stable hb2.out)).mono ?_); rintro e w3 ⟨rfl, o3, b3⟩)
        have hb3 := hid (b_call hb2.out b3)
        replace o3 := hid o3
        have hs3 := b3.size
        clear b3
        go_wp2_with fail
        ((with_reducible refine (slices_Delete_B l i w2.heap.size w3 o3.out hilt hs3 (by omega)).mono ?_); rintro e w4 ⟨cc, rfl, o4, b4⟩)
        have hb4 := hid (hb3.out.trans (b4.mono hb2.out.size))
        replace o4 := hid o4
        clear b4
        go_wp2_with fail
        go_ret2
        exact drop_ok_B hd.out (hdl.out hd.out) (o4.out.toR (drop_B_len _ _ hre) (drop_B_mem _ _ _ hfit.out)) hb4.out
  · have ht : (z != 0) = true := by simp [hz]
    have hd : Hid (dropE_B z s l = z) := hid (if_pos hz)
    replace hz := hid hz
    go_enter Try.func55, Try.ntmps55
    go_wp2_with fail
    ((with_reducible refine (hch.out _ hR.out).mono ?_); rintro e w1 ⟨rfl, b1⟩)
    go_wp2_with fail
    go_ret2
    exact drop_no_B hd.out hz.out b1

set_option maxRecDepth 100000 in
set_option maxHeartbeats 1000000 in
theorem ref_BlobsDrop (v : Value) (l : List Blob) (s : ByteArray) (w : World) (h : RBl w v l) (z : Int)
    (hch : ∀ w, RBl w v l → Calls Try.prog 148 #[v] w fun e w' => e = .returned (.int .i64 z) ∧ Below w.heap.size w w') :
    Calls Try.prog 57 #[v, .string s] w (DropPost_B z s l w) := by
  obtain ⟨i0, ii0, hz0, hz1, hz2⟩ := info_parts info_B
  replace hch := hid hch
  have hR := hid h
  obtain ⟨a, c, rfl, hlc, hcm, hre, hno, hat⟩ := h
  unfold maxLen at hcm
  clear hno
  by_cases hz : z = 0
  · subst hz
    have hle := atKey_le (fun x : Blob => x.digest) s l
    have hAt := hid (fun w g => ref_BlobAt (.slice a l.length c) l s w g)
    have hd0 := hid (show dropE_B 0 s l = match l[atKey (fun x : Blob => x.digest) s l]? with | none => 5 | some x => if 0 < x.pins then 10 else 0 from rfl)
    have hdl := hid (fun h0 : dropE_B 0 s l = 0 => show dropL_B 0 s l = l.take (atKey (fun x : Blob => x.digest) s l) ++ l.drop (atKey (fun x : Blob => x.digest) s l + 1) from if_pos h0)
    generalize atKey (fun x : Blob => x.digest) s l = i at *
    by_cases hi : i = l.length
    · have hd : Hid (dropE_B 0 s l = 5) := hid (by rw [hd0.out, List.getElem?_eq_none (by omega)])
      subst hi
      have q1 : ((l.length : Int) == (l.length : Int)) = true := by simp
      go_enter Try.func57, Try.ntmps57
      go_wp2_with fail
      ((with_reducible refine (hch.out _ hR.out).mono ?_); rintro e w1 ⟨rfl, b1⟩)
      go_wp2_with fail
      ((with_reducible refine (hAt.out _ (hR.out.mono EBlob.stable b1)).mono ?_); rintro e w2 ⟨rfl, rfl⟩)
      go_wp2_with fail
      go_ret2
      exact drop_no_B hd.out (by decide) b1
    · have hx : l[i]? = some l[i] := List.getElem?_eq_getElem (by omega)
      generalize l[i] = x at hx
      obtain ⟨bb, off, rfl, hbb, he⟩ := hat _ _ hx
      have hilt : i < l.length := by omega
      have hd : Hid (dropE_B 0 s l = if 0 < x.pins then 10 else 0) := hid (by rw [hd0.out, hx])
      have q1 : ((i : Int) == (l.length : Int)) = false := by simp; omega
      have hfit := hid (fit_B hR.out)
      clear hx hat hd0
      go_enter Try.func57, Try.ntmps57
      go_wp2_with fail
      ((with_reducible refine (hch.out _ hR.out).mono ?_); rintro e w1 ⟨rfl, b1⟩)
      go_wp2_with fail
      ((with_reducible refine (hAt.out _ (hR.out.mono EBlob.stable b1)).mono ?_); rintro e w2 ⟨rfl, rfl⟩)
      have hb2 := hid b1
      obtain ⟨dv, c0, c1, c2, c3, rdv, okx⟩ := EBlob.stable _ _ _ _ _ hb2.out hbb he
      clear b1 he rdv
      by_cases hp : 0 < x.pins
      · have q : decide (0 < x.pins) = true := by simp [hp]
        replace hd := hid (hd.out.trans (if_pos hp))
        go_wp2_with fail
        go_ret2
        exact drop_no_B hd.out (by decide) hb2.out
      · have q : decide (0 < x.pins) = false := by simp; omega
        replace hd := hid (hd.out.trans (if_neg hp))
        have hi0 : (0 : Int) ≤ (i : Int) := by omega
        have hi1 : (i : Int) < (l.length : Int) := by omega
        obtain ⟨A, hA⟩ : ∃ A, (if c = i + 1 then (some ⟨bb, off, none⟩ : Option Addr) else some ⟨bb, off + (i + 1) * 4, none⟩) = A := ⟨_, rfl⟩
        have hR1 := hR.out.mono EBlob.stable hb2.out
        have hup := hid (RS.upto hR1 i (by omega))
        have hfrom := RS.from hR1 (i + 1) (by omega)
        rw [show (if c = i + 1 then (some ⟨bb, off, none⟩ : Option Addr) else (some (⟨bb, off, none⟩ : Addr)).map (·.add ((i + 1) * 4))) = A by rw [← hA]; simp [Addr.add_lit]] at hfrom
        replace hfrom := hid hfrom
        have g1 : (0 : Int) ≤ (i : Int) + 1 := by omega
        have g2 : (i : Int) + 1 ≤ (l.length : Int) := by omega
        have g3 : i ≤ c := by omega
        have g4 : i + 1 ≤ l.length := by omega
        have g5 : IntKind.i64.wrap ((i : Int) + 1) = (i : Int) + 1 := IntWalk.i64_in _ (by omega)
        have g6 : ((i : Int) + 1).toNat = i + 1 := by omega
        have hsz := hb2.out.size
        go_wp2_with fail
        clear hR1 hch hAt c0 c1 c2 c3 q q1
        go_region_held3 (fun w' => True) (first | go_keep | exact trivial)
          ((first
            | ((with_reducible refine (ref_BlobsCopy (.slice (some ⟨bb, off, none⟩) i c) (l.take i) _ (hup.out.mono EBlob.stable (Below.refl _ w1).drew)).mono ?_)
               rintro e wa ⟨va, rfl, ⟨ra, hra, oa, ca⟩, ba⟩
               obtain ⟨aa, ka, rfl, -⟩ := id (OS.len_le oa)
               have ba1 : Below w1.heap.size w1 wa := b_call (Below.refl _ w1).drew ba
               have hfrom2 := hid (hfrom.out.mono EBlob.stable ba1))
            | ((with_reducible refine (ref_BlobsCopy (.slice A (l.length - (i + 1)) (c - (i + 1))) (l.drop (i + 1)) _ hfrom2.out).mono ?_)
               rintro e wb ⟨vb, rfl, ⟨rb, hrb, ob, cb⟩, bb2⟩
               obtain ⟨ab, kb, rfl, -⟩ := id (OS.len_le ob)
               have hla : ra.length ≤ i := (by have := congrArg List.length hra; simp at this; omega)
               have hlb : rb.length ≤ l.length - (i + 1) := (by have := congrArg List.length hrb; simp at this; omega)
               have hob := hid (OS.reads (cells := xc cBlob (·.data)) (bs := 56) (E := ERaw (xc cBlob (·.data))) xcBlob_len (by decide) (fun b o r _ hc j u hj => (by
                 have hlt := (List.getElem?_eq_some_iff.1 hj).1
                 rw [hc j (by rw [xcBlob_len] at hlt; exact hlt), hj])) ob (by omega))
               have hs1 : w1.heap.size ≤ wa.heap.size := ba.size
               have hs2 : wa.heap.size ≤ wb.heap.size := bb2.size)
            | (refine stepL_append (o := ⟨some 35, _, _, _, _, _⟩) (l := ra) (m := rb) (B := w1.heap.size) flat_cBlob (by rfl) (.tmp 29) (.tmp 34) 69 (by rfl) 60 i0 _ Try.underlying69 ii0 hz0 hz1 hz2 rfl _ (by rfl) (OS.below oa bb2) _ (by rfl) hob.out (by omega) (by simp [maxLen]; omega) (by omega) ?_; intro v3 w6 hown3 hgrow; obtain ⟨a3, k3, rfl, -⟩ := id (OS.len_le hown3))
            | fail))
        have hO3 := OX.join (e' := 5) hown3 hgrow (OS.below oa bb2) (by decide) (fun q hq => CO.below bb2 _ _ (ca q hq)) (fun q hq => OS.mono (cb q hq) hs1)
        rw [hra, hrb] at hO3
        have hO4 : Hid (OBlob w6 w1.heap.size (.slice a3 (ra ++ rb).length k3) (l.take i ++ l.drop (i + 1))) := hid hO3
        have hb6 := hid (Below.grown (b_call (b_call hb2.out ba1) bb2) hgrow (by omega) (fun k hk => Nat.le_trans hsz (OS.block oa k hk)))
        simp only [List.length_append] at hO4
        clear hO3 hown3 hgrow oa ob bb2 ba ba1 ca cb hra hrb hob hfrom2 hfrom hup
        go_wp2_with fail
        go_ret2
        exact drop_ok_B hd.out (hdl.out hd.out) (hO4.out.toR (drop_B_len _ _ hre) (drop_B_mem _ _ _ hfit.out)) hb6.out
  · have ht : (z != 0) = true := by simp [hz]
    have hd : Hid (dropE_B z s l = z) := hid (if_pos hz)
    replace hz := hid hz
    go_enter Try.func57, Try.ntmps57
    go_wp2_with fail
    ((with_reducible refine (hch.out _ hR.out).mono ?_); rintro e w1 ⟨rfl, b1⟩)
    go_wp2_with fail
    go_ret2
    exact drop_no_B hd.out hz.out b1
end Go.Proofs.Ytaojfpgbpakmpaa
