/-
  reach's seeker: what it has met behind a search.
-/
import Derived.Test.YtojebioolflbkaaGreatSkk
namespace Go.Proofs.YtojebioolflbkaaGreat
open Go.RowKit Go.Maps

/-- Behind a search: more is met; the map alone has turned. -/
def SeekPost (l : List Blob) (d : ByteArray) (M : List ByteArray) (mb : Nat) (w : World) (e : Ending) (w' : World) : Prop :=
  e = .returned (.tuple #[]) ∧ ∃ M', Sought l [d] M M' ∧ Tidy l M' ∧ MetS w' mb M' ∧ w.grownBy w' (some mb)

set_option maxRecDepth 100000 in
set_option maxHeartbeats 4000000 in
theorem seek_step (v : Value) (l : List Blob) (w0 : World) (hR : RBl w0 v l) (q mb : Nat) (hmb : w0.heap.size ≤ mb) (M : List ByteArray) (d : ByteArray) (w : World) (ht : Tidy l M) (hb : Below w0.heap.size w0 w) (hm : MetS w mb M)
    (hq : w.heap[q]? = some (.cells #[v, .map (some mb)] 129 (0, 0))) (hd : d.size ≤ 140737488351232)
    (ih : ∀ M2 d2 w2, M.length < M2.length → Tidy l M2 → Below w0.heap.size w0 w2 → MetS w2 mb M2 → w2.heap[q]? = some (.cells #[v, .map (some mb)] 129 (0, 0)) → d2.size ≤ 140737488351232 →
      Calls Tryz.prog 112 #[.pointer (some ⟨q, 0, none⟩), .string d2] w2 (SeekPost l d2 M2 mb w2)) :
    Calls Tryz.prog 112 #[.pointer (some ⟨q, 0, none⟩), .string d] w (SeekPost l d M mb w) := by
  have hkey := keyed_str hd
  have hRw := hid (hR.mono EBlob.stable hb)
  have hlen := ht.len
  have hf := hid (blob_Find v l d w hRw.out)
  replace ih := hid ih
  replace ht := hid ht
  replace hb := hid hb
  replace hm := hid hm
  replace hq := hid hq
  by_cases hin : InB l d
  · obtain ⟨e1, e2⟩ := find_yes hin
    rw [e1, e2] at hf
    clear e1 e2
    have hx : l[atKey (fun x : Blob => x.digest) d l]? = some l[atKey (fun x : Blob => x.digest) d l] := List.getElem?_eq_getElem hin
    have hks := kids_at hx
    have hkl := kids_le l d
    have hilt : atKey (fun x : Blob => x.digest) d l < l.length := hin
    generalize l[atKey (fun x : Blob => x.digest) d l] = x at hx hks
    generalize atKey (fun x : Blob => x.digest) d l = i at *
    have hent := hid (fun M2 => Sought.enter (l := l) (d := d) (M := M) (M2 := M2) hin)
    obtain ⟨a, c, rfl, hlc, hcm, hre, hno, hat⟩ := id hR
    obtain ⟨bb, off, rfl, hbb, hex⟩ := hat _ _ hx
    clear hat hno
    cases hi : isIn d M with
    | true =>
      have hso := hid (Sought.met (l := l) (M := M) (d := d) (isIn_iff.1 hi))
      obtain ⟨x0, x1⟩ := box2g hq.out
      go_enter Tryz.func112, Tryz.ntmps112
      go_wp2_with fail
      ((with_reducible refine hf.out.mono ?_); rintro e w1 ⟨rfl, b1⟩)
      have hq1 := hid (stays b1 hq.out)
      have hm1 := hid (hm.out.after b1)
      clear x0 x1
      obtain ⟨x0, x1⟩ := box2g hq1.out
      obtain ⟨D, hown, hseen⟩ := id hm1.out
      have hat9 := hseen.at_ d
      rw [hi] at hat9
      replace hown := hid hown
      replace hat9 := hid hat9
      have hg := hid (below_grown b1 (some mb))
      clear hi hseen
      go_wp2_with (at_lookup; refine wpList_lookup_boolG _ (by rfl) _ _ 102 rfl 9 4 map_keyS Tryz.underlying102 Tryz.underlying4 (zero_boolS _) mb M.length D rfl hown.out _ _ rfl hkey true hat9.out ?_)
      go_end0
      exact ⟨rfl, M, hso.out, ht.out, hm1.out, hg.out⟩
    | false =>
      have hnm := isIn_not.1 hi
      have had := addS_no hi
      have ht1 := hid (ht.out.add hin hnm)
      have hM1 : M.length < l.length := by have := ht1.out.len; simp at this; omega
      have hl47 : l.length ≤ 140737488351232 := by omega
      have hi0 : (0 : Int) ≤ (i : Int) := by omega
      have hi1 : (i : Int) < (l.length : Int) := by omega
      obtain ⟨x0, x1⟩ := box2g hq.out
      go_enter Tryz.func112, Tryz.ntmps112
      go_wp2_with fail
      ((with_reducible refine hf.out.mono ?_); rintro e w1 ⟨rfl, b1⟩)
      have hq1 := hid (stays b1 hq.out)
      have hb1 := hid (hb.out.trans (b1.mono hb.out.size))
      have hm1 := hm.out.after b1
      have hg1 := hid (below_grown b1 (some mb))
      have hbx := hm1.box
      clear x0 x1
      obtain ⟨x0, x1⟩ := box2g hq1.out
      have hqm : q ≠ mb := hbx.ne x0
      obtain ⟨D, hown, hseen⟩ := hm1
      have hat9 := hseen.at_ d
      rw [hi] at hat9
      have hseen' := hid (hseen.put (s := d) ht.out.nodup)
      rw [had] at hseen'
      replace hown := hid hown
      replace hat9 := hid hat9
      have hnn : M.length < maxLen := by unfold maxLen; omega
      clear hi hseen had b1 hbx
      go_wp2_with (first
        | (at_lookup; refine wpList_lookup_boolG _ (by rfl) _ _ 102 rfl 9 4 map_keyS Tryz.underlying102 Tryz.underlying4 (zero_boolS _) mb M.length D rfl hown.out _ _ rfl hkey false hat9.out ?_)
        | (at_mapUpdate; refine wpList_mapUpdate_own _ rfl _ _ _ 102 rfl 9 4 map_keyS Tryz.underlying102 _ mb M.length D rfl hown.out hnn _ _ _ rfl rfl hkey _ [] (plainElem_bool Tryz.underlying4 true) ?_))
      intro w2 hown2 hg2
      have hm2 := hid (show MetS w2 mb (M ++ [d]) from ⟨_, by rw [List.length_append]; exact hown2, hseen'.out⟩)
      have hq2 := hid ((hg2.block q (heap_lt hq1.out) (by simp; omega)).trans hq1.out)
      have hb2 := hid (hb1.out.grown hg2 hb1.out.size (fun k hk => by simp at hk; omega))
      have hg12 := hid (grown_trans hg1.out hg2)
      clear hown2 hg2 hown hat9 hseen' hg1 hb1 hq1 x0 x1
      obtain ⟨x0, x1⟩ := box2g hq2.out
      obtain ⟨dv, d0, d1, d2, d3, rdv, -⟩ := EBlob.stable _ _ _ _ _ hb2.out hbb hex
      have hP := hid (fun w (h : RB w dv x.data) => reach_Parts' x dv w h (decParts x.data).1 (decParts x.data).2 (fun w g => manifest_Decode dv x.data w g))
      unfold DigPost at hP
      rw [← hks] at hP
      have rdv2 := hid rdv
      obtain ⟨xa, xc, rfl, -⟩ := rdv
      generalize kidsOf l d = ks at *
      obtain ⟨hk8, hksz⟩ := hkl
      replace hksz := hid hksz
      replace hx := hid hx
      clear hks
      go_wp2_with fail
      ((with_reducible refine (hP.out _ rdv2.out).mono ?_); rintro e w3 ⟨v3, rfl, o3, b3⟩)
      have r3 := hid (reads_str o3 (by omega) hksz.out)
      have hm3 := hid (hm2.out.after b3)
      have hq3 := hid (stays b3 hq2.out)
      have hb3 := hid (hb2.out.trans (b3.mono hb2.out.size))
      have hg13 := hid (grown_trans hg12.out (below_grown b3 (some mb)))
      obtain ⟨a3, c3, rfl, -⟩ := id r3.out
      clear x0 x1 d0 d1 d2 d3 o3 b3 hb2 hg12 hm2 hq2 hP rdv2 hf hRw hm hq hb
      have hs0 := hid (Sought.refl (l := l) (M := M ++ [d]))
      go_wp2_with fail
      go_loopw [7, 41] (fun _ i2 wr => ∃ (j : Nat) (Mj : List ByteArray), j ≤ ks.length ∧ i2 = .int .i64 (j : Int) ∧ Hid (Sought l (ks.take j) (M ++ [d]) Mj) ∧ Hid (Tidy l Mj) ∧ Hid (MetS wr mb Mj) ∧ Hid (w3.grownBy wr (some mb))) (fun _ i2 _ => ks.length - (intOf i2).toNat)
      case atStart => exact ⟨0, _, by omega, rfl, hs0, ht1, hm3, hid ⟨rfl, rfl, rfl, Nat.le_refl _, fun _ _ _ => rfl⟩⟩
      case round =>
        obtain ⟨j, Mj, hj, rfl, hsj, htj, hmj, hgj⟩ := hrel
        by_cases hlt : j < ks.length
        · have hn : ks[j]? = some ks[j] := List.getElem?_eq_getElem hlt
          have htk := hid (List.take_succ_eq_append_getElem hlt)
          have hsz := hksz.out _ (List.getElem_mem hlt)
          generalize ks[j] = kj at *
          obtain ⟨bq, oq, hv3, hbq, he4, -⟩ := rt_at (r3.out.grownM hgj.out hm3.out.box) hn
          obtain rfl : a3 = some ⟨bq, oq, none⟩ := hv3
          rw [Nat.mul_one] at he4
          have hqj := hid ((hgj.out.block q (heap_lt hq3.out) (by simp; omega)).trans hq3.out)
          have hbj := hid (hb3.out.grown hgj.out hb3.out.size (fun k hk => by simp at hk; omega))
          have hlj : M.length < Mj.length := by
            have := nodup_len (nodup_data ht1.out.nodup) (L := Mj.map (fun s => s.data.toList)) (fun x hx => by
              obtain ⟨y, hy, rfl⟩ := List.mem_map.1 hx
              exact List.mem_map_of_mem (hsj.out.keep y hy))
            simp at this; omega
          have hcall := hid (ih.out Mj kj _ hlj htj.out hbj.out hmj.out hqj.out hsz)
          unfold SeekPost at hcall
          clear hn hbq hlj hsz hqj hbj
          go_wp2_with fail
          ((with_reducible refine hcall.out.mono ?_); rintro e w5 ⟨rfl, M5, hs5, ht5, hm5, hg5⟩)
          have hs6 := hid (hsj.out.snoc hs5)
          rw [← htk.out] at hs6
          have hg6 := hid (grown_trans hgj.out hg5)
          replace ht5 := hid ht5
          replace hm5 := hid hm5
          clear hs5 hg5 hcall hsj htj hmj hgj htk he4
          go_wp2_with fail
          go_roundw
          case rel => exact ⟨j + 1, M5, by omega, by go_num, hs6, ht5, hm5, hg6⟩
          case measure => simp [intOf]; omega
        · obtain rfl : j = ks.length := by omega
          have hs7 := hid (hent.out Mj (by have := hsj.out; rwa [List.take_length] at this))
          have hg7 := hid (grown_trans hg13.out hgj.out)
          clear hsj hgj
          go_wp2_with fail
          go_end0
          exact ⟨rfl, Mj, hs7.out, htj.out, hmj.out, hg7.out⟩
  · have hso := hid (Sought.none (l := l) (M := M) (d := d) hin)
    obtain ⟨e1, e2⟩ := find_no hin
    rw [e1, e2] at hf
    clear e1 e2 hin
    obtain ⟨a, c, rfl, -⟩ := id hR
    obtain ⟨x0, x1⟩ := box2g hq.out
    go_enter Tryz.func112, Tryz.ntmps112
    go_wp2_with fail
    ((with_reducible refine hf.out.mono ?_); rintro e w1 ⟨rfl, b1⟩)
    have hm1 := hid (hm.out.after b1)
    have hg := hid (below_grown b1 (some mb))
    go_wp2_with fail
    go_end0
    exact ⟨rfl, M, hso.out, ht.out, hm1.out, hg.out⟩
end Go.Proofs.YtojebioolflbkaaGreat
