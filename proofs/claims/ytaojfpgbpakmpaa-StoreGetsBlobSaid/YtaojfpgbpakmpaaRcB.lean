/-
  The reference's copy of a list of records (Blob): a row of this call's own, with slices of its own.
-/
import Derived.Test.YtaojfpgbpakmpaaCpB
import Derived.Deep.RegionHeld3
import Derived.StillTactics
import Derived.OwnWalk
import Derived.Tactics2
namespace Go.Proofs.Ytaojfpgbpakmpaa
open Go.RowKit

def RCopiedBlob (l : List Blob) (w : World) (e : Ending) (w' : World) : Prop :=
  ∃ v', e = .returned v' ∧ OBlob w' w.heap.size v' l ∧ Below w.heap.size w w'

set_option maxRecDepth 100000 in
set_option maxHeartbeats 1000000 in
theorem ref_BlobsCopy (v : Value) (l : List Blob) (w : World) (h : RBl w v l) : Calls Try.prog 149 #[v] w (RCopiedBlob l w) := by
  obtain ⟨i0, hi, hz0, hz1, hz2⟩ := info_parts info_B
  obtain ⟨j0, hj, jz0, jz1, jz2⟩ := info_parts info_u8
  obtain ⟨a, c, rfl, hlc, hcm, hre, hno, hat⟩ := h
  unfold maxLen at hcm
  replace hat := hid hat
  clear hno
  have hb1 : Hid (Below w.heap.size w w) := hid (Below.refl _ _)
  have ho1 : Hid (OBlob w w.heap.size (.slice none 0 0) (l.take 0)) := hid OX.nil
  unfold RCopiedBlob
  generalize hB : w.heap.size = B at ho1 hb1 ⊢
  replace hB := hid hB
  go_enter Try.func149, Try.ntmps149
  go_wp2_with fail
  go_loopw [3, 5, 8] (fun o _ i wr => ∃ k : Nat, k ≤ l.length ∧ i = .int .i64 k ∧ Hid (OBlob wr B o (l.take k)) ∧ Hid (Below B w wr)) (fun _ _ i _ => l.length - (intOf i).toNat)
  case atStart => exact ⟨0, by omega, rfl, ho1, hb1⟩
  case round =>
    obtain ⟨k, hk, rfl, hO, hb⟩ := hrel
    have hsB : B ≤ wr.heap.size := by have := hb.out.size; have := hB.out; omega
    by_cases hlt : k < l.length
    · have hx : l[k]? = some l[k] := List.getElem?_eq_getElem hlt
      have htk := hid (List.take_succ_eq_append_getElem hlt)
      generalize l[k] = x at hx htk
      obtain ⟨bb, off, rfl, hbb, he⟩ := hat.out k _ hx
      obtain ⟨dv, c0, c1, c2, c3, rdv, okx⟩ := EBlob.stable _ _ _ _ _ (hB.out ▸ hb.out) hbb he
      have hbw : bb < wr.heap.size := Nat.lt_of_lt_of_le hbb (hB.out ▸ hb.out).size
      have hrl : x.data.length * 1 ≤ 140737488351232 := by obtain ⟨_, _, _, _, _, hr, _⟩ := rdv; exact hr
      obtain ⟨da, dc, rfl, -⟩ := id rdv
      have hq := heap_alloc_new wr (Obj.cells #[.string x.digest, .slice da x.data.length dc, .int .i64 x.pins, .bool x.mark] 60)
      have e0 : (wr.alloc (Obj.cells #[.string x.digest, .slice da x.data.length dc, .int .i64 x.pins, .bool x.mark] 60)).cell? ⟨wr.heap.size, 0, none⟩ = some (.string x.digest) := cell_of_row _ wr.heap.size 0 _ _ _ hq
      have e1 : (wr.alloc (Obj.cells #[.string x.digest, .slice da x.data.length dc, .int .i64 x.pins, .bool x.mark] 60)).cell? ⟨wr.heap.size, 1, none⟩ = some (.slice da x.data.length dc) := cell_of_row _ wr.heap.size 1 _ _ _ hq
      have e2 : (wr.alloc (Obj.cells #[.string x.digest, .slice da x.data.length dc, .int .i64 x.pins, .bool x.mark] 60)).cell? ⟨wr.heap.size, 2, none⟩ = some (.int .i64 x.pins) := cell_of_row _ wr.heap.size 2 _ _ _ hq
      have e3 : (wr.alloc (Obj.cells #[.string x.digest, .slice da x.data.length dc, .int .i64 x.pins, .bool x.mark] 60)).cell? ⟨wr.heap.size, 3, none⟩ = some (.bool x.mark) := cell_of_row _ wr.heap.size 3 _ _ _ hq
      replace rdv := hid (rdv.mono EU8.stable (b_alloc (Below.refl _ wr) (Obj.cells #[.string x.digest, .slice da x.data.length dc, .int .i64 x.pins, .bool x.mark] 60)))
      obtain ⟨rs, hrs, hown, hcs⟩ := hO.out
      have hrl2 : rs.length = k := by have := congrArg List.length hrs; simp at this; omega
      have hown1 := hid (OS.alloc hown (Obj.cells #[.string x.digest, .slice da x.data.length dc, .int .i64 x.pins, .bool x.mark] 60))
      have hcs1 := hid (fun q hq => OS.alloc (show OS 5 1 cU8 wr B _ _ from hcs q hq) (Obj.cells #[.string x.digest, .slice da x.data.length dc, .int .i64 x.pins, .bool x.mark] 60))
      replace hrs := hid hrs
      have hba := hid (b_alloc (Below.refl _ wr) (Obj.cells #[.string x.digest, .slice da x.data.length dc, .int .i64 x.pins, .bool x.mark] 60))
      have hlow := hid (OS.block hown)
      have hne := fun e => Nat.lt_irrefl _ ((World.ownsRow.lt hown wr.heap.size e).2)
      have hltw : wr.heap.size < (wr.alloc (Obj.cells #[.string x.digest, .slice da x.data.length dc, .int .i64 x.pins, .bool x.mark] 60)).heap.size := by simp
      clear he hx hq hown hcs hO
      subst hrl2
      go_wp2_with fail
      generalize wr.alloc (Obj.cells #[.string x.digest, .slice da x.data.length dc, .int .i64 x.pins, .bool x.mark] 60) = wa at *
      generalize wr.heap.size = q at *
      go_region_held3 (fun w' => w'.cell? ⟨q, 0, none⟩ = some (.string x.digest) ∧ w'.cell? ⟨q, 1, none⟩ = some (.slice da x.data.length dc) ∧ w'.cell? ⟨q, 2, none⟩ = some (.int .i64 x.pins) ∧ w'.cell? ⟨q, 3, none⟩ = some (.bool x.mark))
        (first
          | go_keep
          | (go_split_ands
             refine ⟨?_, ?_, ?_, ?_⟩ <;> (rw [hgrow.cell_far _ (by simp; omega) (show some q ≠ none from fun e => by cases e)]; assumption))
          | (go_split_ands
             refine ⟨?_, ?_, ?_, ?_⟩ <;> (rw [hgrow.cell_far _ (by simp; omega) (fun e => hne e.symm)]; assumption)))
        ((first
          | (refine stepL_append (o := ⟨some 17, _, _, _, _, _⟩) (v := .slice none 0 0) (l := []) (m := x.data) (B := q + 1) flat_u8 (by rfl) (.const (.slice none 0 0)) (.tmp 16) 38 (by rfl) 5 j0 _ Try.underlying38 hj jz0 jz1 jz2 rfl (by rfl) OS.nil _ (by rfl) rdv.out (by simp; omega) (by simp [maxLen]; omega) (by simp; omega) ?_; intro cv w5 hcv hgrow; rw [List.nil_append] at hcv; obtain ⟨ca, cc, rfl, -⟩ := OS.len_le hcv
             have hs5 : q < w5.heap.size := Nat.lt_of_lt_of_le hltw hgrow.size
             have hown5 := hid (OS.grew (OS.drew hown1.out) hgrow)
             have hcs5 := hid (fun p hp => OS.grew (OS.drew (hcs1.out p hp)) hgrow)
             have hb5 : Hid (Below q wr w5) := hid (hba.out.drew.grown hgrow (Nat.le_of_lt hltw) (fun k hk => by simp [Value.ownBlock] at hk)))
          | (refine stepL_append (o := ⟨some 24, _, _, _, _, _⟩) (l := rs) (m := [⟨x, ca, cc⟩]) (B := B) flat_cBlob (by rfl) (.tmp 12) (.tmp 23) 69 (by rfl) 60 i0 _ Try.underlying69 hi hz0 hz1 hz2 rfl _ (by rfl) (OS.alloc (OS.grew (OS.drew hown1.out) hgrow) _) (.slice (some ⟨w5.heap.size, 0, none⟩) 1 1) (by rfl) (row_one (s := 4) (bs := 56) (cells := xc cBlob (·.data)) w5 60 ⟨x, ca, cc⟩ #[.string x.digest, .slice ca x.data.length cc, .int .i64 x.pins, .bool x.mark] _ rfl rfl (by decide)) (by simp; omega) (by simp [maxLen]; omega) (by have := hgrow.size; simp at this ⊢; omega) ?_; intro v3 w6 hown3 hgrow; obtain ⟨a3, k3, rfl, -⟩ := id (OS.len_le hown3))))
      have hO3 := hid (OX.grow (e' := 5) hown3 hgrow (OS.alloc hown5.out _) (by decide) (fun p hp => OS.alloc (hcs5.out p hp) _) (OS.alloc (OS.mono hcv (by omega)) _))
      have hb6 := hid (((hb.out.trans (hb5.out.mono hsB)).alloc (by omega) (Obj.cells #[.string x.digest, .slice ca x.data.length cc, .int .i64 x.pins, .bool x.mark] 60)).grown hgrow (by simp; omega) hlow.out)
      have hxs : Hid (rs.map (·.x) ++ [x] = l.take (rs.length + 1)) := hid (by rw [hrs.out, htk.out])
      simp only [hxs.out, List.length_append, List.length_cons, List.length_nil, Nat.zero_add] at hO3
      clear hown3 hgrow hown5 hcs5 hcv hb hb5 hxs hown1 hcs1
      go_wp2_with fail
      go_roundw
      case rel => exact ⟨rs.length + 1, by omega, by go_num, hO3, hb6⟩
      case measure => simp [intOf]; omega
    · obtain rfl : k = l.length := by omega
      rw [List.take_length] at hO
      go_wp2_with fail
      go_ret
      exact ⟨_, rfl, hO.out, hb.out⟩
end Go.Proofs.Ytaojfpgbpakmpaa
