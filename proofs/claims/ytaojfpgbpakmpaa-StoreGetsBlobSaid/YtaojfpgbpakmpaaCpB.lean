/-
  The Copy of a list of records (Blob): a row of this call's own, with slices of its own.
-/
import Derived.Test.YtaojfpgbpakmpaaKdB
import Derived.Test.YtaojfpgbpakmpaaCln
import Derived.Test.YtaojfpgbpakmpaaWire2
namespace Go.Proofs.Ytaojfpgbpakmpaa
open Go.RowKit

theorem info_B : (Try.prog.info? 60).map (fun i => (i.zero, i.size, i.bytes)) = some (some (.agg #[.string ⟨#[]⟩, .slice none 0 0, .int .i64 0, .bool false]), 4, 56) := by kernel_rfl

/-- What Copy answers: a full row of its own. -/
def CopiedBlob (l : List Blob) (w : World) (e : Ending) (w' : World) : Prop :=
  e = .returned (.slice (some ⟨w.heap.size, 0, none⟩) l.length l.length) ∧ OBlob w' w.heap.size (.slice (some ⟨w.heap.size, 0, none⟩) l.length l.length) l ∧ Below w.heap.size w w'

set_option maxRecDepth 100000 in
set_option maxHeartbeats 1000000 in
theorem blob_Copy (v : Value) (l : List Blob) (w : World) (h : RBl w v l) : Calls Try.prog 54 #[v] w (CopiedBlob l w) := by
  obtain ⟨i0, hi, hz0, hz1, hz2⟩ := info_parts info_B
  obtain ⟨a, c, rfl, hlc, hcm, hre, hno, hat⟩ := h
  unfold maxLen at hcm
  replace hat := hid hat
  clear hno
  obtain ⟨w1, hmk, how, hgr⟩ := run_make_own w w.heap.size 69 60 i0 _ 4 Try.underlying69 hi hz0 hz1 .i64 .i64 l.length (by rw [hz2]; omega) (by simp [maxLen]; omega) (Nat.le_refl _)
  have hb1 : Hid (Below w.heap.size w w1) := hid (b_grown (v := .slice none 0 0) (Below.refl _ _) hgr (fun k hk => by simp [Value.ownBlock] at hk))
  have ho1 : Hid (OBlob w1 w.heap.size (.slice (some ⟨w.heap.size, 0, none⟩) 0 l.length) (l.take 0)) := hid ⟨[], rfl, how, fun r hr => by simp at hr⟩
  have hBs : w.heap.size ≤ w1.heap.size := hb1.out.size
  clear how hgr
  unfold CopiedBlob
  generalize hB : w.heap.size = B at ho1 hb1 hBs hmk ⊢
  replace hB := hid hB
  go_enter Try.func54, Try.ntmps54
  go_wp2_with fail
  clear hmk
  go_loopw [3, 5, 11] (fun o _ i wr => ∃ k : Nat, k ≤ l.length ∧ i = .int .i64 k ∧ o = .slice (some ⟨B, 0, none⟩) k l.length ∧ Hid (OBlob wr B (.slice (some ⟨B, 0, none⟩) k l.length) (l.take k)) ∧ Hid (Below B w wr)) (fun _ _ i _ => l.length - (intOf i).toNat)
  case atStart => exact ⟨0, by omega, rfl, rfl, ho1, hb1⟩
  case round =>
    obtain ⟨k, hk, rfl, rfl, hO, hb⟩ := hrel
    have hsB : B ≤ wr.heap.size := by have := hb.out.size; have := hB.out; omega
    by_cases hlt : k < l.length
    · have hx : l[k]? = some l[k] := List.getElem?_eq_getElem hlt
      have htk := hid (List.take_succ_eq_append_getElem hlt)
      generalize l[k] = x at hx htk
      obtain ⟨bb, off, rfl, hbb, he⟩ := hat.out k _ hx
      obtain ⟨dv, c0, c1, c2, c3, rdv, okx⟩ := EBlob.stable _ _ _ _ _ (hB.out ▸ hb.out) hbb he
      have hbw : bb < wr.heap.size := Nat.lt_of_lt_of_le hbb (hB.out ▸ hb.out).size
      obtain ⟨da, dc, rfl, -⟩ := id rdv
      replace rdv := hid (rdv.mono EU8.stable (b_alloc (Below.refl _ wr) (Obj.cells #[.string x.digest, .slice da x.data.length dc, .int .i64 x.pins, .bool x.mark] 60)))
      clear he hx
      go_wp2_with fail
      ((with_reducible refine (bytes_Clone _ x.data _ rdv.out).mono ?_); rintro e w2 ⟨cv, rfl, hcv, b2⟩)
      have hq := (b2.block wr.heap.size (by simp)).trans (heap_alloc_new wr _)
      have e0 := cell_of_row w2 wr.heap.size 0 _ _ _ hq
      have e2 := cell_of_row w2 wr.heap.size 2 _ _ _ hq
      have e3 := cell_of_row w2 wr.heap.size 3 _ _ _ hq
      have e1 : w2.cell? ⟨wr.heap.size, 1, none⟩ = some (.slice da x.data.length dc) := cell_of_row w2 wr.heap.size 1 _ _ _ hq
      have f1 : w2.frozen? ⟨wr.heap.size, 1, none⟩ = false := Lib.frozen_of_heap hq 1
      have hs2 : wr.heap.size < w2.heap.size := by have := b2.size; simp at this; omega
      obtain ⟨ca, cc, rfl, -⟩ := OS.len_le hcv
      simp at e0 e1 e2
      simp at e3
      have hW : Hid (Below wr.heap.size wr ((w2.setCell ⟨wr.heap.size, 1, none⟩ (.slice ca x.data.length cc)).alloc (Obj.cells #[.string x.digest, .slice ca x.data.length cc, .int .i64 x.pins, .bool x.mark] 60))) :=
        hid (b_alloc (b_set (b_call (b_alloc (Below.refl _ wr) _) b2) (Nat.le_refl _) _) _)
      have hcr : Hid (CO 5 1 cU8 B ((w2.setCell ⟨wr.heap.size, 1, none⟩ (.slice ca x.data.length cc)).alloc (Obj.cells #[.string x.digest, .slice ca x.data.length cc, .int .i64 x.pins, .bool x.mark] 60)) (.slice ca x.data.length cc) x.data) :=
        hid (OS.alloc (OS.mono (OS.setOld hcv (by simp)) (by simp; omega)) _)
      obtain ⟨rs, hrs, hown, hcs⟩ := hO.out
      have hrl : rs.length = k := by have := congrArg List.length hrs; simp at this; omega
      have hown' := hid (hown.below hW.out)
      have hcs' := hid (fun q hq => (CO.below hW.out _ _ (hcs q hq) : CO 5 1 cU8 B _ _ _))
      have hrow := hid (row_one (s := 4) (bs := 56) (cells := xc cBlob (·.data)) (w2.setCell ⟨wr.heap.size, 1, none⟩ (.slice ca x.data.length cc)) 60 ⟨x, ca, cc⟩ #[.string x.digest, .slice ca x.data.length cc, .int .i64 x.pins, .bool x.mark] w2.heap.size (by simp) rfl (by decide))
      replace hrs := hid hrs
      replace hb := hid (hb.out.trans (hW.out.mono hsB))
      clear hcv b2 hq hO hcs rdv
      subst hrl
      go_wp2_with (at_builtin; go_must (refine wpL_append_room flat_cBlob rfl (.tmp 19) (.tmp 21) 69 rfl 60 i0 Try.underlying69 hi hz1 B B _ _ rs rfl hown'.out _ [⟨x, ca, cc⟩] rfl hrow.out (by simp; omega) ?_))
      intro w3 hown3 hg3
      have hO3 := hid (OX.grow (e' := 5) hown3 hg3 hown'.out (by decide) hcs'.out hcr.out)
      have hb3 := hid (hb.out.grown hg3 (by have := hW.out.size; omega) (fun k hk => by simp at hk; omega))
      have hxs : Hid (rs.map (·.x) ++ [x] = l.take (rs.length + 1)) := hid (by rw [hrs.out, htk.out])
      simp only [hxs.out] at hO3
      clear hown3 hg3 hown' hcs' hcr hrow hb hW hxs
      go_wp2_with fail
      go_roundw
      case rel => exact ⟨rs.length + 1, by omega, by go_num, rfl, hO3, hb3⟩
      case measure => simp [intOf]; omega
    · obtain rfl : k = l.length := by omega
      rw [List.take_length] at hO
      go_wp2_with fail
      go_ret
      exact ⟨rfl, hO.out, hb.out⟩
end Go.Proofs.Ytaojfpgbpakmpaa
