/-
  Lists of records (Blob): how one lies, where a key is, and the library's IndexFunc on them. The Copy of a list of records (Blob): a row of this call's own, with slices of its own. slices.Delete on a full row of records (Blob) that the call owns. The reference's copy of a list of records (Blob): a row of this call's own, with slices of its own. The reference's place of a key among Blobs; and what its Drop does. The laws' comparing of two lists of records (Blob): two slices that read as one list are the same. A list of records (Blob) that the call owns is read.
-/
import Derived.Test.YtpcnhldlfmdlhaaGreatQxBas
import Derived.Test.YtpcnhldlfmdlhaaGreatQxCl
import Derived.Test.YtpcnhldlfmdlhaaGreatQxWir
import Derived.Shelf.Abstract
import Derived.StillTailTactics
import Derived.Deep.RegionHeld3
import Derived.StillTactics
import Derived.OwnWalk
import Derived.Tactics2
namespace Go.Proofs.YtpcnhldlfmdlhaaGreat
open Go.RowKit

def cBlob (x : Blob) (dv : Value) : List Value := [.string x.digest, dv, .int .i64 x.pins, .bool x.mark]
def okBlob (x : Blob) : Prop := x.digest.size ≤ 140737488351232 ∧ (Lit.int .i64 x.pins).wf = true
theorem xcBlob_len (r : XR Blob) : (xc cBlob (·.data) r).length = 4 := rfl
theorem xcBlob_one (r : XR Blob) (u : Value) (h : u ∈ xc cBlob (·.data) r) : u.oneCell' = true := by
  simp [xc, cBlob, XR.v] at h
  rcases h with rfl | rfl | rfl | rfl <;> rfl
theorem flat_cBlob : Flat 4 (xc cBlob (·.data)) (ERaw (xc cBlob (·.data))) := flat_raw (by decide) xcBlob_len xcBlob_one
theorem EBlob_iff (w : World) (b o : Nat) (x : Blob) : EBlob w b o x ↔ EX cBlob (·.data) 1 1 EU8 okBlob w b o x := by
  constructor
  · rintro ⟨dv, h0, h1, h2, h3, h5, h6⟩
    refine ⟨dv, fun j u hj => ?_, h5, h6⟩
    rcases j with _ | _ | _ | _ | j <;> simp [cBlob] at hj <;> subst hj <;> assumption
  · rintro ⟨dv, h, h5, h6⟩
    exact ⟨dv, h 0 _ rfl, h 1 _ rfl, h 2 _ rfl, h 3 _ rfl, h5, h6⟩
/-- A row that the call owns from block B on, of records whose slices it owns too. -/
def OBlob (w : World) (B : Nat) (v : Value) (l : List Blob) : Prop := OX 50 4 cBlob (·.data) (CO 5 1 cU8 B) w B v l
theorem reads_B {w : World} {B : Nat} {v : Value} {l : List Blob} (h : OBlob w B v l) (hb : l.length * 56 ≤ 140737488351232) (hC : ∀ x v, x ∈ l → CO 5 1 cU8 B w v x.data → RB w v x.data) (ho : ∀ x ∈ l, okBlob x) : RBl w v l :=
  RS.iff (fun b o x hx => (EBlob_iff w b o x).2 hx) (OX.reads (by decide) xcBlob_len h hb hC ho)

set_option maxRecDepth 100000 in
set_option maxHeartbeats 400000 in
/-- slices.IndexFunc on Blobs. -/
theorem idxFunc_B (g : Nat) (lb : Array Value) (q : Blob → Bool) (eg : ∀ args w, (callFunc g args).run Tryz.prog w = .ok (.enter g args) w) (v : Value) (l : List Blob) (w : World) (h : RBl w v l)
    (hp : ∀ W x dv, Below w.heap.size w W → okBlob x → RB W dv x.data → Calls Tryz.prog g (#[.agg #[.string x.digest, dv, .int .i64 x.pins, .bool x.mark]] ++ lb) W fun e w' => e = .returned (.bool (q x)) ∧ Below W.heap.size W w') :
    Calls Tryz.prog 164 #[v, .func (.func g) #[] lb] w fun e w' => e = .returned (.int .i64 (idxOf q l)) ∧ Below w.heap.size w w' := by
  obtain ⟨a, c, rfl, hlc, hcm, hre, hno, hat⟩ := h
  unfold maxLen at hcm
  replace hat := hid hat
  replace hp := hid hp
  have hy := hid (fun k x hx hq ha => idxOf_hit (q := q) (l := l) (k := k) (x := x) hx hq ha)
  have hn := hid (fun ha => idxOf_miss (q := q) (l := l) ha)
  clear hno
  go_enter Tryz.func164, Tryz.ntmps164
  go_wp2_with fail
  go_loopw [5, 8] (fun _ i wr => ∃ k : Nat, k ≤ l.length ∧ i = .int .i64 k ∧ Hid (∀ j x, j < k → l[j]? = some x → q x = false) ∧ Hid (Below w.heap.size w wr)) (fun _ i _ => l.length - (intOf i).toNat)
  case atStart => exact ⟨0, by omega, rfl, hid (fun j x hj => by omega), hid (Below.refl _ _)⟩
  case round =>
    obtain ⟨k, hk, rfl, hall, hb⟩ := hrel
    by_cases hlt : k < l.length
    · have hx : l[k]? = some l[k] := List.getElem?_eq_getElem hlt
      generalize l[k] = x at hx
      obtain ⟨bb, off, rfl, hbb, he⟩ := hat.out k _ hx
      obtain ⟨dv, c0, c1, c2, c3, rdv, okx⟩ := EBlob.stable _ _ _ _ _ hb.out hbb he
      have hbw : bb < wr.heap.size := Nat.lt_of_lt_of_le hbb hb.out.size
      have hcall := hp.out wr x dv hb.out okx rdv
      have hy1 := hid (fun hq => hy.out k x hx hq hall.out)
      have hnx := hid (fun (hq : q x = false) => upto_next_l hall.out hx hq)
      clear hx he rdv
      cases hq : q x with
      | true =>
        rw [hq] at hcall
        replace hcall := hid hcall
        have hr := hid (hy1.out hq)
        clear hq hall
        go_wp2_with fail
        ((with_reducible refine hcall.out.mono ?_); rintro e w1 ⟨rfl, b1⟩)
        go_wp2_with fail
        go_ret
        exact ⟨ret_i hr.out.symm, b_call hb.out b1⟩
      | false =>
        rw [hq] at hcall
        replace hcall := hid hcall
        have hr := hid (hnx.out hq)
        clear hq hall
        go_wp2_with fail
        ((with_reducible refine hcall.out.mono ?_); rintro e w1 ⟨rfl, b1⟩)
        have hb1 := hid (b_call hb.out b1)
        clear b1
        go_wp2_with fail
        go_roundw
        case rel => exact ⟨k + 1, by omega, by go_num, hr, hb1⟩
        case measure => simp [intOf]; omega
    · obtain rfl : k = l.length := by omega
      have hr := hid (hn.out (fun j x hj => hall.out j x (List.getElem?_eq_some_iff.1 hj).1 hj))
      clear hall
      go_wp2_with fail
      go_ret
      exact ⟨ret_i hr.out.symm, hb.out⟩

set_option maxRecDepth 100000 in
set_option maxHeartbeats 400000 in
theorem find1_B (x : Blob) (a : Option Addr) (n c : Nat) (s : ByteArray) (p : Nat) (w : World) (hc : w.cell? ⟨p, 0, none⟩ = some (.string s)) (hp : p < w.heap.size) :
    Calls Tryz.prog 165 #[.agg #[.string x.digest, .slice a n c, .int .i64 x.pins, .bool x.mark], .pointer (some ⟨p, 0, none⟩)] w fun e w' => e = .returned (.bool (x.digest.toList == s.toList)) ∧ Below w.heap.size w w' := by
  go_enter Tryz.func165, Tryz.ntmps165
  go_wp2_with fail
  go_ret
  exact ⟨rfl, b_alloc (Below.refl _ _) _⟩

set_option maxRecDepth 100000 in
set_option maxHeartbeats 400000 in
theorem blob_Find (v : Value) (l : List Blob) (s : ByteArray) (w : World) (h : RBl w v l) :
    Calls Tryz.prog 78 #[v, .string s] w fun e w' => e = .returned (.tuple #[.int .i64 (findI (·.digest) s l), .int .i64 (findE (·.digest) s l)]) ∧ Below w.heap.size w w' := by
  have hl : l.length ≤ 140737488351232 := by obtain ⟨_, _, _, _, _, hre, _⟩ := h; omega
  have hi := idxFunc_B 165 #[.pointer (some ⟨w.heap.size, 0, none⟩)] (fun x => x.digest.toList == s.toList) (enters_of Tryz.func165 (by kernel_rfl) rfl) v l (w.alloc (.cells #[.string s] 9)) (h.mono EBlob.stable (b_alloc (Below.refl _ _) _))
    (fun W x dv hb _ hd => by
      obtain ⟨a, c, rfl, -⟩ := hd
      exact find1_B x a _ c s w.heap.size W (by rw [hb.cell (p := ⟨w.heap.size, 0, none⟩) (by simp)]; rw [cell_of_row _ _ _ _ _ _ (heap_alloc_new w _)]; rfl) (by have := hb.size; simp at this; omega))
  have hcase := idx_cases (·.digest) s l
  generalize idxOf (fun x : Blob => x.digest.toList == s.toList) l = r at hi hcase
  generalize findI (fun x : Blob => x.digest) s l = fi at hcase ⊢
  generalize findE (fun x : Blob => x.digest) s l = fe at hcase ⊢
  replace hi := hid hi
  rcases hcase with ⟨rfl, rfl, rfl⟩ | ⟨h0, rfl, rfl⟩
  · go_enter Tryz.func78, Tryz.ntmps78
    go_wp2_with fail
    ((with_reducible refine hi.out.mono ?_); rintro e w1 ⟨rfl, b1⟩)
    go_wp2_with fail
    go_ret2
    exact ⟨rfl, b_call (b_alloc (Below.refl _ _) _) b1⟩
  · have hneg : decide (fi < 0) = false := by simp; omega
    go_enter Tryz.func78, Tryz.ntmps78
    go_wp2_with fail
    ((with_reducible refine hi.out.mono ?_); rintro e w1 ⟨rfl, b1⟩)
    go_wp2_with fail
    go_ret2
    exact ⟨rfl, b_call (b_alloc (Below.refl _ _) _) b1⟩
end Go.Proofs.YtpcnhldlfmdlhaaGreat

namespace Go.Proofs.YtpcnhldlfmdlhaaGreat
open Go.RowKit

theorem info_B : (Tryz.prog.info? 50).map (fun i => (i.zero, i.size, i.bytes)) = some (some (.agg #[.string ⟨#[]⟩, .slice none 0 0, .int .i64 0, .bool false]), 4, 56) := by kernel_rfl

/-- What Copy answers: a full row of its own. -/
def CopiedBlob (l : List Blob) (w : World) (e : Ending) (w' : World) : Prop :=
  e = .returned (.slice (some ⟨w.heap.size, 0, none⟩) l.length l.length) ∧ OBlob w' w.heap.size (.slice (some ⟨w.heap.size, 0, none⟩) l.length l.length) l ∧ Below w.heap.size w w'

set_option maxRecDepth 100000 in
set_option maxHeartbeats 1000000 in
theorem blob_Copy (v : Value) (l : List Blob) (w : World) (h : RBl w v l) : Calls Tryz.prog 115 #[v] w (CopiedBlob l w) := by
  obtain ⟨i0, hi, hz0, hz1, hz2⟩ := info_parts info_B
  obtain ⟨a, c, rfl, hlc, hcm, hre, hno, hat⟩ := h
  unfold maxLen at hcm
  replace hat := hid hat
  clear hno
  obtain ⟨w1, hmk, how, hgr⟩ := run_make_own w w.heap.size 26 50 i0 _ 4 Tryz.underlying26 hi hz0 hz1 .i64 .i64 l.length (by rw [hz2]; omega) (by simp [maxLen]; omega) (Nat.le_refl _)
  have hb1 : Hid (Below w.heap.size w w1) := hid (b_grown (v := .slice none 0 0) (Below.refl _ _) hgr (fun k hk => by simp [Value.ownBlock] at hk))
  have ho1 : Hid (OBlob w1 w.heap.size (.slice (some ⟨w.heap.size, 0, none⟩) 0 l.length) (l.take 0)) := hid ⟨[], rfl, how, fun r hr => by simp at hr⟩
  have hBs : w.heap.size ≤ w1.heap.size := hb1.out.size
  clear how hgr
  unfold CopiedBlob
  generalize hB : w.heap.size = B at ho1 hb1 hBs hmk ⊢
  replace hB := hid hB
  go_enter Tryz.func115, Tryz.ntmps115
  go_wp2_with fail
  clear hmk
  go_loopw [3, 5, 11] (fun o _ i wr => ∃ k : Nat, k ≤ l.length ∧ i = .int .i64 k ∧ o = .slice (some ⟨B, 0, none⟩) k l.length ∧ Hid (OBlob wr B (.slice (some ⟨B, 0, none⟩) k l.length) (l.take k)) ∧ Hid (Below B w wr)) (fun _ _ i _ => l.length - (intOf i).toNat)
  case atStart => exact ⟨0, by omega, rfl, rfl, ho1, hb1⟩
  case round =>
    obtain ⟨k, hk, rfl, rfl, hO, hb⟩ := hrel
    have hsB : B ≤ wr.heap.size := by have := hb.out.size; have := hB.out; omega
    by_cases hlt : k < l.length
    · have hx : l[k]? = some l[k] := List.getElem?_eq_getElem hlt
      have htk := hid (List.take_succ_eq_append_getElem hlt)
      generalize l[k] = x at hx htk
      obtain ⟨bb, off, rfl, hbb, he⟩ := hat.out k _ hx
      obtain ⟨dv, c0, c1, c2, c3, rdv, okx⟩ := EBlob.stable _ _ _ _ _ (hB.out ▸ hb.out) hbb he
      have hbw : bb < wr.heap.size := Nat.lt_of_lt_of_le hbb (hB.out ▸ hb.out).size
      obtain ⟨da, dc, rfl, -⟩ := id rdv
      replace rdv := hid (rdv.mono EU8.stable (b_alloc (Below.refl _ wr) (Obj.cells #[.string x.digest, .slice da x.data.length dc, .int .i64 x.pins, .bool x.mark] 50)))
      clear he hx
      go_wp2_with fail
      ((with_reducible refine (bytes_Clone _ x.data _ rdv.out).mono ?_); rintro e w2 ⟨cv, rfl, hcv, b2⟩)
      have hq := (b2.block wr.heap.size (by simp)).trans (heap_alloc_new wr _)
      have e0 := cell_of_row w2 wr.heap.size 0 _ _ _ hq
      have e2 := cell_of_row w2 wr.heap.size 2 _ _ _ hq
      have e3 := cell_of_row w2 wr.heap.size 3 _ _ _ hq
      have e1 : w2.cell? ⟨wr.heap.size, 1, none⟩ = some (.slice da x.data.length dc) := cell_of_row w2 wr.heap.size 1 _ _ _ hq
      have f1 : w2.frozen? ⟨wr.heap.size, 1, none⟩ = false := Lib.frozen_of_heap hq 1
      have hs2 : wr.heap.size < w2.heap.size := by have := b2.size; simp at this; omega
      obtain ⟨ca, cc, rfl, -⟩ := OS.len_le hcv
      simp at e0 e1 e2
      simp at e3
      have hW : Hid (Below wr.heap.size wr ((w2.setCell ⟨wr.heap.size, 1, none⟩ (.slice ca x.data.length cc)).alloc (Obj.cells #[.string x.digest, .slice ca x.data.length cc, .int .i64 x.pins, .bool x.mark] 50))) :=
        hid (b_alloc (b_set (b_call (b_alloc (Below.refl _ wr) _) b2) (Nat.le_refl _) _) _)
      have hcr : Hid (CO 5 1 cU8 B ((w2.setCell ⟨wr.heap.size, 1, none⟩ (.slice ca x.data.length cc)).alloc (Obj.cells #[.string x.digest, .slice ca x.data.length cc, .int .i64 x.pins, .bool x.mark] 50)) (.slice ca x.data.length cc) x.data) :=
        hid (OS.alloc (OS.mono (OS.setOld hcv (by simp)) (by simp; omega)) _)
      obtain ⟨rs, hrs, hown, hcs⟩ := hO.out
      have hrl : rs.length = k := by have := congrArg List.length hrs; simp at this; omega
      have hown' := hid (hown.below hW.out)
      have hcs' := hid (fun q hq => (CO.below hW.out _ _ (hcs q hq) : CO 5 1 cU8 B _ _ _))
      have hrow := hid (row_one (s := 4) (bs := 56) (cells := xc cBlob (·.data)) (w2.setCell ⟨wr.heap.size, 1, none⟩ (.slice ca x.data.length cc)) 50 ⟨x, ca, cc⟩ #[.string x.digest, .slice ca x.data.length cc, .int .i64 x.pins, .bool x.mark] w2.heap.size (by simp) rfl (by decide))
      replace hrs := hid hrs
      replace hb := hid (hb.out.trans (hW.out.mono hsB))
      clear hcv b2 hq hO hcs rdv
      subst hrl
      go_wp2_with (at_builtin; go_must (refine wpL_append_room flat_cBlob rfl (.tmp 19) (.tmp 21) 26 rfl 50 i0 Tryz.underlying26 hi hz1 B B _ _ rs rfl hown'.out _ [⟨x, ca, cc⟩] rfl hrow.out (by simp; omega) ?_))
      intro w3 hown3 hg3
      have hO3 := hid (OX.grow (e' := 5) hown3 hg3 hown'.out (by decide) hcs'.out hcr.out)
      have hb3 := hid (hb.out.grown hg3 (by have := hW.out.size; omega) (fun k hk => by simp at hk; omega))
      have hxs : Hid (rs.map (·.x) ++ [x] = l.take (rs.length + 1)) := hid (by rw [hrs.out, htk.out])
      simp only [hxs.out] at hO3
      clear hown3 hg3 hown' hcs' hcr hrow hb hW hxs
      go_wp2_with fail
      go_roundw
      case rel => exact ⟨rs.length + 1, by omega, by go_num, rfl, hO3, hb3⟩
      case measure => simp [intOf]; omega
    · obtain rfl : k = l.length := by omega
      rw [List.take_length] at hO
      go_wp2_with fail
      go_ret
      exact ⟨rfl, hO.out, hb.out⟩
end Go.Proofs.YtpcnhldlfmdlhaaGreat

namespace Go.Proofs.YtpcnhldlfmdlhaaGreat
open Go.RowKit

/-- What Delete leaves: the row without place i. -/
def DeletedBlob (l : List Blob) (i B : Nat) (w : World) (e : Ending) (w' : World) : Prop :=
  ∃ c, e = .returned (.slice (some ⟨B, 0, none⟩) (l.length - 1) c) ∧ OBlob w' B (.slice (some ⟨B, 0, none⟩) (l.length - 1) c) (l.take i ++ l.drop (i + 1)) ∧ Below B w w'

end Go.Proofs.YtpcnhldlfmdlhaaGreat

namespace Go.Proofs.YtpcnhldlfmdlhaaGreat
open Go.RowKit

def RCopiedBlob (l : List Blob) (w : World) (e : Ending) (w' : World) : Prop :=
  ∃ v', e = .returned v' ∧ OBlob w' w.heap.size v' l ∧ Below w.heap.size w w'

set_option maxRecDepth 100000 in
set_option maxHeartbeats 1000000 in
theorem ref_BlobsCopy (v : Value) (l : List Blob) (w : World) (h : RBl w v l) : Calls Tryz.prog 126 #[v] w (RCopiedBlob l w) := by
  obtain ⟨i0, hi, hz0, hz1, hz2⟩ := info_parts info_B
  obtain ⟨j0, hj, jz0, jz1, jz2⟩ := info_parts info_u8
  obtain ⟨a, c, rfl, hlc, hcm, hre, hno, hat⟩ := h
  unfold maxLen at hcm
  replace hat := hid hat
  clear hno
  have hb1 : Hid (Below w.heap.size w w) := hid (Below.refl _ _)
  have ho1 : Hid (OBlob w w.heap.size (.slice none 0 0) (l.take 0)) := hid OX.nil
  unfold RCopiedBlob
  generalize hB : w.heap.size = B at ho1 hb1 ⊢
  replace hB := hid hB
  go_enter Tryz.func126, Tryz.ntmps126
  go_wp2_with fail
  go_loopw [3, 5, 8] (fun o _ i wr => ∃ k : Nat, k ≤ l.length ∧ i = .int .i64 k ∧ Hid (OBlob wr B o (l.take k)) ∧ Hid (Below B w wr)) (fun _ _ i _ => l.length - (intOf i).toNat)
  case atStart => exact ⟨0, by omega, rfl, ho1, hb1⟩
  case round =>
    obtain ⟨k, hk, rfl, hO, hb⟩ := hrel
    have hsB : B ≤ wr.heap.size := by have := hb.out.size; have := hB.out; omega
    by_cases hlt : k < l.length
    · have hx : l[k]? = some l[k] := List.getElem?_eq_getElem hlt
      have htk := hid (List.take_succ_eq_append_getElem hlt)
      generalize l[k] = x at hx htk
      obtain ⟨bb, off, rfl, hbb, he⟩ := hat.out k _ hx
      obtain ⟨dv, c0, c1, c2, c3, rdv, okx⟩ := EBlob.stable _ _ _ _ _ (hB.out ▸ hb.out) hbb he
      have hbw : bb < wr.heap.size := Nat.lt_of_lt_of_le hbb (hB.out ▸ hb.out).size
      have hrl : x.data.length * 1 ≤ 140737488351232 := by obtain ⟨_, _, _, _, _, hr, _⟩ := rdv; exact hr
      obtain ⟨da, dc, rfl, -⟩ := id rdv
      have hq := heap_alloc_new wr (Obj.cells #[.string x.digest, .slice da x.data.length dc, .int .i64 x.pins, .bool x.mark] 50)
      have e0 : (wr.alloc (Obj.cells #[.string x.digest, .slice da x.data.length dc, .int .i64 x.pins, .bool x.mark] 50)).cell? ⟨wr.heap.size, 0, none⟩ = some (.string x.digest) := cell_of_row _ wr.heap.size 0 _ _ _ hq
      have e1 : (wr.alloc (Obj.cells #[.string x.digest, .slice da x.data.length dc, .int .i64 x.pins, .bool x.mark] 50)).cell? ⟨wr.heap.size, 1, none⟩ = some (.slice da x.data.length dc) := cell_of_row _ wr.heap.size 1 _ _ _ hq
      have e2 : (wr.alloc (Obj.cells #[.string x.digest, .slice da x.data.length dc, .int .i64 x.pins, .bool x.mark] 50)).cell? ⟨wr.heap.size, 2, none⟩ = some (.int .i64 x.pins) := cell_of_row _ wr.heap.size 2 _ _ _ hq
      have e3 : (wr.alloc (Obj.cells #[.string x.digest, .slice da x.data.length dc, .int .i64 x.pins, .bool x.mark] 50)).cell? ⟨wr.heap.size, 3, none⟩ = some (.bool x.mark) := cell_of_row _ wr.heap.size 3 _ _ _ hq
      replace rdv := hid (rdv.mono EU8.stable (b_alloc (Below.refl _ wr) (Obj.cells #[.string x.digest, .slice da x.data.length dc, .int .i64 x.pins, .bool x.mark] 50)))
      obtain ⟨rs, hrs, hown, hcs⟩ := hO.out
      have hrl2 : rs.length = k := by have := congrArg List.length hrs; simp at this; omega
      have hown1 := hid (OS.alloc hown (Obj.cells #[.string x.digest, .slice da x.data.length dc, .int .i64 x.pins, .bool x.mark] 50))
      have hcs1 := hid (fun q hq => OS.alloc (show OS 5 1 cU8 wr B _ _ from hcs q hq) (Obj.cells #[.string x.digest, .slice da x.data.length dc, .int .i64 x.pins, .bool x.mark] 50))
      replace hrs := hid hrs
      have hba := hid (b_alloc (Below.refl _ wr) (Obj.cells #[.string x.digest, .slice da x.data.length dc, .int .i64 x.pins, .bool x.mark] 50))
      have hlow := hid (OS.block hown)
      have hne := fun e => Nat.lt_irrefl _ ((World.ownsRow.lt hown wr.heap.size e).2)
      have hltw : wr.heap.size < (wr.alloc (Obj.cells #[.string x.digest, .slice da x.data.length dc, .int .i64 x.pins, .bool x.mark] 50)).heap.size := by simp
      clear he hx hq hown hcs hO
      subst hrl2
      go_wp2_with fail
      generalize wr.alloc (Obj.cells #[.string x.digest, .slice da x.data.length dc, .int .i64 x.pins, .bool x.mark] 50) = wa at *
      generalize wr.heap.size = q at *
      go_region_held3 (fun w' => w'.cell? ⟨q, 0, none⟩ = some (.string x.digest) ∧ w'.cell? ⟨q, 1, none⟩ = some (.slice da x.data.length dc) ∧ w'.cell? ⟨q, 2, none⟩ = some (.int .i64 x.pins) ∧ w'.cell? ⟨q, 3, none⟩ = some (.bool x.mark))
        (first
          | go_keep
          | (go_split_ands
             refine ⟨?_, ?_, ?_, ?_⟩ <;> (rw [hgrow.cell_far _ (by simp; omega) (show some q ≠ none from fun e => by cases e)]; assumption))
          | (go_split_ands
             refine ⟨?_, ?_, ?_, ?_⟩ <;> (rw [hgrow.cell_far _ (by simp; omega) (fun e => hne e.symm)]; assumption)))
        ((first
          | (refine stepL_append (o := ⟨some 17, _, _, _, _, _⟩) (v := .slice none 0 0) (l := []) (m := x.data) (B := q + 1) flat_u8 (by rfl) (.const (.slice none 0 0)) (.tmp 16) 41 (by rfl) 5 j0 _ Tryz.underlying41 hj jz0 jz1 jz2 rfl (by rfl) OS.nil _ (by rfl) rdv.out (by simp; omega) (by simp [maxLen]; omega) (by simp; omega) ?_; intro cv w5 hcv hgrow; rw [List.nil_append] at hcv; obtain ⟨ca, cc, rfl, -⟩ := OS.len_le hcv
             have hs5 : q < w5.heap.size := Nat.lt_of_lt_of_le hltw hgrow.size
             have hown5 := hid (OS.grew (OS.drew hown1.out) hgrow)
             have hcs5 := hid (fun p hp => OS.grew (OS.drew (hcs1.out p hp)) hgrow)
             have hb5 : Hid (Below q wr w5) := hid (hba.out.drew.grown hgrow (Nat.le_of_lt hltw) (fun k hk => by simp [Value.ownBlock] at hk)))
          | (refine stepL_append (o := ⟨some 24, _, _, _, _, _⟩) (l := rs) (m := [⟨x, ca, cc⟩]) (B := B) flat_cBlob (by rfl) (.tmp 12) (.tmp 23) 26 (by rfl) 50 i0 _ Tryz.underlying26 hi hz0 hz1 hz2 rfl _ (by rfl) (OS.alloc (OS.grew (OS.drew hown1.out) hgrow) _) (.slice (some ⟨w5.heap.size, 0, none⟩) 1 1) (by rfl) (row_one (s := 4) (bs := 56) (cells := xc cBlob (·.data)) w5 50 ⟨x, ca, cc⟩ #[.string x.digest, .slice ca x.data.length cc, .int .i64 x.pins, .bool x.mark] _ rfl rfl (by decide)) (by simp; omega) (by simp [maxLen]; omega) (by have := hgrow.size; simp at this ⊢; omega) ?_; intro v3 w6 hown3 hgrow; obtain ⟨a3, k3, rfl, -⟩ := id (OS.len_le hown3))))
      have hO3 := hid (OX.grow (e' := 5) hown3 hgrow (OS.alloc hown5.out _) (by decide) (fun p hp => OS.alloc (hcs5.out p hp) _) (OS.alloc (OS.mono hcv (by omega)) _))
      have hb6 := hid (((hb.out.trans (hb5.out.mono hsB)).alloc (by omega) (Obj.cells #[.string x.digest, .slice ca x.data.length cc, .int .i64 x.pins, .bool x.mark] 50)).grown hgrow (by simp; omega) hlow.out)
      have hxs : Hid (rs.map (·.x) ++ [x] = l.take (rs.length + 1)) := hid (by rw [hrs.out, htk.out])
      simp only [hxs.out, List.length_append, List.length_cons, List.length_nil, Nat.zero_add] at hO3
      clear hown3 hgrow hown5 hcs5 hcv hb hb5 hxs hown1 hcs1
      go_wp2_with fail
      go_roundw
      case rel => exact ⟨rs.length + 1, by omega, by go_num, hO3, hb6⟩
      case measure => simp [intOf]; omega
    · obtain rfl : k = l.length := by omega
      rw [List.take_length] at hO
      go_wp2_with fail
      go_ret
      exact ⟨_, rfl, hO.out, hb.out⟩
end Go.Proofs.YtpcnhldlfmdlhaaGreat

namespace Go.Proofs.YtpcnhldlfmdlhaaGreat
open Go.RowKit

set_option maxRecDepth 100000 in
set_option maxHeartbeats 400000 in
theorem ref_BlobAt (v : Value) (l : List Blob) (s : ByteArray) (w : World) (h : RBl w v l) :
    Calls Tryz.prog 124 #[v, .string s] w fun e w' => e = .returned (.int .i64 (atKey (·.digest) s l : Nat)) ∧ w = w' := by
  obtain ⟨a, c, rfl, hlc, hcm, hre, hno, hat⟩ := h
  unfold maxLen at hcm
  replace hat := hid hat
  have hy := hid (fun k x hx hq ha => atKey_hit (f := fun x : Blob => x.digest) (s := s) (l := l) (k := k) (x := x) hx hq ha)
  have hn := hid (fun ha => atKey_miss (f := fun x : Blob => x.digest) (s := s) (l := l) ha)
  clear hno
  go_enter Tryz.func124, Tryz.ntmps124
  go_wp2_with fail
  go_loopw [5] (fun i wr => ∃ k : Nat, k ≤ l.length ∧ i = .int .i64 k ∧ Hid (∀ j y, j < k → l[j]? = some y → (y.digest.toList == s.toList) = false) ∧ wr = w) (fun i _ => l.length - (intOf i).toNat)
  case atStart => exact ⟨0, by omega, rfl, hid (fun j x hj => by omega), rfl⟩
  case round =>
    obtain ⟨k, hk, rfl, hall, rfl⟩ := hrel
    by_cases hlt : k < l.length
    · have hx : l[k]? = some l[k] := List.getElem?_eq_getElem hlt
      generalize l[k] = x at hx
      obtain ⟨bb, off, rfl, hbb, he⟩ := hat.out k _ hx
      obtain ⟨dv, c0, c1, c2, c3, rdv, okx⟩ := he
      have hy1 := hid (fun hq => hy.out k x hx hq hall.out)
      have hnx := hid (fun (hq : (x.digest.toList == s.toList) = false) => upto_next_l (q := fun y : Blob => y.digest.toList == s.toList) hall.out hx hq)
      clear hx rdv
      cases hq : (x.digest.toList == s.toList) with
      | true =>
        have hq2 : (x.digest.toList != s.toList) = false := by simp [bne, hq]
        have hr := hid (hy1.out hq)
        clear hall
        go_wp2_with fail
        go_ret
        exact ⟨ret_i (by rw [hr.out]), rfl⟩
      | false =>
        have hq2 : (x.digest.toList != s.toList) = true := by simp [bne, hq]
        have hr := hid (hnx.out hq)
        clear hall
        go_wp2_with fail
        go_roundw
        case rel => exact ⟨k + 1, by omega, by go_num, hr, trivial⟩
        case measure => simp [intOf]; omega
    · obtain rfl : k = l.length := by omega
      have hr := hid (hn.out (fun j x hj => hall.out j x (List.getElem?_eq_some_iff.1 hj).1 hj))
      clear hall
      go_wp2_with fail
      go_ret
      exact ⟨ret_i (by rw [hr.out]), rfl⟩
end Go.Proofs.YtpcnhldlfmdlhaaGreat

namespace Go.Proofs.YtpcnhldlfmdlhaaGreat
open Go.RowKit

set_option maxRecDepth 100000 in
set_option maxHeartbeats 400000 in
theorem eq1_B (x : Blob) (da db : Value) (w : World) (ha : RB w da x.data) (hb : RB w db x.data) :
    Calls Tryz.prog 131 #[.agg #[.string x.digest, da, .int .i64 x.pins, .bool x.mark], .agg #[.string x.digest, db, .int .i64 x.pins, .bool x.mark]] w fun e w' => e = .returned (.bool true) ∧ Below w.heap.size w w' := by
  have hA := hid ha
  have hB := hid hb
  obtain ⟨a1, c1, rfl, -⟩ := ha
  obtain ⟨a2, c2, rfl, -⟩ := hb
  have hq : (x.digest.toList == x.digest.toList) = true := by simp
  go_enter Tryz.func131, Tryz.ntmps131
  go_wp2_with fail
  ((with_reducible refine (law_sameBytes_yes _ _ _ x.data (hA.out.mono EU8.stable (b_alloc (b_alloc (Below.refl _ _) _) _)) (hB.out.mono EU8.stable (b_alloc (b_alloc (Below.refl _ _) _) _))).mono ?_); rintro e w1 ⟨rfl, rfl⟩)
  have hb1 := hid (b_alloc (b_alloc (Below.refl w.heap.size w) (Obj.cells #[.string x.digest, .slice a1 x.data.length c1, .int .i64 x.pins, .bool x.mark] 50)) (Obj.cells #[.string x.digest, .slice a2 x.data.length c2, .int .i64 x.pins, .bool x.mark] 50))
  go_wp2_with fail
  go_ret
  exact ⟨rfl, hb1.out⟩

set_option maxRecDepth 100000 in
set_option maxHeartbeats 400000 in
theorem eqFunc_B (a b : Value) (w : World) (l : List Blob) (ha : RBl w a l) (hb : RBl w b l) :
    Calls Tryz.prog 130 #[a, b, .func (.func 131) #[] #[]] w fun e w' => e = .returned (.bool true) ∧ Below w.heap.size w w' := by
  obtain ⟨a0, ca, rfl, hla, hca, hre, _, hA⟩ := ha
  obtain ⟨b0, cb, rfl, hlb, hcb, _, _, hB⟩ := hb
  unfold maxLen at hca hcb
  replace hA := hid hA
  replace hB := hid hB
  have eg : ∀ args w, (callFunc 131 args).run Tryz.prog w = .ok (.enter 131 args) w := enters_of Tryz.func131 (by kernel_rfl) rfl
  go_enter Tryz.func130, Tryz.ntmps130
  go_wp2_with fail
  go_loopw [7, 8, 9, 17] (fun _ _ _ i wr => ∃ (k : Nat), i = .int .i64 (k : Int) ∧ k ≤ l.length ∧ Hid (Below w.heap.size w wr)) (fun _ _ _ i _ => l.length - (intOf i).toNat)
  case atStart => exact ⟨0, rfl, by omega, hid (Below.refl _ _)⟩
  case round =>
    obtain ⟨k, rfl, hk, hb⟩ := hrel
    by_cases hlt : k < l.length
    · have hx : l[k]? = some l[k] := List.getElem?_eq_getElem hlt
      generalize l[k] = x at hx
      obtain ⟨b1, o1, rfl, hb1, h1⟩ := hA.out k _ hx
      obtain ⟨b2, o2, rfl, hb2, h2⟩ := hB.out k _ hx
      obtain ⟨d1, x0, x1, x2, x3, r1, -⟩ := EBlob.stable _ _ _ _ _ hb.out hb1 h1
      obtain ⟨d2, y0, y1, y2, y3, r2, -⟩ := EBlob.stable _ _ _ _ _ hb.out hb2 h2
      have hl1 : b1 < wr.heap.size := Nat.lt_of_lt_of_le hb1 hb.out.size
      have hl2 : b2 < wr.heap.size := Nat.lt_of_lt_of_le hb2 hb.out.size
      have hR1 := hid r1
      have hR2 := hid r2
      obtain ⟨e1, g1, rfl, -⟩ := r1
      obtain ⟨e2, g2, rfl, -⟩ := r2
      clear hx h1 h2
      go_wp2_with fail
      ((with_reducible refine (eq1_B x _ _ _ (hR1.out.mono EU8.stable (b_alloc (b_alloc (Below.refl _ _) _) _)) (hR2.out.mono EU8.stable (b_alloc (b_alloc (Below.refl _ _) _) _))).mono ?_); rintro e w1 ⟨rfl, b1'⟩)
      have hb' := hid (b_call (b_alloc (b_alloc hb.out _) _) b1')
      clear b1'
      go_wp2_with fail
      go_roundw
      case rel => exact ⟨k + 1, by go_num, by omega, hb'⟩
      case measure => simp [intOf]; omega
    · go_wp2_with fail
      go_ret
      exact ⟨rfl, hb.out⟩

set_option maxRecDepth 100000 in
theorem law_sameBlobs_yes (a b : Value) (w : World) (l : List Blob) (ha : RBl w a l) (hb : RBl w b l) :
    Calls Tryz.prog 56 #[a, b] w fun e w' => e = .returned (.bool true) ∧ Below w.heap.size w w' := by
  go_enter Tryz.func56, Tryz.ntmps56
  go_wp2_with fail
  ((with_reducible refine (eqFunc_B _ _ _ _ ha hb).mono ?_); rintro e w1 ⟨rfl, h1⟩)
  go_wp2_with fail
  go_ret
  exact ⟨rfl, h1⟩
end Go.Proofs.YtpcnhldlfmdlhaaGreat

namespace Go.Proofs.YtpcnhldlfmdlhaaGreat
open Go.RowKit

/-- A record no part of which is larger than an argument may be. -/
def FitBlob (x : Blob) : Prop := okBlob x ∧ x.data.length * 1 ≤ 140737488351232
theorem fit_B {w : World} {v : Value} {l : List Blob} (h : RBl w v l) : ∀ x ∈ l, FitBlob x := by
  intro x hx
  obtain ⟨i, hi⟩ := List.getElem?_of_mem hx
  obtain ⟨a, c, rfl, _, _, _, _, hat⟩ := h
  obtain ⟨b, o, _, _, he⟩ := hat i x hi
  obtain ⟨dv, _, _, _, _, rdv, okx⟩ := he
  obtain ⟨_, _, _, _, _, hr, _⟩ := rdv
  exact ⟨okx, hr⟩
theorem OBlob.toR {w : World} {B : Nat} {v : Value} {l : List Blob} (h : OBlob w B v l) (hb : l.length * 56 ≤ 140737488351232) (hf : ∀ x ∈ l, FitBlob x) : RBl w v l :=
  reads_B h hb (fun x _ hx hc => reads_u8 hc (by have := (hf x hx).2; omega)) (fun x hx => (hf x hx).1)
end Go.Proofs.YtpcnhldlfmdlhaaGreat
