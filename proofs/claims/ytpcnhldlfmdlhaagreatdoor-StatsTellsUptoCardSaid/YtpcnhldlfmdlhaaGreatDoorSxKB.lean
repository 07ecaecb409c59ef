/-
  Lists of records (Blob): how one lies, where a key is, and the library's IndexFunc on them. The Copy of a list of records (Blob): a row of this call's own, with slices of its own. slices.Delete on a full row of records (Blob) that the call owns. The reference's copy of a list of records (Blob): a row of this call's own, with slices of its own. The reference's place of a key among Blobs; and what its Drop does. The laws' comparing of two lists of records (Blob): two slices that read as one list are the same. A list of records (Blob) that the call owns is read.
-/
import Derived.Test.YtpcnhldlfmdlhaaGreatDoorSxBas
import Derived.Test.YtpcnhldlfmdlhaaGreatDoorSxCl
import Derived.Test.YtpcnhldlfmdlhaaGreatDoorSxWir
import Derived.Shelf.Abstract
import Derived.StillTailTactics
import Derived.Deep.RegionHeld3
import Derived.StillTactics
import Derived.OwnWalk
import Derived.Tactics2
namespace Go.Proofs.YtpcnhldlfmdlhaaGreatDoor
open Go.RowKit

def cBlob (x : Blob) (dv : Value) : List Value := [.string x.digest, dv, .int .i64 x.pins, .bool x.mark]
def okBlob (x : Blob) : Prop := x.digest.size ≤ 140737488351232 ∧ (Lit.int .i64 x.pins).wf = true
theorem xcBlob_len (r : XR Blob) : (xc cBlob (·.data) r).length = 4 := rfl
theorem EBlob_iff (w : World) (b o : Nat) (x : Blob) : EBlob w b o x ↔ EX cBlob (·.data) 1 1 EU8 okBlob w b o x := by
  constructor
  · rintro ⟨dv, h0, h1, h2, h3, h5, h6⟩
    refine ⟨dv, fun j u hj => ?_, h5, h6⟩
    rcases j with _ | _ | _ | _ | j <;> simp [cBlob] at hj <;> subst hj <;> assumption
  · rintro ⟨dv, h, h5, h6⟩
    exact ⟨dv, h 0 _ rfl, h 1 _ rfl, h 2 _ rfl, h 3 _ rfl, h5, h6⟩
/-- A row that the call owns from block B on, of records whose slices it owns too. -/
def OBlob (w : World) (B : Nat) (v : Value) (l : List Blob) : Prop := OX 54 4 cBlob (·.data) (CO 5 1 cU8 B) w B v l
theorem reads_B {w : World} {B : Nat} {v : Value} {l : List Blob} (h : OBlob w B v l) (hb : l.length * 56 ≤ 140737488351232) (hC : ∀ x v, x ∈ l → CO 5 1 cU8 B w v x.data → RB w v x.data) (ho : ∀ x ∈ l, okBlob x) : RBl w v l :=
  RS.iff (fun b o x hx => (EBlob_iff w b o x).2 hx) (OX.reads (by decide) xcBlob_len h hb hC ho)

set_option maxRecDepth 100000 in
set_option maxHeartbeats 400000 in
/-- slices.IndexFunc on Blobs. -/
theorem idxFunc_B (g : Nat) (lb : Array Value) (q : Blob → Bool) (eg : ∀ args w, (callFunc g args).run Tryz.prog w = .ok (.enter g args) w) (v : Value) (l : List Blob) (w : World) (h : RBl w v l)
    (hp : ∀ W x dv, Below w.heap.size w W → okBlob x → RB W dv x.data → Calls Tryz.prog g (#[.agg #[.string x.digest, dv, .int .i64 x.pins, .bool x.mark]] ++ lb) W fun e w' => e = .returned (.bool (q x)) ∧ Below W.heap.size W w') :
    Calls Tryz.prog 106 #[v, .func (.func g) #[] lb] w fun e w' => e = .returned (.int .i64 (idxOf q l)) ∧ Below w.heap.size w w' := by
  obtain ⟨a, c, rfl, hlc, hcm, hre, hno, hat⟩ := h
  unfold maxLen at hcm
  replace hat := hid hat
  replace hp := hid hp
  have hy := hid (fun k x hx hq ha => idxOf_hit (q := q) (l := l) (k := k) (x := x) hx hq ha)
  have hn := hid (fun ha => idxOf_miss (q := q) (l := l) ha)
  clear hno
  go_enter Tryz.func106, Tryz.ntmps106
  go_wp2_with fail
  go_loopw [5, 8] (fun _ i wr => ∃ k : Nat, k ≤ l.length ∧ i = .int .i64 k ∧ Hid (∀ j x, j < k → l[j]? = some x → q x = false) ∧ Hid (Below w.heap.size w wr)) (fun _ i _ => l.length - (intOf i).toNat)
  case atStart => exact ⟨0, by omega, rfl, hid (fun j x hj => by omega), hid (Below.refl _ _)⟩
  case round =>
    obtain ⟨k, hk, rfl, hall, hb⟩ := hrel
    by_cases hlt : k < l.length
    · have hx : l[k]? = some l[k] := List.getElem?_eq_getElem hlt
      generalize l[k] = x at hx
      obtain ⟨bb, off, rfl, hbb, he⟩ := hat.out k _ hx
      obtain ⟨dv, c0, c1, c2, c3, rdv, okx⟩ := EBlob.stable _ _ _ _ _ hb.out hbb he
      have hbw : bb < wr.heap.size := Nat.lt_of_lt_of_le hbb hb.out.size
      have hcall := hp.out wr x dv hb.out okx rdv
      have hy1 := hid (fun hq => hy.out k x hx hq hall.out)
      have hnx := hid (fun (hq : q x = false) => upto_next_l hall.out hx hq)
      clear hx he rdv
      cases hq : q x with
      | true =>
        rw [hq] at hcall
        replace hcall := hid hcall
        have hr := hid (hy1.out hq)
        clear hq hall
        go_wp2_with fail
        ((with_reducible refine hcall.out.mono ?_); rintro e w1 ⟨rfl, b1⟩)
        go_wp2_with fail
        go_ret
        exact ⟨ret_i hr.out.symm, b_call hb.out b1⟩
      | false =>
        rw [hq] at hcall
        replace hcall := hid hcall
        have hr := hid (hnx.out hq)
        clear hq hall
        go_wp2_with fail
        ((with_reducible refine hcall.out.mono ?_); rintro e w1 ⟨rfl, b1⟩)
        have hb1 := hid (b_call hb.out b1)
        clear b1
        go_wp2_with fail
        go_roundw
        case rel => exact ⟨k + 1, by omega, by go_num, hr, hb1⟩
        case measure => simp [intOf]; omega
    · obtain rfl : k = l.length := by omega
      have hr := hid (hn.out (fun j x hj => hall.out j x (List.getElem?_eq_some_iff.1 hj).1 hj))
      clear hall
      go_wp2_with fail
      go_ret
      exact ⟨ret_i hr.out.symm, hb.out⟩

set_option maxRecDepth 100000 in
set_option maxHeartbeats 400000 in
theorem find1_B (x : Blob) (a : Option Addr) (n c : Nat) (s : ByteArray) (p : Nat) (w : World) (hc : w.cell? ⟨p, 0, none⟩ = some (.string s)) (hp : p < w.heap.size) :
    Calls Tryz.prog 107 #[.agg #[.string x.digest, .slice a n c, .int .i64 x.pins, .bool x.mark], .pointer (some ⟨p, 0, none⟩)] w fun e w' => e = .returned (.bool (x.digest.toList == s.toList)) ∧ Below w.heap.size w w' := by
  go_enter Tryz.func107, Tryz.ntmps107
  go_wp2_with fail
  go_ret
  exact ⟨rfl, b_alloc (Below.refl _ _) _⟩

set_option maxRecDepth 100000 in
set_option maxHeartbeats 400000 in
theorem blob_Find (v : Value) (l : List Blob) (s : ByteArray) (w : World) (h : RBl w v l) :
    Calls Tryz.prog 83 #[v, .string s] w fun e w' => e = .returned (.tuple #[.int .i64 (findI (·.digest) s l), .int .i64 (findE (·.digest) s l)]) ∧ Below w.heap.size w w' := by
  have hl : l.length ≤ 140737488351232 := by obtain ⟨_, _, _, _, _, hre, _⟩ := h; omega
  have hi := idxFunc_B 107 #[.pointer (some ⟨w.heap.size, 0, none⟩)] (fun x => x.digest.toList == s.toList) (enters_of Tryz.func107 (by kernel_rfl) rfl) v l (w.alloc (.cells #[.string s] 9)) (h.mono EBlob.stable (b_alloc (Below.refl _ _) _))
    (fun W x dv hb _ hd => by
      obtain ⟨a, c, rfl, -⟩ := hd
      exact find1_B x a _ c s w.heap.size W (by rw [hb.cell (p := ⟨w.heap.size, 0, none⟩) (by simp)]; rw [cell_of_row _ _ _ _ _ _ (heap_alloc_new w _)]; rfl) (by have := hb.size; simp at this; omega))
  have hcase := idx_cases (·.digest) s l
  generalize idxOf (fun x : Blob => x.digest.toList == s.toList) l = r at hi hcase
  generalize findI (fun x : Blob => x.digest) s l = fi at hcase ⊢
  generalize findE (fun x : Blob => x.digest) s l = fe at hcase ⊢
  replace hi := hid hi
  rcases hcase with ⟨rfl, rfl, rfl⟩ | ⟨h0, rfl, rfl⟩
  · go_enter Tryz.func83, Tryz.ntmps83
    go_wp2_with fail
    ((with_reducible refine hi.out.mono ?_); rintro e w1 ⟨rfl, b1⟩)
    go_wp2_with fail
    go_ret2
    exact ⟨rfl, b_call (b_alloc (Below.refl _ _) _) b1⟩
  · have hneg : decide (fi < 0) = false := by simp; omega
    go_enter Tryz.func83, Tryz.ntmps83
    go_wp2_with fail
    ((with_reducible refine hi.out.mono ?_); rintro e w1 ⟨rfl, b1⟩)
    go_wp2_with fail
    go_ret2
    exact ⟨rfl, b_call (b_alloc (Below.refl _ _) _) b1⟩
end Go.Proofs.YtpcnhldlfmdlhaaGreatDoor

namespace Go.Proofs.YtpcnhldlfmdlhaaGreatDoor
open Go.RowKit

end Go.Proofs.YtpcnhldlfmdlhaaGreatDoor

namespace Go.Proofs.YtpcnhldlfmdlhaaGreatDoor
open Go.RowKit

end Go.Proofs.YtpcnhldlfmdlhaaGreatDoor

namespace Go.Proofs.YtpcnhldlfmdlhaaGreatDoor
open Go.RowKit

end Go.Proofs.YtpcnhldlfmdlhaaGreatDoor

namespace Go.Proofs.YtpcnhldlfmdlhaaGreatDoor
open Go.RowKit

set_option maxRecDepth 100000 in
set_option maxHeartbeats 400000 in
theorem ref_BlobAt (v : Value) (l : List Blob) (s : ByteArray) (w : World) (h : RBl w v l) :
    Calls Tryz.prog 48 #[v, .string s] w fun e w' => e = .returned (.int .i64 (atKey (·.digest) s l : Nat)) ∧ w = w' := by
  obtain ⟨a, c, rfl, hlc, hcm, hre, hno, hat⟩ := h
  unfold maxLen at hcm
  replace hat := hid hat
  have hy := hid (fun k x hx hq ha => atKey_hit (f := fun x : Blob => x.digest) (s := s) (l := l) (k := k) (x := x) hx hq ha)
  have hn := hid (fun ha => atKey_miss (f := fun x : Blob => x.digest) (s := s) (l := l) ha)
  clear hno
  go_enter Tryz.func48, Tryz.ntmps48
  go_wp2_with fail
  go_loopw [5] (fun i wr => ∃ k : Nat, k ≤ l.length ∧ i = .int .i64 k ∧ Hid (∀ j y, j < k → l[j]? = some y → (y.digest.toList == s.toList) = false) ∧ wr = w) (fun i _ => l.length - (intOf i).toNat)
  case atStart => exact ⟨0, by omega, rfl, hid (fun j x hj => by omega), rfl⟩
  case round =>
    obtain ⟨k, hk, rfl, hall, rfl⟩ := hrel
    by_cases hlt : k < l.length
    · have hx : l[k]? = some l[k] := List.getElem?_eq_getElem hlt
      generalize l[k] = x at hx
      obtain ⟨bb, off, rfl, hbb, he⟩ := hat.out k _ hx
      obtain ⟨dv, c0, c1, c2, c3, rdv, okx⟩ := he
      have hy1 := hid (fun hq => hy.out k x hx hq hall.out)
      have hnx := hid (fun (hq : (x.digest.toList == s.toList) = false) => upto_next_l (q := fun y : Blob => y.digest.toList == s.toList) hall.out hx hq)
      clear hx rdv
      cases hq : (x.digest.toList == s.toList) with
      | true =>
        have hq2 : (x.digest.toList != s.toList) = false := by simp [bne, hq]
        have hr := hid (hy1.out hq)
        clear hall
        go_wp2_with fail
        go_ret
        exact ⟨ret_i (by rw [hr.out]), rfl⟩
      | false =>
        have hq2 : (x.digest.toList != s.toList) = true := by simp [bne, hq]
        have hr := hid (hnx.out hq)
        clear hall
        go_wp2_with fail
        go_roundw
        case rel => exact ⟨k + 1, by omega, by go_num, hr, trivial⟩
        case measure => simp [intOf]; omega
    · obtain rfl : k = l.length := by omega
      have hr := hid (hn.out (fun j x hj => hall.out j x (List.getElem?_eq_some_iff.1 hj).1 hj))
      clear hall
      go_wp2_with fail
      go_ret
      exact ⟨ret_i (by rw [hr.out]), rfl⟩
end Go.Proofs.YtpcnhldlfmdlhaaGreatDoor

namespace Go.Proofs.YtpcnhldlfmdlhaaGreatDoor
open Go.RowKit

end Go.Proofs.YtpcnhldlfmdlhaaGreatDoor

namespace Go.Proofs.YtpcnhldlfmdlhaaGreatDoor
open Go.RowKit

/-- A record no part of which is larger than an argument may be. -/
def FitBlob (x : Blob) : Prop := okBlob x ∧ x.data.length * 1 ≤ 140737488351232
theorem fit_B {w : World} {v : Value} {l : List Blob} (h : RBl w v l) : ∀ x ∈ l, FitBlob x := by
  intro x hx
  obtain ⟨i, hi⟩ := List.getElem?_of_mem hx
  obtain ⟨a, c, rfl, _, _, _, _, hat⟩ := h
  obtain ⟨b, o, _, _, he⟩ := hat i x hi
  obtain ⟨dv, _, _, _, _, rdv, okx⟩ := he
  obtain ⟨_, _, _, _, _, hr, _⟩ := rdv
  exact ⟨okx, hr⟩
theorem OBlob.toR {w : World} {B : Nat} {v : Value} {l : List Blob} (h : OBlob w B v l) (hb : l.length * 56 ≤ 140737488351232) (hf : ∀ x ∈ l, FitBlob x) : RBl w v l :=
  reads_B h hb (fun x _ hx hc => reads_u8 hc (by have := (hf x hx).2; omega)) (fun x hx => (hf x hx).1)
end Go.Proofs.YtpcnhldlfmdlhaaGreatDoor
