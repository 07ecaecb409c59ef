/-
  Lists of records (Entry): how one lies, where a key is, and the library's IndexFunc on them. The Copy of a list of records (Entry): a row of this call's own, with slices of its own. slices.Delete on a full row of records (Entry) that the call owns. The reference's copy of a list of records (Entry): a row of this call's own, with slices of its own. The reference's place of a key among Entrys; and what its Drop does. The laws' comparing of two lists of records (Entry): two slices that read as one list are the same. A list of records (Entry) that the call owns is read.
-/
import Derived.Test.YtpcnhldlfmdlhaaGreatDoorSxBas
import Derived.Test.YtpcnhldlfmdlhaaGreatDoorSxCl
import Derived.Shelf.Abstract
import Derived.StillTailTactics
import Derived.Deep.RegionHeld3
import Derived.StillTactics
import Derived.OwnWalk
import Derived.Tactics2
namespace Go.Proofs.YtpcnhldlfmdlhaaGreatDoor
open Go.RowKit

def cEntry (x : Entry) (dv : Value) : List Value := [.string x.key, dv, .int .i64 x.pins, .int .i64 x.stamp]
def okEntry (x : Entry) : Prop := x.key.size ≤ 140737488351232 ∧ (Lit.int .i64 x.pins).wf = true ∧ (Lit.int .i64 x.stamp).wf = true
theorem xcEntry_len (r : XR Entry) : (xc cEntry (·.parts) r).length = 4 := rfl
theorem EEntry_iff (w : World) (b o : Nat) (x : Entry) : EEntry w b o x ↔ EX cEntry (·.parts) 3 40 EPart okEntry w b o x := by
  constructor
  · rintro ⟨dv, h0, h1, h2, h3, h5, h6⟩
    refine ⟨dv, fun j u hj => ?_, h5, h6⟩
    rcases j with _ | _ | _ | _ | j <;> simp [cEntry] at hj <;> subst hj <;> assumption
  · rintro ⟨dv, h, h5, h6⟩
    exact ⟨dv, h 0 _ rfl, h 1 _ rfl, h 2 _ rfl, h 3 _ rfl, h5, h6⟩
/-- A row that the call owns from block B on, of records whose slices it owns too. -/
def OEntry (w : World) (B : Nat) (v : Value) (l : List Entry) : Prop := OX 57 4 cEntry (·.parts) (CO 87 3 cPart B) w B v l
theorem reads_E {w : World} {B : Nat} {v : Value} {l : List Entry} (h : OEntry w B v l) (hb : l.length * 56 ≤ 140737488351232) (hC : ∀ x v, x ∈ l → CO 87 3 cPart B w v x.parts → RP w v x.parts) (ho : ∀ x ∈ l, okEntry x) : RE w v l :=
  RS.iff (fun b o x hx => (EEntry_iff w b o x).2 hx) (OX.reads (by decide) xcEntry_len h hb hC ho)

set_option maxRecDepth 100000 in
set_option maxHeartbeats 400000 in
/-- slices.IndexFunc on Entrys. -/
theorem idxFunc_E (g : Nat) (lb : Array Value) (q : Entry → Bool) (eg : ∀ args w, (callFunc g args).run Tryz.prog w = .ok (.enter g args) w) (v : Value) (l : List Entry) (w : World) (h : RE w v l)
    (hp : ∀ W x dv, Below w.heap.size w W → okEntry x → RP W dv x.parts → Calls Tryz.prog g (#[.agg #[.string x.key, dv, .int .i64 x.pins, .int .i64 x.stamp]] ++ lb) W fun e w' => e = .returned (.bool (q x)) ∧ Below W.heap.size W w') :
    Calls Tryz.prog 40 #[v, .func (.func g) #[] lb] w fun e w' => e = .returned (.int .i64 (idxOf q l)) ∧ Below w.heap.size w w' := by
  obtain ⟨a, c, rfl, hlc, hcm, hre, hno, hat⟩ := h
  unfold maxLen at hcm
  replace hat := hid hat
  replace hp := hid hp
  have hy := hid (fun k x hx hq ha => idxOf_hit (q := q) (l := l) (k := k) (x := x) hx hq ha)
  have hn := hid (fun ha => idxOf_miss (q := q) (l := l) ha)
  clear hno
  go_enter Tryz.func40, Tryz.ntmps40
  go_wp2_with fail
  go_loopw [5, 8] (fun _ i wr => ∃ k : Nat, k ≤ l.length ∧ i = .int .i64 k ∧ Hid (∀ j x, j < k → l[j]? = some x → q x = false) ∧ Hid (Below w.heap.size w wr)) (fun _ i _ => l.length - (intOf i).toNat)
  case atStart => exact ⟨0, by omega, rfl, hid (fun j x hj => by omega), hid (Below.refl _ _)⟩
  case round =>
    obtain ⟨k, hk, rfl, hall, hb⟩ := hrel
    by_cases hlt : k < l.length
    · have hx : l[k]? = some l[k] := List.getElem?_eq_getElem hlt
      generalize l[k] = x at hx
      obtain ⟨bb, off, rfl, hbb, he⟩ := hat.out k _ hx
      obtain ⟨dv, c0, c1, c2, c3, rdv, okx⟩ := EEntry.stable _ _ _ _ _ hb.out hbb he
      have hbw : bb < wr.heap.size := Nat.lt_of_lt_of_le hbb hb.out.size
      have hcall := hp.out wr x dv hb.out okx rdv
      have hy1 := hid (fun hq => hy.out k x hx hq hall.out)
      have hnx := hid (fun (hq : q x = false) => upto_next_l hall.out hx hq)
      clear hx he rdv
      cases hq : q x with
      | true =>
        rw [hq] at hcall
        replace hcall := hid hcall
        have hr := hid (hy1.out hq)
        clear hq hall
        go_wp2_with fail
        ((with_reducible refine hcall.out.mono ?_); rintro e w1 ⟨rfl, b1⟩)
        go_wp2_with fail
        go_ret
        exact ⟨ret_i hr.out.symm, b_call hb.out b1⟩
      | false =>
        rw [hq] at hcall
        replace hcall := hid hcall
        have hr := hid (hnx.out hq)
        clear hq hall
        go_wp2_with fail
        ((with_reducible refine hcall.out.mono ?_); rintro e w1 ⟨rfl, b1⟩)
        have hb1 := hid (b_call hb.out b1)
        clear b1
        go_wp2_with fail
        go_roundw
        case rel => exact ⟨k + 1, by omega, by go_num, hr, hb1⟩
        case measure => simp [intOf]; omega
    · obtain rfl : k = l.length := by omega
      have hr := hid (hn.out (fun j x hj => hall.out j x (List.getElem?_eq_some_iff.1 hj).1 hj))
      clear hall
      go_wp2_with fail
      go_ret
      exact ⟨ret_i hr.out.symm, hb.out⟩

set_option maxRecDepth 100000 in
set_option maxHeartbeats 400000 in
theorem find1_E (x : Entry) (a : Option Addr) (n c : Nat) (s : ByteArray) (p : Nat) (w : World) (hc : w.cell? ⟨p, 0, none⟩ = some (.string s)) (hp : p < w.heap.size) :
    Calls Tryz.prog 41 #[.agg #[.string x.key, .slice a n c, .int .i64 x.pins, .int .i64 x.stamp], .pointer (some ⟨p, 0, none⟩)] w fun e w' => e = .returned (.bool (x.key.toList == s.toList)) ∧ Below w.heap.size w w' := by
  go_enter Tryz.func41, Tryz.ntmps41
  go_wp2_with fail
  go_ret
  exact ⟨rfl, b_alloc (Below.refl _ _) _⟩

set_option maxRecDepth 100000 in
set_option maxHeartbeats 400000 in
theorem index_Find (v : Value) (l : List Entry) (s : ByteArray) (w : World) (h : RE w v l) :
    Calls Tryz.prog 18 #[v, .string s] w fun e w' => e = .returned (.tuple #[.int .i64 (findI (·.key) s l), .int .i64 (findE (·.key) s l)]) ∧ Below w.heap.size w w' := by
  have hl : l.length ≤ 140737488351232 := by obtain ⟨_, _, _, _, _, hre, _⟩ := h; omega
  have hi := idxFunc_E 41 #[.pointer (some ⟨w.heap.size, 0, none⟩)] (fun x => x.key.toList == s.toList) (enters_of Tryz.func41 (by kernel_rfl) rfl) v l (w.alloc (.cells #[.string s] 9)) (h.mono EEntry.stable (b_alloc (Below.refl _ _) _))
    (fun W x dv hb _ hd => by
      obtain ⟨a, c, rfl, -⟩ := hd
      exact find1_E x a _ c s w.heap.size W (by rw [hb.cell (p := ⟨w.heap.size, 0, none⟩) (by simp)]; rw [cell_of_row _ _ _ _ _ _ (heap_alloc_new w _)]; rfl) (by have := hb.size; simp at this; omega))
  have hcase := idx_cases (·.key) s l
  generalize idxOf (fun x : Entry => x.key.toList == s.toList) l = r at hi hcase
  generalize findI (fun x : Entry => x.key) s l = fi at hcase ⊢
  generalize findE (fun x : Entry => x.key) s l = fe at hcase ⊢
  replace hi := hid hi
  rcases hcase with ⟨rfl, rfl, rfl⟩ | ⟨h0, rfl, rfl⟩
  · go_enter Tryz.func18, Tryz.ntmps18
    go_wp2_with fail
    ((with_reducible refine hi.out.mono ?_); rintro e w1 ⟨rfl, b1⟩)
    go_wp2_with fail
    go_ret2
    exact ⟨rfl, b_call (b_alloc (Below.refl _ _) _) b1⟩
  · have hneg : decide (fi < 0) = false := by simp; omega
    go_enter Tryz.func18, Tryz.ntmps18
    go_wp2_with fail
    ((with_reducible refine hi.out.mono ?_); rintro e w1 ⟨rfl, b1⟩)
    go_wp2_with fail
    go_ret2
    exact ⟨rfl, b_call (b_alloc (Below.refl _ _) _) b1⟩
end Go.Proofs.YtpcnhldlfmdlhaaGreatDoor

namespace Go.Proofs.YtpcnhldlfmdlhaaGreatDoor
open Go.RowKit

end Go.Proofs.YtpcnhldlfmdlhaaGreatDoor

namespace Go.Proofs.YtpcnhldlfmdlhaaGreatDoor
open Go.RowKit

end Go.Proofs.YtpcnhldlfmdlhaaGreatDoor

namespace Go.Proofs.YtpcnhldlfmdlhaaGreatDoor
open Go.RowKit

end Go.Proofs.YtpcnhldlfmdlhaaGreatDoor

namespace Go.Proofs.YtpcnhldlfmdlhaaGreatDoor
open Go.RowKit

end Go.Proofs.YtpcnhldlfmdlhaaGreatDoor

namespace Go.Proofs.YtpcnhldlfmdlhaaGreatDoor
open Go.RowKit

end Go.Proofs.YtpcnhldlfmdlhaaGreatDoor

namespace Go.Proofs.YtpcnhldlfmdlhaaGreatDoor
open Go.RowKit

/-- A record no part of which is larger than an argument may be. -/
def FitEntry (x : Entry) : Prop := okEntry x ∧ x.parts.length * 40 ≤ 140737488351232 ∧ ∀ p ∈ x.parts, p.name.size ≤ 140737488351232 ∧ p.digest.size ≤ 140737488351232 ∧ (Lit.int .i64 p.size).wf = true
theorem fit_E {w : World} {v : Value} {l : List Entry} (h : RE w v l) : ∀ x ∈ l, FitEntry x := by
  intro x hx
  obtain ⟨i, hi⟩ := List.getElem?_of_mem hx
  obtain ⟨a, c, rfl, _, _, _, _, hat⟩ := h
  obtain ⟨b, o, _, _, he⟩ := hat i x hi
  obtain ⟨dv, _, _, _, _, rdv, okx⟩ := he
  obtain ⟨_, _, _, _, _, hr, _, hat⟩ := rdv
  refine ⟨okx, hr, fun p hp => ?_⟩
  obtain ⟨j, hj⟩ := List.getElem?_of_mem hp
  obtain ⟨_, _, _, _, _, _, _, q⟩ := hat j p hj
  exact q
theorem OEntry.toR {w : World} {B : Nat} {v : Value} {l : List Entry} (h : OEntry w B v l) (hb : l.length * 56 ≤ 140737488351232) (hf : ∀ x ∈ l, FitEntry x) : RE w v l :=
  reads_E h hb (fun x _ hx hc => reads_part hc (hf x hx).2.1 (hf x hx).2.2) (fun x hx => (hf x hx).1)
end Go.Proofs.YtpcnhldlfmdlhaaGreatDoor
