/-
  Lists of records (Flight): how one lies, where a key is, and the library's IndexFunc on them. The Copy of a list of records (Flight): a row of this call's own, with slices of its own. slices.Delete on a full row of records (Flight) that the call owns. The reference's copy of a list of records (Flight): a row of this call's own, with slices of its own. The reference's place of a key among Flights; and what its Drop does. The laws' comparing of two lists of records (Flight): two slices that read as one list are the same. A list of records (Flight) that the call owns is read.
-/
import Derived.Test.YtpcnhldlfmdlhaaGreatDoorSxBas
import Derived.Test.YtpcnhldlfmdlhaaGreatDoorSxCl
import Derived.Shelf.Abstract
import Derived.StillTailTactics
import Derived.Deep.RegionHeld3
import Derived.StillTactics
import Derived.OwnWalk
import Derived.Tactics2
namespace Go.Proofs.YtpcnhldlfmdlhaaGreatDoor
open Go.RowKit

def cFlight (x : Flight) (dv : Value) : List Value := [.string x.key, .int .i64 x.leader, dv]
def okFlight (x : Flight) : Prop := x.key.size ≤ 140737488351232 ∧ (Lit.int .i64 x.leader).wf = true
theorem xcFlight_len (r : XR Flight) : (xc cFlight (·.waiters) r).length = 3 := rfl
theorem EFlight_iff (w : World) (b o : Nat) (x : Flight) : EFlight w b o x ↔ EX cFlight (·.waiters) 1 8 EI okFlight w b o x := by
  constructor
  · rintro ⟨dv, h0, h1, h2, h5, h6⟩
    refine ⟨dv, fun j u hj => ?_, h5, h6⟩
    rcases j with _ | _ | _ | j <;> simp [cFlight] at hj <;> subst hj <;> assumption
  · rintro ⟨dv, h, h5, h6⟩
    exact ⟨dv, h 0 _ rfl, h 1 _ rfl, h 2 _ rfl, h5, h6⟩
/-- A row that the call owns from block B on, of records whose slices it owns too. -/
def OFlight (w : World) (B : Nat) (v : Value) (l : List Flight) : Prop := OX 42 3 cFlight (·.waiters) (CO 3 1 cI B) w B v l
theorem reads_F {w : World} {B : Nat} {v : Value} {l : List Flight} (h : OFlight w B v l) (hb : l.length * 48 ≤ 140737488351232) (hC : ∀ x v, x ∈ l → CO 3 1 cI B w v x.waiters → RI w v x.waiters) (ho : ∀ x ∈ l, okFlight x) : RF w v l :=
  RS.iff (fun b o x hx => (EFlight_iff w b o x).2 hx) (OX.reads (by decide) xcFlight_len h hb hC ho)

set_option maxRecDepth 100000 in
set_option maxHeartbeats 400000 in
/-- slices.IndexFunc on Flights. -/
theorem idxFunc_F (g : Nat) (lb : Array Value) (q : Flight → Bool) (eg : ∀ args w, (callFunc g args).run Tryz.prog w = .ok (.enter g args) w) (v : Value) (l : List Flight) (w : World) (h : RF w v l)
    (hp : ∀ W x dv, Below w.heap.size w W → okFlight x → RI W dv x.waiters → Calls Tryz.prog g (#[.agg #[.string x.key, .int .i64 x.leader, dv]] ++ lb) W fun e w' => e = .returned (.bool (q x)) ∧ Below W.heap.size W w') :
    Calls Tryz.prog 65 #[v, .func (.func g) #[] lb] w fun e w' => e = .returned (.int .i64 (idxOf q l)) ∧ Below w.heap.size w w' := by
  obtain ⟨a, c, rfl, hlc, hcm, hre, hno, hat⟩ := h
  unfold maxLen at hcm
  replace hat := hid hat
  replace hp := hid hp
  have hy := hid (fun k x hx hq ha => idxOf_hit (q := q) (l := l) (k := k) (x := x) hx hq ha)
  have hn := hid (fun ha => idxOf_miss (q := q) (l := l) ha)
  clear hno
  go_enter Tryz.func65, Tryz.ntmps65
  go_wp2_with fail
  go_loopw [5, 8] (fun _ i wr => ∃ k : Nat, k ≤ l.length ∧ i = .int .i64 k ∧ Hid (∀ j x, j < k → l[j]? = some x → q x = false) ∧ Hid (Below w.heap.size w wr)) (fun _ i _ => l.length - (intOf i).toNat)
  case atStart => exact ⟨0, by omega, rfl, hid (fun j x hj => by omega), hid (Below.refl _ _)⟩
  case round =>
    obtain ⟨k, hk, rfl, hall, hb⟩ := hrel
    by_cases hlt : k < l.length
    · have hx : l[k]? = some l[k] := List.getElem?_eq_getElem hlt
      generalize l[k] = x at hx
      obtain ⟨bb, off, rfl, hbb, he⟩ := hat.out k _ hx
      obtain ⟨dv, c0, c1, c2, rdv, okx⟩ := EFlight.stable _ _ _ _ _ hb.out hbb he
      have hbw : bb < wr.heap.size := Nat.lt_of_lt_of_le hbb hb.out.size
      have hcall := hp.out wr x dv hb.out okx rdv
      have hy1 := hid (fun hq => hy.out k x hx hq hall.out)
      have hnx := hid (fun (hq : q x = false) => upto_next_l hall.out hx hq)
      clear hx he rdv
      cases hq : q x with
      | true =>
        rw [hq] at hcall
        replace hcall := hid hcall
        have hr := hid (hy1.out hq)
        clear hq hall
        go_wp2_with fail
        ((with_reducible refine hcall.out.mono ?_); rintro e w1 ⟨rfl, b1⟩)
        go_wp2_with fail
        go_ret
        exact ⟨ret_i hr.out.symm, b_call hb.out b1⟩
      | false =>
        rw [hq] at hcall
        replace hcall := hid hcall
        have hr := hid (hnx.out hq)
        clear hq hall
        go_wp2_with fail
        ((with_reducible refine hcall.out.mono ?_); rintro e w1 ⟨rfl, b1⟩)
        have hb1 := hid (b_call hb.out b1)
        clear b1
        go_wp2_with fail
        go_roundw
        case rel => exact ⟨k + 1, by omega, by go_num, hr, hb1⟩
        case measure => simp [intOf]; omega
    · obtain rfl : k = l.length := by omega
      have hr := hid (hn.out (fun j x hj => hall.out j x (List.getElem?_eq_some_iff.1 hj).1 hj))
      clear hall
      go_wp2_with fail
      go_ret
      exact ⟨ret_i hr.out.symm, hb.out⟩

set_option maxRecDepth 100000 in
set_option maxHeartbeats 400000 in
theorem find1_F (x : Flight) (a : Option Addr) (n c : Nat) (s : ByteArray) (p : Nat) (w : World) (hc : w.cell? ⟨p, 0, none⟩ = some (.string s)) (hp : p < w.heap.size) :
    Calls Tryz.prog 66 #[.agg #[.string x.key, .int .i64 x.leader, .slice a n c], .pointer (some ⟨p, 0, none⟩)] w fun e w' => e = .returned (.bool (x.key.toList == s.toList)) ∧ Below w.heap.size w w' := by
  go_enter Tryz.func66, Tryz.ntmps66
  go_wp2_with fail
  go_ret
  exact ⟨rfl, b_alloc (Below.refl _ _) _⟩

set_option maxRecDepth 100000 in
set_option maxHeartbeats 400000 in
theorem flight_Find (v : Value) (l : List Flight) (s : ByteArray) (w : World) (h : RF w v l) :
    Calls Tryz.prog 36 #[v, .string s] w fun e w' => e = .returned (.tuple #[.int .i64 (findI (·.key) s l), .int .i64 (findE (·.key) s l)]) ∧ Below w.heap.size w w' := by
  have hl : l.length ≤ 140737488351232 := by obtain ⟨_, _, _, _, _, hre, _⟩ := h; omega
  have hi := idxFunc_F 66 #[.pointer (some ⟨w.heap.size, 0, none⟩)] (fun x => x.key.toList == s.toList) (enters_of Tryz.func66 (by kernel_rfl) rfl) v l (w.alloc (.cells #[.string s] 9)) (h.mono EFlight.stable (b_alloc (Below.refl _ _) _))
    (fun W x dv hb _ hd => by
      obtain ⟨a, c, rfl, -⟩ := hd
      exact find1_F x a _ c s w.heap.size W (by rw [hb.cell (p := ⟨w.heap.size, 0, none⟩) (by simp)]; rw [cell_of_row _ _ _ _ _ _ (heap_alloc_new w _)]; rfl) (by have := hb.size; simp at this; omega))
  have hcase := idx_cases (·.key) s l
  generalize idxOf (fun x : Flight => x.key.toList == s.toList) l = r at hi hcase
  generalize findI (fun x : Flight => x.key) s l = fi at hcase ⊢
  generalize findE (fun x : Flight => x.key) s l = fe at hcase ⊢
  replace hi := hid hi
  rcases hcase with ⟨rfl, rfl, rfl⟩ | ⟨h0, rfl, rfl⟩
  · go_enter Tryz.func36, Tryz.ntmps36
    go_wp2_with fail
    ((with_reducible refine hi.out.mono ?_); rintro e w1 ⟨rfl, b1⟩)
    go_wp2_with fail
    go_ret2
    exact ⟨rfl, b_call (b_alloc (Below.refl _ _) _) b1⟩
  · have hneg : decide (fi < 0) = false := by simp; omega
    go_enter Tryz.func36, Tryz.ntmps36
    go_wp2_with fail
    ((with_reducible refine hi.out.mono ?_); rintro e w1 ⟨rfl, b1⟩)
    go_wp2_with fail
    go_ret2
    exact ⟨rfl, b_call (b_alloc (Below.refl _ _) _) b1⟩
end Go.Proofs.YtpcnhldlfmdlhaaGreatDoor

namespace Go.Proofs.YtpcnhldlfmdlhaaGreatDoor
open Go.RowKit

/-- No two of the records have the same block for their waiters. -/
def SepF (rs : List (XR Flight)) : Prop := rs.Pairwise fun p q => ∀ b, (p.v (·.waiters)).ownBlock = some b → (q.v (·.waiters)).ownBlock ≠ some b
def OFlightP (w : World) (B : Nat) (v : Value) (l : List Flight) : Prop := ∃ rs : List (XR Flight), rs.map (·.x) = l ∧ OS 42 3 (xc cFlight (·.waiters)) w B v rs ∧ (∀ r ∈ rs, CO 3 1 cI B w (r.v (·.waiters)) r.x.waiters) ∧ SepF rs
theorem OFlightP.plain {w : World} {B : Nat} {v : Value} {l : List Flight} (h : OFlightP w B v l) : OFlight w B v l := by
  obtain ⟨rs, h1, h2, h3, -⟩ := h
  exact ⟨rs, h1, h2, h3⟩
theorem OFlightP.nil {w : World} {B : Nat} : OFlightP w B (.slice none 0 0) [] := ⟨[], rfl, OS.nil, fun r h => by simp at h, .nil⟩
theorem OFlightP.grow {B : Nat} {W w' : World} {v v' : Value} {rs : List (XR Flight)} {r : XR Flight}
    (hO : OS 42 3 (xc cFlight (·.waiters)) w' B v' (rs ++ [r])) (hg : W.grownBy w' v.ownBlock) (hv : OS 42 3 (xc cFlight (·.waiters)) W B v rs)
    (hc : ∀ q ∈ rs, CO 3 1 cI B W (q.v (·.waiters)) q.x.waiters) (hr : CO 3 1 cI B W (r.v (·.waiters)) r.x.waiters) (hs : SepF rs) (hn : ∀ p ∈ rs, ∀ b, (p.v (·.waiters)).ownBlock = some b → (r.v (·.waiters)).ownBlock ≠ some b) : OFlightP w' B v' (rs.map (·.x) ++ [r.x]) := by
  refine ⟨rs ++ [r], by simp, hO, fun q hq => ?_, List.pairwise_append.2 ⟨hs, List.pairwise_singleton _ _, fun p hp q hq => by rw [List.mem_singleton] at hq; subst hq; exact hn p hp⟩⟩
  rcases List.mem_append.1 hq with hq | hq
  · exact OS.apart hv (hc q hq) (by decide) hg
  · simp only [List.mem_singleton] at hq
    subst hq
    exact OS.apart hv hr (by decide) hg
end Go.Proofs.YtpcnhldlfmdlhaaGreatDoor

namespace Go.Proofs.YtpcnhldlfmdlhaaGreatDoor
open Go.RowKit

end Go.Proofs.YtpcnhldlfmdlhaaGreatDoor

namespace Go.Proofs.YtpcnhldlfmdlhaaGreatDoor
open Go.RowKit

end Go.Proofs.YtpcnhldlfmdlhaaGreatDoor

namespace Go.Proofs.YtpcnhldlfmdlhaaGreatDoor
open Go.RowKit

set_option maxRecDepth 100000 in
set_option maxHeartbeats 400000 in
theorem ref_FlightAt (v : Value) (l : List Flight) (s : ByteArray) (w : World) (h : RF w v l) :
    Calls Tryz.prog 22 #[v, .string s] w fun e w' => e = .returned (.int .i64 (atKey (·.key) s l : Nat)) ∧ w = w' := by
  obtain ⟨a, c, rfl, hlc, hcm, hre, hno, hat⟩ := h
  unfold maxLen at hcm
  replace hat := hid hat
  have hy := hid (fun k x hx hq ha => atKey_hit (f := fun x : Flight => x.key) (s := s) (l := l) (k := k) (x := x) hx hq ha)
  have hn := hid (fun ha => atKey_miss (f := fun x : Flight => x.key) (s := s) (l := l) ha)
  clear hno
  go_enter Tryz.func22, Tryz.ntmps22
  go_wp2_with fail
  go_loopw [5] (fun i wr => ∃ k : Nat, k ≤ l.length ∧ i = .int .i64 k ∧ Hid (∀ j y, j < k → l[j]? = some y → (y.key.toList == s.toList) = false) ∧ wr = w) (fun i _ => l.length - (intOf i).toNat)
  case atStart => exact ⟨0, by omega, rfl, hid (fun j x hj => by omega), rfl⟩
  case round =>
    obtain ⟨k, hk, rfl, hall, rfl⟩ := hrel
    by_cases hlt : k < l.length
    · have hx : l[k]? = some l[k] := List.getElem?_eq_getElem hlt
      generalize l[k] = x at hx
      obtain ⟨bb, off, rfl, hbb, he⟩ := hat.out k _ hx
      obtain ⟨dv, c0, c1, c2, rdv, okx⟩ := he
      have hy1 := hid (fun hq => hy.out k x hx hq hall.out)
      have hnx := hid (fun (hq : (x.key.toList == s.toList) = false) => upto_next_l (q := fun y : Flight => y.key.toList == s.toList) hall.out hx hq)
      clear hx rdv
      cases hq : (x.key.toList == s.toList) with
      | true =>
        have hq2 : (x.key.toList != s.toList) = false := by simp [bne, hq]
        have hr := hid (hy1.out hq)
        clear hall
        go_wp2_with fail
        go_ret
        exact ⟨ret_i (by rw [hr.out]), rfl⟩
      | false =>
        have hq2 : (x.key.toList != s.toList) = true := by simp [bne, hq]
        have hr := hid (hnx.out hq)
        clear hall
        go_wp2_with fail
        go_roundw
        case rel => exact ⟨k + 1, by omega, by go_num, hr, trivial⟩
        case measure => simp [intOf]; omega
    · obtain rfl : k = l.length := by omega
      have hr := hid (hn.out (fun j x hj => hall.out j x (List.getElem?_eq_some_iff.1 hj).1 hj))
      clear hall
      go_wp2_with fail
      go_ret
      exact ⟨ret_i (by rw [hr.out]), rfl⟩
end Go.Proofs.YtpcnhldlfmdlhaaGreatDoor

namespace Go.Proofs.YtpcnhldlfmdlhaaGreatDoor
open Go.RowKit

end Go.Proofs.YtpcnhldlfmdlhaaGreatDoor

namespace Go.Proofs.YtpcnhldlfmdlhaaGreatDoor
open Go.RowKit

/-- A record no part of which is larger than an argument may be. -/
def FitFlight (x : Flight) : Prop := okFlight x ∧ x.waiters.length * 8 ≤ 140737488351232 ∧ ∀ n ∈ x.waiters, (Lit.int .i64 n).wf = true
theorem fit_F {w : World} {v : Value} {l : List Flight} (h : RF w v l) : ∀ x ∈ l, FitFlight x := by
  intro x hx
  obtain ⟨i, hi⟩ := List.getElem?_of_mem hx
  obtain ⟨a, c, rfl, _, _, _, _, hat⟩ := h
  obtain ⟨b, o, _, _, he⟩ := hat i x hi
  obtain ⟨dv, _, _, _, rdv, okx⟩ := he
  obtain ⟨_, _, _, _, _, hr, _, hat⟩ := rdv
  refine ⟨okx, hr, fun p hp => ?_⟩
  obtain ⟨j, hj⟩ := List.getElem?_of_mem hp
  obtain ⟨_, _, _, _, _, q⟩ := hat j p hj
  exact q
theorem OFlight.toR {w : World} {B : Nat} {v : Value} {l : List Flight} (h : OFlight w B v l) (hb : l.length * 48 ≤ 140737488351232) (hf : ∀ x ∈ l, FitFlight x) : RF w v l :=
  reads_F h hb (fun x _ hx hc => OS.reads (cells := cI) (fun _ => rfl) (by decide) (fun b o n hn hc => ⟨hc 0 (by omega), (hf x hx).2.2 n hn⟩) hc (hf x hx).2.1) (fun x hx => (hf x hx).1)
end Go.Proofs.YtpcnhldlfmdlhaaGreatDoor
