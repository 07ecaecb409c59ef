/-
  Lists of records (Flight): how one lies, where a key is, and the library's IndexFunc on them. The Copy of a list of records (Flight): a row of this call's own, with slices of its own. slices.Delete on a full row of records (Flight) that the call owns. The reference's copy of a list of records (Flight): a row of this call's own, with slices of its own. The reference's place of a key among Flights; and what its Drop does. The laws' comparing of two lists of records (Flight): two slices that read as one list are the same. A list of records (Flight) that the call owns is read.
-/
import Derived.Test.YtpcnhldlfmdlhaaGreatQxBas
import Derived.Test.YtpcnhldlfmdlhaaGreatQxCl
import Derived.Shelf.Abstract
import Derived.StillTailTactics
import Derived.Deep.RegionHeld3
import Derived.StillTactics
import Derived.OwnWalk
import Derived.Tactics2
namespace Go.Proofs.YtpcnhldlfmdlhaaGreat
open Go.RowKit

def cFlight (x : Flight) (dv : Value) : List Value := [.string x.key, .int .i64 x.leader, dv]
def okFlight (x : Flight) : Prop := x.key.size ≤ 140737488351232 ∧ (Lit.int .i64 x.leader).wf = true
theorem xcFlight_len (r : XR Flight) : (xc cFlight (·.waiters) r).length = 3 := rfl
theorem xcFlight_one (r : XR Flight) (u : Value) (h : u ∈ xc cFlight (·.waiters) r) : u.oneCell' = true := by
  simp [xc, cFlight, XR.v] at h
  rcases h with rfl | rfl | rfl <;> rfl
theorem flat_cFlight : Flat 3 (xc cFlight (·.waiters)) (ERaw (xc cFlight (·.waiters))) := flat_raw (by decide) xcFlight_len xcFlight_one
theorem EFlight_iff (w : World) (b o : Nat) (x : Flight) : EFlight w b o x ↔ EX cFlight (·.waiters) 1 8 EI okFlight w b o x := by
  constructor
  · rintro ⟨dv, h0, h1, h2, h5, h6⟩
    refine ⟨dv, fun j u hj => ?_, h5, h6⟩
    rcases j with _ | _ | _ | j <;> simp [cFlight] at hj <;> subst hj <;> assumption
  · rintro ⟨dv, h, h5, h6⟩
    exact ⟨dv, h 0 _ rfl, h 1 _ rfl, h 2 _ rfl, h5, h6⟩
/-- A row that the call owns from block B on, of records whose slices it owns too. -/
def OFlight (w : World) (B : Nat) (v : Value) (l : List Flight) : Prop := OX 154 3 cFlight (·.waiters) (CO 3 1 cI B) w B v l
theorem reads_F {w : World} {B : Nat} {v : Value} {l : List Flight} (h : OFlight w B v l) (hb : l.length * 48 ≤ 140737488351232) (hC : ∀ x v, x ∈ l → CO 3 1 cI B w v x.waiters → RI w v x.waiters) (ho : ∀ x ∈ l, okFlight x) : RF w v l :=
  RS.iff (fun b o x hx => (EFlight_iff w b o x).2 hx) (OX.reads (by decide) xcFlight_len h hb hC ho)

set_option maxRecDepth 100000 in
set_option maxHeartbeats 400000 in
/-- slices.IndexFunc on Flights. -/
theorem idxFunc_F (g : Nat) (lb : Array Value) (q : Flight → Bool) (eg : ∀ args w, (callFunc g args).run Tryz.prog w = .ok (.enter g args) w) (v : Value) (l : List Flight) (w : World) (h : RF w v l)
    (hp : ∀ W x dv, Below w.heap.size w W → okFlight x → RI W dv x.waiters → Calls Tryz.prog g (#[.agg #[.string x.key, .int .i64 x.leader, dv]] ++ lb) W fun e w' => e = .returned (.bool (q x)) ∧ Below W.heap.size W w') :
    Calls Tryz.prog 213 #[v, .func (.func g) #[] lb] w fun e w' => e = .returned (.int .i64 (idxOf q l)) ∧ Below w.heap.size w w' := by
  obtain ⟨a, c, rfl, hlc, hcm, hre, hno, hat⟩ := h
  unfold maxLen at hcm
  replace hat := hid hat
  replace hp := hid hp
  have hy := hid (fun k x hx hq ha => idxOf_hit (q := q) (l := l) (k := k) (x := x) hx hq ha)
  have hn := hid (fun ha => idxOf_miss (q := q) (l := l) ha)
  clear hno
  go_enter Tryz.func213, Tryz.ntmps213
  go_wp2_with fail
  go_loopw [5, 8] (fun _ i wr => ∃ k : Nat, k ≤ l.length ∧ i = .int .i64 k ∧ Hid (∀ j x, j < k → l[j]? = some x → q x = false) ∧ Hid (Below w.heap.size w wr)) (fun _ i _ => l.length - (intOf i).toNat)
  case atStart => exact ⟨0, by omega, rfl, hid (fun j x hj => by omega), hid (Below.refl _ _)⟩
  case round =>
    obtain ⟨k, hk, rfl, hall, hb⟩ := hrel
    by_cases hlt : k < l.length
    · have hx : l[k]? = some l[k] := List.getElem?_eq_getElem hlt
      generalize l[k] = x at hx
      obtain ⟨bb, off, rfl, hbb, he⟩ := hat.out k _ hx
      obtain ⟨dv, c0, c1, c2, rdv, okx⟩ := EFlight.stable _ _ _ _ _ hb.out hbb he
      have hbw : bb < wr.heap.size := Nat.lt_of_lt_of_le hbb hb.out.size
      have hcall := hp.out wr x dv hb.out okx rdv
      have hy1 := hid (fun hq => hy.out k x hx hq hall.out)
      have hnx := hid (fun (hq : q x = false) => upto_next_l hall.out hx hq)
      clear hx he rdv
      cases hq : q x with
      | true =>
        rw [hq] at hcall
        replace hcall := hid hcall
        have hr := hid (hy1.out hq)
        clear hq hall
        go_wp2_with fail
        ((with_reducible refine hcall.out.mono ?_); rintro e w1 ⟨rfl, b1⟩)
        go_wp2_with fail
        go_ret
        exact ⟨ret_i hr.out.symm, b_call hb.out b1⟩
      | false =>
        rw [hq] at hcall
        replace hcall := hid hcall
        have hr := hid (hnx.out hq)
        clear hq hall
        go_wp2_with fail
        ((with_reducible refine hcall.out.mono ?_); rintro e w1 ⟨rfl, b1⟩)
        have hb1 := hid (b_call hb.out b1)
        clear b1
        go_wp2_with fail
        go_roundw
        case rel => exact ⟨k + 1, by omega, by go_num, hr, hb1⟩
        case measure => simp [intOf]; omega
    · obtain rfl : k = l.length := by omega
      have hr := hid (hn.out (fun j x hj => hall.out j x (List.getElem?_eq_some_iff.1 hj).1 hj))
      clear hall
      go_wp2_with fail
      go_ret
      exact ⟨ret_i hr.out.symm, hb.out⟩

set_option maxRecDepth 100000 in
set_option maxHeartbeats 400000 in
theorem find1_F (x : Flight) (a : Option Addr) (n c : Nat) (s : ByteArray) (p : Nat) (w : World) (hc : w.cell? ⟨p, 0, none⟩ = some (.string s)) (hp : p < w.heap.size) :
    Calls Tryz.prog 214 #[.agg #[.string x.key, .int .i64 x.leader, .slice a n c], .pointer (some ⟨p, 0, none⟩)] w fun e w' => e = .returned (.bool (x.key.toList == s.toList)) ∧ Below w.heap.size w w' := by
  go_enter Tryz.func214, Tryz.ntmps214
  go_wp2_with fail
  go_ret
  exact ⟨rfl, b_alloc (Below.refl _ _) _⟩

set_option maxRecDepth 100000 in
set_option maxHeartbeats 400000 in
theorem flight_Find (v : Value) (l : List Flight) (s : ByteArray) (w : World) (h : RF w v l) :
    Calls Tryz.prog 139 #[v, .string s] w fun e w' => e = .returned (.tuple #[.int .i64 (findI (·.key) s l), .int .i64 (findE (·.key) s l)]) ∧ Below w.heap.size w w' := by
  have hl : l.length ≤ 140737488351232 := by obtain ⟨_, _, _, _, _, hre, _⟩ := h; omega
  have hi := idxFunc_F 214 #[.pointer (some ⟨w.heap.size, 0, none⟩)] (fun x => x.key.toList == s.toList) (enters_of Tryz.func214 (by kernel_rfl) rfl) v l (w.alloc (.cells #[.string s] 9)) (h.mono EFlight.stable (b_alloc (Below.refl _ _) _))
    (fun W x dv hb _ hd => by
      obtain ⟨a, c, rfl, -⟩ := hd
      exact find1_F x a _ c s w.heap.size W (by rw [hb.cell (p := ⟨w.heap.size, 0, none⟩) (by simp)]; rw [cell_of_row _ _ _ _ _ _ (heap_alloc_new w _)]; rfl) (by have := hb.size; simp at this; omega))
  have hcase := idx_cases (·.key) s l
  generalize idxOf (fun x : Flight => x.key.toList == s.toList) l = r at hi hcase
  generalize findI (fun x : Flight => x.key) s l = fi at hcase ⊢
  generalize findE (fun x : Flight => x.key) s l = fe at hcase ⊢
  replace hi := hid hi
  rcases hcase with ⟨rfl, rfl, rfl⟩ | ⟨h0, rfl, rfl⟩
  · go_enter Tryz.func139, Tryz.ntmps139
    go_wp2_with fail
    ((with_reducible refine hi.out.mono ?_); rintro e w1 ⟨rfl, b1⟩)
    go_wp2_with fail
    go_ret2
    exact ⟨rfl, b_call (b_alloc (Below.refl _ _) _) b1⟩
  · have hneg : decide (fi < 0) = false := by simp; omega
    go_enter Tryz.func139, Tryz.ntmps139
    go_wp2_with fail
    ((with_reducible refine hi.out.mono ?_); rintro e w1 ⟨rfl, b1⟩)
    go_wp2_with fail
    go_ret2
    exact ⟨rfl, b_call (b_alloc (Below.refl _ _) _) b1⟩
end Go.Proofs.YtpcnhldlfmdlhaaGreat

namespace Go.Proofs.YtpcnhldlfmdlhaaGreat
open Go.RowKit

theorem info_F : (Tryz.prog.info? 154).map (fun i => (i.zero, i.size, i.bytes)) = some (some (.agg #[.string ⟨#[]⟩, .int .i64 0, .slice none 0 0]), 3, 48) := by kernel_rfl

/-- No two of the records have the same block for their waiters. -/
def SepF (rs : List (XR Flight)) : Prop := rs.Pairwise fun p q => ∀ b, (p.v (·.waiters)).ownBlock = some b → (q.v (·.waiters)).ownBlock ≠ some b
def OFlightP (w : World) (B : Nat) (v : Value) (l : List Flight) : Prop := ∃ rs : List (XR Flight), rs.map (·.x) = l ∧ OS 154 3 (xc cFlight (·.waiters)) w B v rs ∧ (∀ r ∈ rs, CO 3 1 cI B w (r.v (·.waiters)) r.x.waiters) ∧ SepF rs
theorem OFlightP.plain {w : World} {B : Nat} {v : Value} {l : List Flight} (h : OFlightP w B v l) : OFlight w B v l := by
  obtain ⟨rs, h1, h2, h3, -⟩ := h
  exact ⟨rs, h1, h2, h3⟩
theorem OFlightP.nil {w : World} {B : Nat} : OFlightP w B (.slice none 0 0) [] := ⟨[], rfl, OS.nil, fun r h => by simp at h, .nil⟩
theorem OFlightP.grow {B : Nat} {W w' : World} {v v' : Value} {rs : List (XR Flight)} {r : XR Flight}
    (hO : OS 154 3 (xc cFlight (·.waiters)) w' B v' (rs ++ [r])) (hg : W.grownBy w' v.ownBlock) (hv : OS 154 3 (xc cFlight (·.waiters)) W B v rs)
    (hc : ∀ q ∈ rs, CO 3 1 cI B W (q.v (·.waiters)) q.x.waiters) (hr : CO 3 1 cI B W (r.v (·.waiters)) r.x.waiters) (hs : SepF rs) (hn : ∀ p ∈ rs, ∀ b, (p.v (·.waiters)).ownBlock = some b → (r.v (·.waiters)).ownBlock ≠ some b) : OFlightP w' B v' (rs.map (·.x) ++ [r.x]) := by
  refine ⟨rs ++ [r], by simp, hO, fun q hq => ?_, List.pairwise_append.2 ⟨hs, List.pairwise_singleton _ _, fun p hp q hq => by rw [List.mem_singleton] at hq; subst hq; exact hn p hp⟩⟩
  rcases List.mem_append.1 hq with hq | hq
  · exact OS.apart hv (hc q hq) (by decide) hg
  · simp only [List.mem_singleton] at hq
    subst hq
    exact OS.apart hv hr (by decide) hg
/-- What Copy answers: a full row of its own. -/
def CopiedFlightP (l : List Flight) (w : World) (e : Ending) (w' : World) : Prop :=
  e = .returned (.slice (some ⟨w.heap.size, 0, none⟩) l.length l.length) ∧ OFlightP w' w.heap.size (.slice (some ⟨w.heap.size, 0, none⟩) l.length l.length) l ∧ Below w.heap.size w w'
def CopiedFlight (l : List Flight) (w : World) (e : Ending) (w' : World) : Prop :=
  e = .returned (.slice (some ⟨w.heap.size, 0, none⟩) l.length l.length) ∧ OFlight w' w.heap.size (.slice (some ⟨w.heap.size, 0, none⟩) l.length l.length) l ∧ Below w.heap.size w w'

set_option maxRecDepth 100000 in
set_option maxHeartbeats 1000000 in
theorem flight_CopyP (v : Value) (l : List Flight) (w : World) (h : RF w v l) : Calls Tryz.prog 134 #[v] w (CopiedFlightP l w) := by
  obtain ⟨i0, hi, hz0, hz1, hz2⟩ := info_parts info_F
  obtain ⟨a, c, rfl, hlc, hcm, hre, hno, hat⟩ := h
  unfold maxLen at hcm
  replace hat := hid hat
  clear hno
  obtain ⟨w1, hmk, how, hgr⟩ := run_make_own w w.heap.size 33 154 i0 _ 3 Tryz.underlying33 hi hz0 hz1 .i64 .i64 l.length (by rw [hz2]; omega) (by simp [maxLen]; omega) (Nat.le_refl _)
  have hb1 : Hid (Below w.heap.size w w1) := hid (b_grown (v := .slice none 0 0) (Below.refl _ _) hgr (fun k hk => by simp [Value.ownBlock] at hk))
  have ho1 : Hid (OFlightP w1 w.heap.size (.slice (some ⟨w.heap.size, 0, none⟩) 0 l.length) (l.take 0)) := hid ⟨[], rfl, how, fun r hr => by simp at hr, .nil⟩
  have hBs : w.heap.size ≤ w1.heap.size := hb1.out.size
  clear how hgr
  unfold CopiedFlightP
  generalize hB : w.heap.size = B at ho1 hb1 hBs hmk ⊢
  replace hB := hid hB
  go_enter Tryz.func134, Tryz.ntmps134
  go_wp2_with fail
  clear hmk
  go_loopw [3, 5, 11] (fun o _ i wr => ∃ k : Nat, k ≤ l.length ∧ i = .int .i64 k ∧ o = .slice (some ⟨B, 0, none⟩) k l.length ∧ Hid (OFlightP wr B (.slice (some ⟨B, 0, none⟩) k l.length) (l.take k)) ∧ Hid (Below B w wr)) (fun _ _ i _ => l.length - (intOf i).toNat)
  case atStart => exact ⟨0, by omega, rfl, rfl, ho1, hb1⟩
  case round =>
    obtain ⟨k, hk, rfl, rfl, hO, hb⟩ := hrel
    have hsB : B ≤ wr.heap.size := by have := hb.out.size; have := hB.out; omega
    by_cases hlt : k < l.length
    · have hx : l[k]? = some l[k] := List.getElem?_eq_getElem hlt
      have htk := hid (List.take_succ_eq_append_getElem hlt)
      generalize l[k] = x at hx htk
      obtain ⟨bb, off, rfl, hbb, he⟩ := hat.out k _ hx
      obtain ⟨dv, c0, c1, c2, rdv, okx⟩ := EFlight.stable _ _ _ _ _ (hB.out ▸ hb.out) hbb he
      have hbw : bb < wr.heap.size := Nat.lt_of_lt_of_le hbb (hB.out ▸ hb.out).size
      obtain ⟨da, dc, rfl, -⟩ := id rdv
      replace rdv := hid (rdv.mono EI.stable (b_alloc (Below.refl _ wr) (Obj.cells #[.string x.key, .int .i64 x.leader, .slice da x.waiters.length dc] 154)))
      clear he hx
      go_wp2_with fail
      ((with_reducible refine (slices_Clone_int _ x.waiters _ rdv.out).mono ?_); rintro e w2 ⟨cv, rfl, hcv, b2⟩)
      have hq := (b2.block wr.heap.size (by simp)).trans (heap_alloc_new wr _)
      have e0 := cell_of_row w2 wr.heap.size 0 _ _ _ hq
      have e1 := cell_of_row w2 wr.heap.size 1 _ _ _ hq
      have e2 : w2.cell? ⟨wr.heap.size, 2, none⟩ = some (.slice da x.waiters.length dc) := cell_of_row w2 wr.heap.size 2 _ _ _ hq
      have f2 : w2.frozen? ⟨wr.heap.size, 2, none⟩ = false := Lib.frozen_of_heap hq 2
      have hs2 : wr.heap.size < w2.heap.size := by have := b2.size; simp at this; omega
      obtain ⟨ca, cc, rfl, -⟩ := OS.len_le hcv
      simp at e0 e1 e2
      have hW : Hid (Below wr.heap.size wr ((w2.setCell ⟨wr.heap.size, 2, none⟩ (.slice ca x.waiters.length cc)).alloc (Obj.cells #[.string x.key, .int .i64 x.leader, .slice ca x.waiters.length cc] 154))) :=
        hid (b_alloc (b_set (b_call (b_alloc (Below.refl _ wr) _) b2) (Nat.le_refl _) _) _)
      have hcr : Hid (CO 3 1 cI B ((w2.setCell ⟨wr.heap.size, 2, none⟩ (.slice ca x.waiters.length cc)).alloc (Obj.cells #[.string x.key, .int .i64 x.leader, .slice ca x.waiters.length cc] 154)) (.slice ca x.waiters.length cc) x.waiters) :=
        hid (OS.alloc (OS.mono (OS.setOld hcv (by simp)) (by simp; omega)) _)
      obtain ⟨rs, hrs, hown, hcs, hsep⟩ := hO.out
      have hnew := hid (fun p hp b e1 e2 => by
        have h1 := (World.ownsRow.lt (hcs p hp) b e1).2
        have h2 := (World.ownsRow.lt hcv b e2).1
        simp at h2
        omega : ∀ p ∈ rs, ∀ b, (p.v (·.waiters)).ownBlock = some b → (Value.slice ca x.waiters.length cc).ownBlock ≠ some b)
      replace hsep := hid hsep
      have hrl : rs.length = k := by have := congrArg List.length hrs; simp at this; omega
      have hown' := hid (hown.below hW.out)
      have hcs' := hid (fun q hq => (CO.below hW.out _ _ (hcs q hq) : CO 3 1 cI B _ _ _))
      have hrow := hid (row_one (s := 3) (bs := 48) (cells := xc cFlight (·.waiters)) (w2.setCell ⟨wr.heap.size, 2, none⟩ (.slice ca x.waiters.length cc)) 154 ⟨x, ca, cc⟩ #[.string x.key, .int .i64 x.leader, .slice ca x.waiters.length cc] w2.heap.size (by simp) rfl (by decide))
      replace hrs := hid hrs
      replace hb := hid (hb.out.trans (hW.out.mono hsB))
      clear hcv b2 hq hO hcs rdv
      subst hrl
      go_wp2_with (at_builtin; go_must (refine wpL_append_room flat_cFlight rfl (.tmp 19) (.tmp 21) 33 rfl 154 i0 Tryz.underlying33 hi hz1 B B _ _ rs rfl hown'.out _ [⟨x, ca, cc⟩] rfl hrow.out (by simp; omega) ?_))
      intro w3 hown3 hg3
      have hO3 := hid (OFlightP.grow hown3 hg3 hown'.out hcs'.out hcr.out hsep.out hnew.out)
      have hb3 := hid (hb.out.grown hg3 (by have := hW.out.size; omega) (fun k hk => by simp at hk; omega))
      have hxs : Hid (rs.map (·.x) ++ [x] = l.take (rs.length + 1)) := hid (by rw [hrs.out, htk.out])
      simp only [hxs.out] at hO3
      clear hown3 hg3 hown' hcs' hcr hrow hb hW hxs hsep hnew
      go_wp2_with fail
      go_roundw
      case rel => exact ⟨rs.length + 1, by omega, by go_num, rfl, hO3, hb3⟩
      case measure => simp [intOf]; omega
    · obtain rfl : k = l.length := by omega
      rw [List.take_length] at hO
      go_wp2_with fail
      go_ret
      exact ⟨rfl, hO.out, hb.out⟩
theorem flight_Copy (v : Value) (l : List Flight) (w : World) (h : RF w v l) : Calls Tryz.prog 134 #[v] w (CopiedFlight l w) :=
  (flight_CopyP v l w h).mono fun _ _ h => ⟨h.1, h.2.1.plain, h.2.2⟩
end Go.Proofs.YtpcnhldlfmdlhaaGreat

namespace Go.Proofs.YtpcnhldlfmdlhaaGreat
open Go.RowKit

end Go.Proofs.YtpcnhldlfmdlhaaGreat

namespace Go.Proofs.YtpcnhldlfmdlhaaGreat
open Go.RowKit

def RCopiedFlightP (l : List Flight) (w : World) (e : Ending) (w' : World) : Prop :=
  ∃ v', e = .returned v' ∧ OFlightP w' w.heap.size v' l ∧ Below w.heap.size w w'
def RCopiedFlight (l : List Flight) (w : World) (e : Ending) (w' : World) : Prop :=
  ∃ v', e = .returned v' ∧ OFlight w' w.heap.size v' l ∧ Below w.heap.size w w'

set_option maxRecDepth 100000 in
set_option maxHeartbeats 1000000 in
theorem ref_FlightsCopyP (v : Value) (l : List Flight) (w : World) (h : RF w v l) : Calls Tryz.prog 146 #[v] w (RCopiedFlightP l w) := by
  obtain ⟨i0, hi, hz0, hz1, hz2⟩ := info_parts info_F
  obtain ⟨j0, hj, jz0, jz1, jz2⟩ := info_parts info_int
  obtain ⟨a, c, rfl, hlc, hcm, hre, hno, hat⟩ := h
  unfold maxLen at hcm
  replace hat := hid hat
  clear hno
  have hb1 : Hid (Below w.heap.size w w) := hid (Below.refl _ _)
  have ho1 : Hid (OFlightP w w.heap.size (.slice none 0 0) (l.take 0)) := hid OFlightP.nil
  unfold RCopiedFlightP
  generalize hB : w.heap.size = B at ho1 hb1 ⊢
  replace hB := hid hB
  go_enter Tryz.func146, Tryz.ntmps146
  go_wp2_with fail
  go_loopw [3, 5, 8] (fun o _ i wr => ∃ k : Nat, k ≤ l.length ∧ i = .int .i64 k ∧ Hid (OFlightP wr B o (l.take k)) ∧ Hid (Below B w wr)) (fun _ _ i _ => l.length - (intOf i).toNat)
  case atStart => exact ⟨0, by omega, rfl, ho1, hb1⟩
  case round =>
    obtain ⟨k, hk, rfl, hO, hb⟩ := hrel
    have hsB : B ≤ wr.heap.size := by have := hb.out.size; have := hB.out; omega
    by_cases hlt : k < l.length
    · have hx : l[k]? = some l[k] := List.getElem?_eq_getElem hlt
      have htk := hid (List.take_succ_eq_append_getElem hlt)
      generalize l[k] = x at hx htk
      obtain ⟨bb, off, rfl, hbb, he⟩ := hat.out k _ hx
      obtain ⟨dv, c0, c1, c2, rdv, okx⟩ := EFlight.stable _ _ _ _ _ (hB.out ▸ hb.out) hbb he
      have hbw : bb < wr.heap.size := Nat.lt_of_lt_of_le hbb (hB.out ▸ hb.out).size
      have hrl : x.waiters.length * 8 ≤ 140737488351232 := by obtain ⟨_, _, _, _, _, hr, _⟩ := rdv; exact hr
      obtain ⟨da, dc, rfl, -⟩ := id rdv
      have hq := heap_alloc_new wr (Obj.cells #[.string x.key, .int .i64 x.leader, .slice da x.waiters.length dc] 154)
      have e0 : (wr.alloc (Obj.cells #[.string x.key, .int .i64 x.leader, .slice da x.waiters.length dc] 154)).cell? ⟨wr.heap.size, 0, none⟩ = some (.string x.key) := cell_of_row _ wr.heap.size 0 _ _ _ hq
      have e1 : (wr.alloc (Obj.cells #[.string x.key, .int .i64 x.leader, .slice da x.waiters.length dc] 154)).cell? ⟨wr.heap.size, 1, none⟩ = some (.int .i64 x.leader) := cell_of_row _ wr.heap.size 1 _ _ _ hq
      have e2 : (wr.alloc (Obj.cells #[.string x.key, .int .i64 x.leader, .slice da x.waiters.length dc] 154)).cell? ⟨wr.heap.size, 2, none⟩ = some (.slice da x.waiters.length dc) := cell_of_row _ wr.heap.size 2 _ _ _ hq
      replace rdv := hid (rdv.mono EI.stable (b_alloc (Below.refl _ wr) (Obj.cells #[.string x.key, .int .i64 x.leader, .slice da x.waiters.length dc] 154)))
      obtain ⟨rs, hrs, hown, hcs, hsep⟩ := hO.out
      have hblt := hid (fun p (hp : p ∈ rs) b e1 => (World.ownsRow.lt (hcs p hp) b e1).2)
      replace hsep := hid hsep
      have hrl2 : rs.length = k := by have := congrArg List.length hrs; simp at this; omega
      have hown1 := hid (OS.alloc hown (Obj.cells #[.string x.key, .int .i64 x.leader, .slice da x.waiters.length dc] 154))
      have hcs1 := hid (fun q hq => OS.alloc (show OS 3 1 cI wr B _ _ from hcs q hq) (Obj.cells #[.string x.key, .int .i64 x.leader, .slice da x.waiters.length dc] 154))
      replace hrs := hid hrs
      have hba := hid (b_alloc (Below.refl _ wr) (Obj.cells #[.string x.key, .int .i64 x.leader, .slice da x.waiters.length dc] 154))
      have hlow := hid (OS.block hown)
      have hne := fun e => Nat.lt_irrefl _ ((World.ownsRow.lt hown wr.heap.size e).2)
      have hltw : wr.heap.size < (wr.alloc (Obj.cells #[.string x.key, .int .i64 x.leader, .slice da x.waiters.length dc] 154)).heap.size := by simp
      clear he hx hq hown hcs hO
      subst hrl2
      go_wp2_with fail
      generalize wr.alloc (Obj.cells #[.string x.key, .int .i64 x.leader, .slice da x.waiters.length dc] 154) = wa at *
      generalize wr.heap.size = q at *
      go_region_held3 (fun w' => w'.cell? ⟨q, 0, none⟩ = some (.string x.key) ∧ w'.cell? ⟨q, 1, none⟩ = some (.int .i64 x.leader) ∧ w'.cell? ⟨q, 2, none⟩ = some (.slice da x.waiters.length dc))
        (first
          | go_keep
          | (go_split_ands
             refine ⟨?_, ?_, ?_⟩ <;> (rw [hgrow.cell_far _ (by simp; omega) (show some q ≠ none from fun e => by cases e)]; assumption))
          | (go_split_ands
             refine ⟨?_, ?_, ?_⟩ <;> (rw [hgrow.cell_far _ (by simp; omega) (fun e => hne e.symm)]; assumption)))
        ((first
          | (refine stepL_append (o := ⟨some 19, _, _, _, _, _⟩) (v := .slice none 0 0) (l := []) (m := x.waiters) (B := q + 1) flat_i (by rfl) (.const (.slice none 0 0)) (.tmp 18) 43 (by rfl) 3 j0 _ Tryz.underlying43 hj jz0 jz1 jz2 rfl (by rfl) OS.nil _ (by rfl) rdv.out (by simp; omega) (by simp [maxLen]; omega) (by simp; omega) ?_; intro cv w5 hcv hgrow; rw [List.nil_append] at hcv; obtain ⟨ca, cc, rfl, -⟩ := OS.len_le hcv
             have hs5 : q < w5.heap.size := Nat.lt_of_lt_of_le hltw hgrow.size
             have hown5 := hid (OS.grew (OS.drew hown1.out) hgrow)
             have hcs5 := hid (fun p hp => OS.grew (OS.drew (hcs1.out p hp)) hgrow)
             have hb5 : Hid (Below q wr w5) := hid (hba.out.drew.grown hgrow (Nat.le_of_lt hltw) (fun k hk => by simp [Value.ownBlock] at hk)))
          | (refine stepL_append (o := ⟨some 22, _, _, _, _, _⟩) (l := rs) (m := [⟨x, ca, cc⟩]) (B := B) flat_cFlight (by rfl) (.tmp 12) (.tmp 21) 33 (by rfl) 154 i0 _ Tryz.underlying33 hi hz0 hz1 hz2 rfl _ (by rfl) (OS.alloc (OS.grew (OS.drew hown1.out) hgrow) _) (.slice (some ⟨w5.heap.size, 0, none⟩) 1 1) (by rfl) (row_one (s := 3) (bs := 48) (cells := xc cFlight (·.waiters)) w5 154 ⟨x, ca, cc⟩ #[.string x.key, .int .i64 x.leader, .slice ca x.waiters.length cc] _ rfl rfl (by decide)) (by simp; omega) (by simp [maxLen]; omega) (by have := hgrow.size; simp at this ⊢; omega) ?_; intro v3 w6 hown3 hgrow; obtain ⟨a3, k3, rfl, -⟩ := id (OS.len_le hown3))))
      have hnew := hid (fun p hp b e1 e2 => by
        have h1 := hblt.out p hp b e1
        have h2 := (World.ownsRow.lt hcv b e2).1
        omega : ∀ p ∈ rs, ∀ b, (p.v (·.waiters)).ownBlock = some b → (Value.slice ca x.waiters.length cc).ownBlock ≠ some b)
      have hO3 := hid (OFlightP.grow hown3 hgrow (OS.alloc hown5.out _) (fun p hp => OS.alloc (hcs5.out p hp) _) (OS.alloc (OS.mono hcv (by omega)) _) hsep.out hnew.out)
      have hb6 := hid (((hb.out.trans (hb5.out.mono hsB)).alloc (by omega) (Obj.cells #[.string x.key, .int .i64 x.leader, .slice ca x.waiters.length cc] 154)).grown hgrow (by simp; omega) hlow.out)
      have hxs : Hid (rs.map (·.x) ++ [x] = l.take (rs.length + 1)) := hid (by rw [hrs.out, htk.out])
      simp only [hxs.out, List.length_append, List.length_cons, List.length_nil, Nat.zero_add] at hO3
      clear hown3 hgrow hown5 hcs5 hcv hb hb5 hxs hown1 hcs1 hsep hnew hblt
      go_wp2_with fail
      go_roundw
      case rel => exact ⟨rs.length + 1, by omega, by go_num, hO3, hb6⟩
      case measure => simp [intOf]; omega
    · obtain rfl : k = l.length := by omega
      rw [List.take_length] at hO
      go_wp2_with fail
      go_ret
      exact ⟨_, rfl, hO.out, hb.out⟩
theorem ref_FlightsCopy (v : Value) (l : List Flight) (w : World) (h : RF w v l) : Calls Tryz.prog 146 #[v] w (RCopiedFlight l w) :=
  (ref_FlightsCopyP v l w h).mono fun _ _ ⟨v', h1, h2, h3⟩ => ⟨v', h1, h2.plain, h3⟩
end Go.Proofs.YtpcnhldlfmdlhaaGreat

namespace Go.Proofs.YtpcnhldlfmdlhaaGreat
open Go.RowKit

set_option maxRecDepth 100000 in
set_option maxHeartbeats 400000 in
theorem ref_FlightAt (v : Value) (l : List Flight) (s : ByteArray) (w : World) (h : RF w v l) :
    Calls Tryz.prog 145 #[v, .string s] w fun e w' => e = .returned (.int .i64 (atKey (·.key) s l : Nat)) ∧ w = w' := by
  obtain ⟨a, c, rfl, hlc, hcm, hre, hno, hat⟩ := h
  unfold maxLen at hcm
  replace hat := hid hat
  have hy := hid (fun k x hx hq ha => atKey_hit (f := fun x : Flight => x.key) (s := s) (l := l) (k := k) (x := x) hx hq ha)
  have hn := hid (fun ha => atKey_miss (f := fun x : Flight => x.key) (s := s) (l := l) ha)
  clear hno
  go_enter Tryz.func145, Tryz.ntmps145
  go_wp2_with fail
  go_loopw [5] (fun i wr => ∃ k : Nat, k ≤ l.length ∧ i = .int .i64 k ∧ Hid (∀ j y, j < k → l[j]? = some y → (y.key.toList == s.toList) = false) ∧ wr = w) (fun i _ => l.length - (intOf i).toNat)
  case atStart => exact ⟨0, by omega, rfl, hid (fun j x hj => by omega), rfl⟩
  case round =>
    obtain ⟨k, hk, rfl, hall, rfl⟩ := hrel
    by_cases hlt : k < l.length
    · have hx : l[k]? = some l[k] := List.getElem?_eq_getElem hlt
      generalize l[k] = x at hx
      obtain ⟨bb, off, rfl, hbb, he⟩ := hat.out k _ hx
      obtain ⟨dv, c0, c1, c2, rdv, okx⟩ := he
      have hy1 := hid (fun hq => hy.out k x hx hq hall.out)
      have hnx := hid (fun (hq : (x.key.toList == s.toList) = false) => upto_next_l (q := fun y : Flight => y.key.toList == s.toList) hall.out hx hq)
      clear hx rdv
      cases hq : (x.key.toList == s.toList) with
      | true =>
        have hq2 : (x.key.toList != s.toList) = false := by simp [bne, hq]
        have hr := hid (hy1.out hq)
        clear hall
        go_wp2_with fail
        go_ret
        exact ⟨ret_i (by rw [hr.out]), rfl⟩
      | false =>
        have hq2 : (x.key.toList != s.toList) = true := by simp [bne, hq]
        have hr := hid (hnx.out hq)
        clear hall
        go_wp2_with fail
        go_roundw
        case rel => exact ⟨k + 1, by omega, by go_num, hr, trivial⟩
        case measure => simp [intOf]; omega
    · obtain rfl : k = l.length := by omega
      have hr := hid (hn.out (fun j x hj => hall.out j x (List.getElem?_eq_some_iff.1 hj).1 hj))
      clear hall
      go_wp2_with fail
      go_ret
      exact ⟨ret_i (by rw [hr.out]), rfl⟩
end Go.Proofs.YtpcnhldlfmdlhaaGreat

namespace Go.Proofs.YtpcnhldlfmdlhaaGreat
open Go.RowKit

set_option maxRecDepth 100000 in
set_option maxHeartbeats 400000 in
theorem eq1_F (x : Flight) (da db : Value) (w : World) (ha : RI w da x.waiters) (hb : RI w db x.waiters) :
    Calls Tryz.prog 148 #[.agg #[.string x.key, .int .i64 x.leader, da], .agg #[.string x.key, .int .i64 x.leader, db]] w fun e w' => e = .returned (.bool true) ∧ Below w.heap.size w w' := by
  have hA := hid ha
  have hB := hid hb
  obtain ⟨a1, c1, rfl, -⟩ := ha
  obtain ⟨a2, c2, rfl, -⟩ := hb
  have hq : (x.key.toList == x.key.toList) = true := by simp
  go_enter Tryz.func148, Tryz.ntmps148
  go_wp2_with fail
  ((with_reducible refine (law_sameInts_yes _ _ _ x.waiters (hA.out.mono EI.stable (b_alloc (b_alloc (Below.refl _ _) _) _)) (hB.out.mono EI.stable (b_alloc (b_alloc (Below.refl _ _) _) _))).mono ?_); rintro e w1 ⟨rfl, b1⟩)
  have hb1 := hid (b_call (b_alloc (b_alloc (Below.refl w.heap.size w) _) _) b1)
  obtain ⟨bc, bf⟩ := bcell b1
  clear b1
  go_wp2_with fail
  go_ret
  exact ⟨rfl, hb1.out⟩

set_option maxRecDepth 100000 in
set_option maxHeartbeats 400000 in
theorem eqFunc_F (a b : Value) (w : World) (l : List Flight) (ha : RF w a l) (hb : RF w b l) :
    Calls Tryz.prog 147 #[a, b, .func (.func 148) #[] #[]] w fun e w' => e = .returned (.bool true) ∧ Below w.heap.size w w' := by
  obtain ⟨a0, ca, rfl, hla, hca, hre, _, hA⟩ := ha
  obtain ⟨b0, cb, rfl, hlb, hcb, _, _, hB⟩ := hb
  unfold maxLen at hca hcb
  replace hA := hid hA
  replace hB := hid hB
  have eg : ∀ args w, (callFunc 148 args).run Tryz.prog w = .ok (.enter 148 args) w := enters_of Tryz.func148 (by kernel_rfl) rfl
  go_enter Tryz.func147, Tryz.ntmps147
  go_wp2_with fail
  go_loopw [7, 8, 9, 17] (fun _ _ _ i wr => ∃ (k : Nat), i = .int .i64 (k : Int) ∧ k ≤ l.length ∧ Hid (Below w.heap.size w wr)) (fun _ _ _ i _ => l.length - (intOf i).toNat)
  case atStart => exact ⟨0, rfl, by omega, hid (Below.refl _ _)⟩
  case round =>
    obtain ⟨k, rfl, hk, hb⟩ := hrel
    by_cases hlt : k < l.length
    · have hx : l[k]? = some l[k] := List.getElem?_eq_getElem hlt
      generalize l[k] = x at hx
      obtain ⟨b1, o1, rfl, hb1, h1⟩ := hA.out k _ hx
      obtain ⟨b2, o2, rfl, hb2, h2⟩ := hB.out k _ hx
      obtain ⟨d1, x0, x1, x2, r1, -⟩ := EFlight.stable _ _ _ _ _ hb.out hb1 h1
      obtain ⟨d2, y0, y1, y2, r2, -⟩ := EFlight.stable _ _ _ _ _ hb.out hb2 h2
      have hl1 : b1 < wr.heap.size := Nat.lt_of_lt_of_le hb1 hb.out.size
      have hl2 : b2 < wr.heap.size := Nat.lt_of_lt_of_le hb2 hb.out.size
      have hR1 := hid r1
      have hR2 := hid r2
      obtain ⟨e1, g1, rfl, -⟩ := r1
      obtain ⟨e2, g2, rfl, -⟩ := r2
      clear hx h1 h2
      go_wp2_with fail
      ((with_reducible refine (eq1_F x _ _ _ (hR1.out.mono EI.stable (b_alloc (b_alloc (Below.refl _ _) _) _)) (hR2.out.mono EI.stable (b_alloc (b_alloc (Below.refl _ _) _) _))).mono ?_); rintro e w1 ⟨rfl, b1'⟩)
      have hb' := hid (b_call (b_alloc (b_alloc hb.out _) _) b1')
      clear b1'
      go_wp2_with fail
      go_roundw
      case rel => exact ⟨k + 1, by go_num, by omega, hb'⟩
      case measure => simp [intOf]; omega
    · go_wp2_with fail
      go_ret
      exact ⟨rfl, hb.out⟩

set_option maxRecDepth 100000 in
theorem law_sameFlights_yes (a b : Value) (w : World) (l : List Flight) (ha : RF w a l) (hb : RF w b l) :
    Calls Tryz.prog 69 #[a, b] w fun e w' => e = .returned (.bool true) ∧ Below w.heap.size w w' := by
  go_enter Tryz.func69, Tryz.ntmps69
  go_wp2_with fail
  ((with_reducible refine (eqFunc_F _ _ _ _ ha hb).mono ?_); rintro e w1 ⟨rfl, h1⟩)
  go_wp2_with fail
  go_ret
  exact ⟨rfl, h1⟩
end Go.Proofs.YtpcnhldlfmdlhaaGreat

namespace Go.Proofs.YtpcnhldlfmdlhaaGreat
open Go.RowKit

/-- A record no part of which is larger than an argument may be. -/
def FitFlight (x : Flight) : Prop := okFlight x ∧ x.waiters.length * 8 ≤ 140737488351232 ∧ ∀ n ∈ x.waiters, (Lit.int .i64 n).wf = true
theorem fit_F {w : World} {v : Value} {l : List Flight} (h : RF w v l) : ∀ x ∈ l, FitFlight x := by
  intro x hx
  obtain ⟨i, hi⟩ := List.getElem?_of_mem hx
  obtain ⟨a, c, rfl, _, _, _, _, hat⟩ := h
  obtain ⟨b, o, _, _, he⟩ := hat i x hi
  obtain ⟨dv, _, _, _, rdv, okx⟩ := he
  obtain ⟨_, _, _, _, _, hr, _, hat⟩ := rdv
  refine ⟨okx, hr, fun p hp => ?_⟩
  obtain ⟨j, hj⟩ := List.getElem?_of_mem hp
  obtain ⟨_, _, _, _, _, q⟩ := hat j p hj
  exact q
theorem OFlight.toR {w : World} {B : Nat} {v : Value} {l : List Flight} (h : OFlight w B v l) (hb : l.length * 48 ≤ 140737488351232) (hf : ∀ x ∈ l, FitFlight x) : RF w v l :=
  reads_F h hb (fun x _ hx hc => OS.reads (cells := cI) (fun _ => rfl) (by decide) (fun b o n hn hc => ⟨hc 0 (by omega), (hf x hx).2.2 n hn⟩) hc (hf x hx).2.1) (fun x hx => (hf x hx).1)
end Go.Proofs.YtpcnhldlfmdlhaaGreat
