import Derived.Test.YtpkpgehiplhkpaaGreatTzOpC
import Derived.Shelf.Abstract
import Derived.StillTailTactics
import Derived.Deep.RegionHeld3
namespace Go.Proofs.YtpkpgehiplhkpaaGreat
open Go.RowKit
theorem qtzke_1 {P : Prop} (h : P := by
 go_enter Tryz.func51, Tryz.ntmps51
 go_wp2_with fail
 ((with_reducible refine hi.out.mono ?_); rintro e w1 ⟨rfl, b1⟩)
 go_wp2_with fail
 go_ret2
 exact ⟨rfl, b_call (b_alloc (Below.refl _ _) _) b1⟩) : P := h
def cEntry (x : Entry) (dv : Value) : List Value := [.string x.key, dv, .int .i64 x.pins, .int .i64 x.stamp]
def okEntry (x : Entry) : Prop := x.key.size ≤ 140737488351232 ∧ (Lit.int .i64 x.pins).wf = true ∧ (Lit.int .i64 x.stamp).wf = true
theorem xcEntry_len (r : XR Entry) : (xc cEntry (·.parts) r).length = 4 := rfl
theorem xcEntry_one (r : XR Entry) (u : Value) (h : u ∈ xc cEntry (·.parts) r) : u.oneCell' = true := by
 simp [xc, cEntry, XR.v] at h
 rcases h with rfl | rfl | rfl | rfl <;> rfl
theorem flat_cEntry : Flat 4 (xc cEntry (·.parts)) (ERaw (xc cEntry (·.parts))) := flat_raw (by decide) xcEntry_len xcEntry_one
theorem EEntry_iff (w : World) (b o : Nat) (x : Entry) : EEntry w b o x ↔ EX cEntry (·.parts) 3 40 EPart okEntry w b o x := by
 constructor
 · rintro ⟨dv, h0, h1, h2, h3, h5, h6⟩
   refine ⟨dv, fun j u hj => ?_, h5, h6⟩
   rcases j with _ | _ | _ | _ | j <;> simp [cEntry] at hj <;> subst hj <;> assumption
 rintro ⟨dv, h, h5, h6⟩
 exact ⟨dv, h 0 _ rfl, h 1 _ rfl, h 2 _ rfl, h 3 _ rfl, h5, h6⟩
def OEntry (w : World) (B : Nat) (v : Value) (l : List Entry) : Prop := OX 62 4 cEntry (·.parts) (CO 67 3 cPart B) w B v l
theorem reads_E {w : World} {B : Nat} {v : Value} {l : List Entry} (h : OEntry w B v l) (hb : l.length * 56 ≤ 140737488351232) (hC : ∀ x v, x ∈ l → CO 67 3 cPart B w v x.parts → RP w v x.parts) (ho : ∀ x ∈ l, okEntry x) : RE w v l :=
 RS.iff (fun b o x hx => (EEntry_iff w b o x).2 hx) (OX.reads (by decide) xcEntry_len h hb hC ho)
set_option maxRecDepth 100000 in
set_option maxHeartbeats 400000 in
theorem idxFunc_E (g : Nat) (lb : Array Value) (q : Entry → Bool) (eg : ∀ args w, (callFunc g args).run Tryz.prog w = .ok (.enter g args) w) (v : Value) (l : List Entry) (w : World) (h : RE w v l)
 (hp : ∀ W x dv, Below w.heap.size w W → okEntry x → RP W dv x.parts → Calls Tryz.prog g (#[.agg #[.string x.key, dv, .int .i64 x.pins, .int .i64 x.stamp]] ++ lb) W fun e w' => e = .returned (.bool (q x)) ∧ Below W.heap.size W w') :
 Calls Tryz.prog 107 #[v, .func (.func g) #[] lb] w fun e w' => e = .returned (.int .i64 (idxOf q l)) ∧ Below w.heap.size w w' := by
 obtain ⟨a, c, rfl, hlc, hcm, hre, hno, hat⟩ := h
 unfold maxLen at hcm
 replace hat := hid hat
 replace hp := hid hp
 have hy := hid (fun k x hx hq ha => idxOf_hit (q := q) (l := l) (k := k) (x := x) hx hq ha)
 have hn := hid (fun ha => idxOf_miss (q := q) (l := l) ha)
 clear hno
 go_enter Tryz.func107, Tryz.ntmps107
 go_wp2_with fail
 go_loopw [5, 8] (fun _ i wr => ∃ k : Nat, k ≤ l.length ∧ i = .int .i64 k ∧ Hid (∀ j x, j < k → l[j]? = some x → q x = false) ∧ Hid (Below w.heap.size w wr)) (fun _ i _ => l.length - (intOf i).toNat)
 case atStart => exact ⟨0, by omega, rfl, hid (fun j x hj => by omega), hid (Below.refl _ _)⟩
 obtain ⟨k, hk, rfl, hall, hb⟩ := hrel
 by_cases hlt : k < l.length
 · have hx : l[k]? = some l[k] := List.getElem?_eq_getElem hlt
   generalize l[k] = x at hx
   obtain ⟨bb, off, rfl, hbb, he⟩ := hat.out k _ hx
   obtain ⟨dv, c0, c1, c2, c3, rdv, okx⟩ := EEntry.stable _ _ _ _ _ hb.out hbb he
   have hbw : bb < wr.heap.size := Nat.lt_of_lt_of_le hbb hb.out.size
   have hcall := hp.out wr x dv hb.out okx rdv
   have hy1 := hid (fun hq => hy.out k x hx hq hall.out)
   have hnx := hid (fun (hq : q x = false) => upto_next_l hall.out hx hq)
   clear hx he rdv
   cases hq : q x with
   | true =>
     rw [hq] at hcall
     replace hcall := hid hcall
     have hr := hid (hy1.out hq)
     clear hq hall
     go_wp2_with fail
     ((with_reducible refine hcall.out.mono ?_); rintro e w1 ⟨rfl, b1⟩)
     go_wp2_with fail
     go_ret
     exact ⟨ret_i hr.out.symm, b_call hb.out b1⟩
   | false =>
     rw [hq] at hcall
     replace hcall := hid hcall
     have hr := hid (hnx.out hq)
     clear hq hall
     go_wp2_with fail
     ((with_reducible refine hcall.out.mono ?_); rintro e w1 ⟨rfl, b1⟩)
     have hb1 := hid (b_call hb.out b1)
     clear b1
     go_wp2_with fail
     go_roundw
     case rel => exact ⟨k + 1, by omega, by go_num, hr, hb1⟩
     case measure => simp [intOf]; omega
 obtain rfl : k = l.length := by omega
 have hr := hid (hn.out (fun j x hj => hall.out j x (List.getElem?_eq_some_iff.1 hj).1 hj))
 clear hall
 go_wp2_with fail
 go_ret
 exact ⟨ret_i hr.out.symm, hb.out⟩
set_option maxRecDepth 100000 in
set_option maxHeartbeats 400000 in
theorem find1_E (x : Entry) (a : Option Addr) (n c : Nat) (s : ByteArray) (p : Nat) (w : World) (hc : w.cell? ⟨p, 0, none⟩ = some (.string s)) (hp : p < w.heap.size) :
 Calls Tryz.prog 108 #[.agg #[.string x.key, .slice a n c, .int .i64 x.pins, .int .i64 x.stamp], .pointer (some ⟨p, 0, none⟩)] w fun e w' => e = .returned (.bool (x.key.toList == s.toList)) ∧ Below w.heap.size w w' := by
 go_enter Tryz.func108, Tryz.ntmps108
 go_wp2_with fail
 go_ret
 exact ⟨rfl, b_alloc (Below.refl _ _) _⟩
set_option maxRecDepth 100000 in
set_option maxHeartbeats 400000 in
theorem index_Find (v : Value) (l : List Entry) (s : ByteArray) (w : World) (h : RE w v l) :
 Calls Tryz.prog 51 #[v, .string s] w fun e w' => e = .returned (.tuple #[.int .i64 (findI (·.key) s l), .int .i64 (findE (·.key) s l)]) ∧ Below w.heap.size w w' := by
 have hl : l.length ≤ 140737488351232 := by obtain ⟨_, _, _, _, _, hre, _⟩ := h; omega
 have hi := idxFunc_E 108 #[.pointer (some ⟨w.heap.size, 0, none⟩)] (fun x => x.key.toList == s.toList) (enters_of Tryz.func108 (by kernel_rfl) rfl) v l (w.alloc (.cells #[.string s] 9)) (h.mono EEntry.stable (b_alloc (Below.refl _ _) _))
  (fun W x dv hb _ hd => by
    obtain ⟨a, c, rfl, -⟩ := hd
    exact find1_E x a _ c s w.heap.size W (by rw [hb.cell (p := ⟨w.heap.size, 0, none⟩) (by simp)]; rw [cell_of_row _ _ _ _ _ _ (heap_alloc_new w _)]; rfl) (by have := hb.size; simp at this; omega))
 have hcase := idx_cases (·.key) s l
 generalize idxOf (fun x : Entry => x.key.toList == s.toList) l = r at hi hcase
 generalize findI (fun x : Entry => x.key) s l = fi at hcase ⊢
 generalize findE (fun x : Entry => x.key) s l = fe at hcase ⊢
 replace hi := hid hi
 rcases hcase with ⟨rfl, rfl, rfl⟩ | ⟨h0, rfl, rfl⟩
 · exact qtzke_1
 have hneg : decide (fi < 0) = false := by simp; omega
 exact qtzke_1
theorem info_E : (Tryz.prog.info? 62).map (fun i => (i.zero, i.size, i.bytes)) = some (some (.agg #[.string ⟨#[]⟩, .slice none 0 0, .int .i64 0, .int .i64 0]), 4, 56) := by kernel_rfl
def CopiedEntry (l : List Entry) (w : World) (e : Ending) (w' : World) : Prop :=
 e = .returned (.slice (some ⟨w.heap.size, 0, none⟩) l.length l.length) ∧ OEntry w' w.heap.size (.slice (some ⟨w.heap.size, 0, none⟩) l.length l.length) l ∧ Below w.heap.size w w'
set_option maxRecDepth 100000 in
set_option maxHeartbeats 1000000 in
theorem index_Copy (v : Value) (l : List Entry) (w : World) (h : RE w v l) : Calls Tryz.prog 110 #[v] w (CopiedEntry l w) := by
 obtain ⟨i0, hi, hz0, hz1, hz2⟩ := info_parts info_E
 obtain ⟨a, c, rfl, hlc, hcm, hre, hno, hat⟩ := h
 unfold maxLen at hcm
 replace hat := hid hat
 clear hno
 obtain ⟨w1, hmk, how, hgr⟩ := run_make_own w w.heap.size 27 62 i0 _ 4 Tryz.underlying27 hi hz0 hz1 .i64 .i64 l.length (by rw [hz2]; omega) (by simp [maxLen]; omega) (Nat.le_refl _)
 have hb1 : Hid (Below w.heap.size w w1) := hid (b_grown (v := .slice none 0 0) (Below.refl _ _) hgr (fun k hk => by simp [Value.ownBlock] at hk))
 have ho1 : Hid (OEntry w1 w.heap.size (.slice (some ⟨w.heap.size, 0, none⟩) 0 l.length) (l.take 0)) := hid ⟨[], rfl, how, fun r hr => by simp at hr⟩
 have hBs : w.heap.size ≤ w1.heap.size := hb1.out.size
 clear how hgr
 unfold CopiedEntry
 generalize hB : w.heap.size = B at ho1 hb1 hBs hmk ⊢
 replace hB := hid hB
 go_enter Tryz.func110, Tryz.ntmps110
 go_wp2_with fail
 clear hmk
 go_loopw [3, 5, 11] (fun o _ i wr => ∃ k : Nat, k ≤ l.length ∧ i = .int .i64 k ∧ o = .slice (some ⟨B, 0, none⟩) k l.length ∧ Hid (OEntry wr B (.slice (some ⟨B, 0, none⟩) k l.length) (l.take k)) ∧ Hid (Below B w wr)) (fun _ _ i _ => l.length - (intOf i).toNat)
 case atStart => exact ⟨0, by omega, rfl, rfl, ho1, hb1⟩
 obtain ⟨k, hk, rfl, rfl, hO, hb⟩ := hrel
 have hsB : B ≤ wr.heap.size := by have := hb.out.size; have := hB.out; omega
 by_cases hlt : k < l.length
 · have hx : l[k]? = some l[k] := List.getElem?_eq_getElem hlt
   have htk := hid (List.take_succ_eq_append_getElem hlt)
   generalize l[k] = x at hx htk
   obtain ⟨bb, off, rfl, hbb, he⟩ := hat.out k _ hx
   obtain ⟨dv, c0, c1, c2, c3, rdv, okx⟩ := EEntry.stable _ _ _ _ _ (hB.out ▸ hb.out) hbb he
   have hbw : bb < wr.heap.size := Nat.lt_of_lt_of_le hbb (hB.out ▸ hb.out).size
   obtain ⟨da, dc, rfl, -⟩ := id rdv
   replace rdv := hid (rdv.mono EPart.stable (b_alloc (Below.refl _ wr) (Obj.cells #[.string x.key, .slice da x.parts.length dc, .int .i64 x.pins, .int .i64 x.stamp] 62)))
   clear he hx
   go_wp2_with fail
   ((with_reducible refine (slices_Clone_part _ x.parts _ rdv.out).mono ?_); rintro e w2 ⟨cv, rfl, hcv, b2⟩)
   have hq := (b2.block wr.heap.size (by simp)).trans (heap_alloc_new wr _)
   have e0 := cell_of_row w2 wr.heap.size 0 _ _ _ hq
   have e2 := cell_of_row w2 wr.heap.size 2 _ _ _ hq
   have e3 := cell_of_row w2 wr.heap.size 3 _ _ _ hq
   have e1 : w2.cell? ⟨wr.heap.size, 1, none⟩ = some (.slice da x.parts.length dc) := cell_of_row w2 wr.heap.size 1 _ _ _ hq
   have f1 : w2.frozen? ⟨wr.heap.size, 1, none⟩ = false := Lib.frozen_of_heap hq 1
   have hs2 : wr.heap.size < w2.heap.size := by have := b2.size; simp at this; omega
   obtain ⟨ca, cc, rfl, -⟩ := OS.len_le hcv
   simp at e0 e1 e2
   simp at e3
   have hW : Hid (Below wr.heap.size wr ((w2.setCell ⟨wr.heap.size, 1, none⟩ (.slice ca x.parts.length cc)).alloc (Obj.cells #[.string x.key, .slice ca x.parts.length cc, .int .i64 x.pins, .int .i64 x.stamp] 62))) :=
    hid (b_alloc (b_set (b_call (b_alloc (Below.refl _ wr) _) b2) (Nat.le_refl _) _) _)
   have hcr : Hid (CO 67 3 cPart B ((w2.setCell ⟨wr.heap.size, 1, none⟩ (.slice ca x.parts.length cc)).alloc (Obj.cells #[.string x.key, .slice ca x.parts.length cc, .int .i64 x.pins, .int .i64 x.stamp] 62)) (.slice ca x.parts.length cc) x.parts) :=
    hid (OS.alloc (OS.mono (OS.setOld hcv (by simp)) (by simp; omega)) _)
   obtain ⟨rs, hrs, hown, hcs⟩ := hO.out
   have hrl : rs.length = k := by have := congrArg List.length hrs; simp at this; omega
   have hown' := hid (hown.below hW.out)
   have hcs' := hid (fun q hq => (CO.below hW.out _ _ (hcs q hq) : CO 67 3 cPart B _ _ _))
   have hrow := hid (row_one (s := 4) (bs := 56) (cells := xc cEntry (·.parts)) (w2.setCell ⟨wr.heap.size, 1, none⟩ (.slice ca x.parts.length cc)) 62 ⟨x, ca, cc⟩ #[.string x.key, .slice ca x.parts.length cc, .int .i64 x.pins, .int .i64 x.stamp] w2.heap.size (by simp) rfl (by decide))
   replace hrs := hid hrs
   replace hb := hid (hb.out.trans (hW.out.mono hsB))
   clear hcv b2 hq hO hcs rdv
   subst hrl
   go_wp2_with (at_builtin; go_must (refine wpL_append_room flat_cEntry rfl (.tmp 19) (.tmp 21) 27 rfl 62 i0 Tryz.underlying27 hi hz1 B B _ _ rs rfl hown'.out _ [⟨x, ca, cc⟩] rfl hrow.out (by simp; omega) ?_))
   intro w3 hown3 hg3
   have hO3 := hid (OX.grow (e' := 67) hown3 hg3 hown'.out (by decide) hcs'.out hcr.out)
   have hb3 := hid (hb.out.grown hg3 (by have := hW.out.size; omega) (fun k hk => by simp at hk; omega))
   have hxs : Hid (rs.map (·.x) ++ [x] = l.take (rs.length + 1)) := hid (by rw [hrs.out, htk.out])
   simp only [hxs.out] at hO3
   clear hown3 hg3 hown' hcs' hcr hrow hb hW hxs
   go_wp2_with fail
   go_roundw
   case rel => exact ⟨rs.length + 1, by omega, by go_num, rfl, hO3, hb3⟩
   case measure => simp [intOf]; omega
 obtain rfl : k = l.length := by omega
 rw [List.take_length] at hO
 go_wp2_with fail
 go_ret
 exact ⟨rfl, hO.out, hb.out⟩
def FitEntry (x : Entry) : Prop := okEntry x ∧ x.parts.length * 40 ≤ 140737488351232 ∧ ∀ p ∈ x.parts, p.name.size ≤ 140737488351232 ∧ p.digest.size ≤ 140737488351232 ∧ (Lit.int .i64 p.size).wf = true
theorem fit_E {w : World} {v : Value} {l : List Entry} (h : RE w v l) : ∀ x ∈ l, FitEntry x := by
 intro x hx
 obtain ⟨i, hi⟩ := List.getElem?_of_mem hx
 obtain ⟨a, c, rfl, _, _, _, _, hat⟩ := h
 obtain ⟨b, o, _, _, he⟩ := hat i x hi
 obtain ⟨dv, _, _, _, _, rdv, okx⟩ := he
 obtain ⟨_, _, _, _, _, hr, _, hat⟩ := rdv
 refine ⟨okx, hr, fun p hp => ?_⟩
 obtain ⟨j, hj⟩ := List.getElem?_of_mem hp
 obtain ⟨_, _, _, _, _, _, _, q⟩ := hat j p hj
 exact q
theorem OEntry.toR {w : World} {B : Nat} {v : Value} {l : List Entry} (h : OEntry w B v l) (hb : l.length * 56 ≤ 140737488351232) (hf : ∀ x ∈ l, FitEntry x) : RE w v l :=
 reads_E h hb (fun x _ hx hc => reads_part hc (hf x hx).2.1 (hf x hx).2.2) (fun x hx => (hf x hx).1)
end Go.Proofs.YtpkpgehiplhkpaaGreat

namespace Go.Proofs.YtpkpgehiplhkpaaGreat
open Go.RowKit
theorem qtzkf_1 {P : Prop} (h : P := by
 go_enter Tryz.func133, Tryz.ntmps133
 go_wp2_with fail
 ((with_reducible refine hi.out.mono ?_); rintro e w1 ⟨rfl, b1⟩)
 go_wp2_with fail
 go_ret2
 exact ⟨rfl, b_call (b_alloc (Below.refl _ _) _) b1⟩) : P := h
def cFlight (x : Flight) (dv : Value) : List Value := [.string x.key, .int .i64 x.leader, dv]
def okFlight (x : Flight) : Prop := x.key.size ≤ 140737488351232 ∧ (Lit.int .i64 x.leader).wf = true
theorem xcFlight_len (r : XR Flight) : (xc cFlight (·.waiters) r).length = 3 := rfl
theorem xcFlight_one (r : XR Flight) (u : Value) (h : u ∈ xc cFlight (·.waiters) r) : u.oneCell' = true := by
 simp [xc, cFlight, XR.v] at h
 rcases h with rfl | rfl | rfl <;> rfl
theorem flat_cFlight : Flat 3 (xc cFlight (·.waiters)) (ERaw (xc cFlight (·.waiters))) := flat_raw (by decide) xcFlight_len xcFlight_one
theorem EFlight_iff (w : World) (b o : Nat) (x : Flight) : EFlight w b o x ↔ EX cFlight (·.waiters) 1 8 EI okFlight w b o x := by
 constructor
 · rintro ⟨dv, h0, h1, h2, h5, h6⟩
   refine ⟨dv, fun j u hj => ?_, h5, h6⟩
   rcases j with _ | _ | _ | j <;> simp [cFlight] at hj <;> subst hj <;> assumption
 rintro ⟨dv, h, h5, h6⟩
 exact ⟨dv, h 0 _ rfl, h 1 _ rfl, h 2 _ rfl, h5, h6⟩
def OFlight (w : World) (B : Nat) (v : Value) (l : List Flight) : Prop := OX 138 3 cFlight (·.waiters) (CO 3 1 cI B) w B v l
theorem reads_F {w : World} {B : Nat} {v : Value} {l : List Flight} (h : OFlight w B v l) (hb : l.length * 48 ≤ 140737488351232) (hC : ∀ x v, x ∈ l → CO 3 1 cI B w v x.waiters → RI w v x.waiters) (ho : ∀ x ∈ l, okFlight x) : RF w v l :=
 RS.iff (fun b o x hx => (EFlight_iff w b o x).2 hx) (OX.reads (by decide) xcFlight_len h hb hC ho)
set_option maxRecDepth 100000 in
set_option maxHeartbeats 400000 in
theorem idxFunc_F (g : Nat) (lb : Array Value) (q : Flight → Bool) (eg : ∀ args w, (callFunc g args).run Tryz.prog w = .ok (.enter g args) w) (v : Value) (l : List Flight) (w : World) (h : RF w v l)
 (hp : ∀ W x dv, Below w.heap.size w W → okFlight x → RI W dv x.waiters → Calls Tryz.prog g (#[.agg #[.string x.key, .int .i64 x.leader, dv]] ++ lb) W fun e w' => e = .returned (.bool (q x)) ∧ Below W.heap.size W w') :
 Calls Tryz.prog 199 #[v, .func (.func g) #[] lb] w fun e w' => e = .returned (.int .i64 (idxOf q l)) ∧ Below w.heap.size w w' := by
 obtain ⟨a, c, rfl, hlc, hcm, hre, hno, hat⟩ := h
 unfold maxLen at hcm
 replace hat := hid hat
 replace hp := hid hp
 have hy := hid (fun k x hx hq ha => idxOf_hit (q := q) (l := l) (k := k) (x := x) hx hq ha)
 have hn := hid (fun ha => idxOf_miss (q := q) (l := l) ha)
 clear hno
 go_enter Tryz.func199, Tryz.ntmps199
 go_wp2_with fail
 go_loopw [5, 8] (fun _ i wr => ∃ k : Nat, k ≤ l.length ∧ i = .int .i64 k ∧ Hid (∀ j x, j < k → l[j]? = some x → q x = false) ∧ Hid (Below w.heap.size w wr)) (fun _ i _ => l.length - (intOf i).toNat)
 case atStart => exact ⟨0, by omega, rfl, hid (fun j x hj => by omega), hid (Below.refl _ _)⟩
 obtain ⟨k, hk, rfl, hall, hb⟩ := hrel
 by_cases hlt : k < l.length
 · have hx : l[k]? = some l[k] := List.getElem?_eq_getElem hlt
   generalize l[k] = x at hx
   obtain ⟨bb, off, rfl, hbb, he⟩ := hat.out k _ hx
   obtain ⟨dv, c0, c1, c2, rdv, okx⟩ := EFlight.stable _ _ _ _ _ hb.out hbb he
   have hbw : bb < wr.heap.size := Nat.lt_of_lt_of_le hbb hb.out.size
   have hcall := hp.out wr x dv hb.out okx rdv
   have hy1 := hid (fun hq => hy.out k x hx hq hall.out)
   have hnx := hid (fun (hq : q x = false) => upto_next_l hall.out hx hq)
   clear hx he rdv
   cases hq : q x with
   | true =>
     rw [hq] at hcall
     replace hcall := hid hcall
     have hr := hid (hy1.out hq)
     clear hq hall
     go_wp2_with fail
     ((with_reducible refine hcall.out.mono ?_); rintro e w1 ⟨rfl, b1⟩)
     go_wp2_with fail
     go_ret
     exact ⟨ret_i hr.out.symm, b_call hb.out b1⟩
   | false =>
     rw [hq] at hcall
     replace hcall := hid hcall
     have hr := hid (hnx.out hq)
     clear hq hall
     go_wp2_with fail
     ((with_reducible refine hcall.out.mono ?_); rintro e w1 ⟨rfl, b1⟩)
     have hb1 := hid (b_call hb.out b1)
     clear b1
     go_wp2_with fail
     go_roundw
     case rel => exact ⟨k + 1, by omega, by go_num, hr, hb1⟩
     case measure => simp [intOf]; omega
 obtain rfl : k = l.length := by omega
 have hr := hid (hn.out (fun j x hj => hall.out j x (List.getElem?_eq_some_iff.1 hj).1 hj))
 clear hall
 go_wp2_with fail
 go_ret
 exact ⟨ret_i hr.out.symm, hb.out⟩
set_option maxRecDepth 100000 in
set_option maxHeartbeats 400000 in
theorem find1_F (x : Flight) (a : Option Addr) (n c : Nat) (s : ByteArray) (p : Nat) (w : World) (hc : w.cell? ⟨p, 0, none⟩ = some (.string s)) (hp : p < w.heap.size) :
 Calls Tryz.prog 200 #[.agg #[.string x.key, .int .i64 x.leader, .slice a n c], .pointer (some ⟨p, 0, none⟩)] w fun e w' => e = .returned (.bool (x.key.toList == s.toList)) ∧ Below w.heap.size w w' := by
 go_enter Tryz.func200, Tryz.ntmps200
 go_wp2_with fail
 go_ret
 exact ⟨rfl, b_alloc (Below.refl _ _) _⟩
set_option maxRecDepth 100000 in
set_option maxHeartbeats 400000 in
theorem flight_Find (v : Value) (l : List Flight) (s : ByteArray) (w : World) (h : RF w v l) :
 Calls Tryz.prog 133 #[v, .string s] w fun e w' => e = .returned (.tuple #[.int .i64 (findI (·.key) s l), .int .i64 (findE (·.key) s l)]) ∧ Below w.heap.size w w' := by
 have hl : l.length ≤ 140737488351232 := by obtain ⟨_, _, _, _, _, hre, _⟩ := h; omega
 have hi := idxFunc_F 200 #[.pointer (some ⟨w.heap.size, 0, none⟩)] (fun x => x.key.toList == s.toList) (enters_of Tryz.func200 (by kernel_rfl) rfl) v l (w.alloc (.cells #[.string s] 9)) (h.mono EFlight.stable (b_alloc (Below.refl _ _) _))
  (fun W x dv hb _ hd => by
    obtain ⟨a, c, rfl, -⟩ := hd
    exact find1_F x a _ c s w.heap.size W (by rw [hb.cell (p := ⟨w.heap.size, 0, none⟩) (by simp)]; rw [cell_of_row _ _ _ _ _ _ (heap_alloc_new w _)]; rfl) (by have := hb.size; simp at this; omega))
 have hcase := idx_cases (·.key) s l
 generalize idxOf (fun x : Flight => x.key.toList == s.toList) l = r at hi hcase
 generalize findI (fun x : Flight => x.key) s l = fi at hcase ⊢
 generalize findE (fun x : Flight => x.key) s l = fe at hcase ⊢
 replace hi := hid hi
 rcases hcase with ⟨rfl, rfl, rfl⟩ | ⟨h0, rfl, rfl⟩
 · exact qtzkf_1
 have hneg : decide (fi < 0) = false := by simp; omega
 exact qtzkf_1
theorem info_F : (Tryz.prog.info? 138).map (fun i => (i.zero, i.size, i.bytes)) = some (some (.agg #[.string ⟨#[]⟩, .int .i64 0, .slice none 0 0]), 3, 48) := by kernel_rfl
def SepF (rs : List (XR Flight)) : Prop := rs.Pairwise fun p q => ∀ b, (p.v (·.waiters)).ownBlock = some b → (q.v (·.waiters)).ownBlock ≠ some b
def OFlightP (w : World) (B : Nat) (v : Value) (l : List Flight) : Prop := ∃ rs : List (XR Flight), rs.map (·.x) = l ∧ OS 138 3 (xc cFlight (·.waiters)) w B v rs ∧ (∀ r ∈ rs, CO 3 1 cI B w (r.v (·.waiters)) r.x.waiters) ∧ SepF rs
theorem OFlightP.plain {w : World} {B : Nat} {v : Value} {l : List Flight} (h : OFlightP w B v l) : OFlight w B v l := by
 obtain ⟨rs, h1, h2, h3, -⟩ := h
 exact ⟨rs, h1, h2, h3⟩
theorem OFlightP.nil {w : World} {B : Nat} : OFlightP w B (.slice none 0 0) [] := ⟨[], rfl, OS.nil, fun r h => by simp at h, .nil⟩
theorem OFlightP.grow {B : Nat} {W w' : World} {v v' : Value} {rs : List (XR Flight)} {r : XR Flight}
 (hO : OS 138 3 (xc cFlight (·.waiters)) w' B v' (rs ++ [r])) (hg : W.grownBy w' v.ownBlock) (hv : OS 138 3 (xc cFlight (·.waiters)) W B v rs)
 (hc : ∀ q ∈ rs, CO 3 1 cI B W (q.v (·.waiters)) q.x.waiters) (hr : CO 3 1 cI B W (r.v (·.waiters)) r.x.waiters) (hs : SepF rs) (hn : ∀ p ∈ rs, ∀ b, (p.v (·.waiters)).ownBlock = some b → (r.v (·.waiters)).ownBlock ≠ some b) : OFlightP w' B v' (rs.map (·.x) ++ [r.x]) := by
 refine ⟨rs ++ [r], by simp, hO, fun q hq => ?_, List.pairwise_append.2 ⟨hs, List.pairwise_singleton _ _, fun p hp q hq => by rw [List.mem_singleton] at hq; subst hq; exact hn p hp⟩⟩
 rcases List.mem_append.1 hq with hq | hq
 · exact OS.apart hv (hc q hq) (by decide) hg
 simp only [List.mem_singleton] at hq
 subst hq
 exact OS.apart hv hr (by decide) hg
def CopiedFlightP (l : List Flight) (w : World) (e : Ending) (w' : World) : Prop :=
 e = .returned (.slice (some ⟨w.heap.size, 0, none⟩) l.length l.length) ∧ OFlightP w' w.heap.size (.slice (some ⟨w.heap.size, 0, none⟩) l.length l.length) l ∧ Below w.heap.size w w'
def CopiedFlight (l : List Flight) (w : World) (e : Ending) (w' : World) : Prop :=
 e = .returned (.slice (some ⟨w.heap.size, 0, none⟩) l.length l.length) ∧ OFlight w' w.heap.size (.slice (some ⟨w.heap.size, 0, none⟩) l.length l.length) l ∧ Below w.heap.size w w'
set_option maxRecDepth 100000 in
set_option maxHeartbeats 1000000 in
theorem flight_CopyP (v : Value) (l : List Flight) (w : World) (h : RF w v l) : Calls Tryz.prog 212 #[v] w (CopiedFlightP l w) := by
 obtain ⟨i0, hi, hz0, hz1, hz2⟩ := info_parts info_F
 obtain ⟨a, c, rfl, hlc, hcm, hre, hno, hat⟩ := h
 unfold maxLen at hcm
 replace hat := hid hat
 clear hno
 obtain ⟨w1, hmk, how, hgr⟩ := run_make_own w w.heap.size 33 138 i0 _ 3 Tryz.underlying33 hi hz0 hz1 .i64 .i64 l.length (by rw [hz2]; omega) (by simp [maxLen]; omega) (Nat.le_refl _)
 have hb1 : Hid (Below w.heap.size w w1) := hid (b_grown (v := .slice none 0 0) (Below.refl _ _) hgr (fun k hk => by simp [Value.ownBlock] at hk))
 have ho1 : Hid (OFlightP w1 w.heap.size (.slice (some ⟨w.heap.size, 0, none⟩) 0 l.length) (l.take 0)) := hid ⟨[], rfl, how, fun r hr => by simp at hr, .nil⟩
 have hBs : w.heap.size ≤ w1.heap.size := hb1.out.size
 clear how hgr
 unfold CopiedFlightP
 generalize hB : w.heap.size = B at ho1 hb1 hBs hmk ⊢
 replace hB := hid hB
 go_enter Tryz.func212, Tryz.ntmps212
 go_wp2_with fail
 clear hmk
 go_loopw [3, 5, 11] (fun o _ i wr => ∃ k : Nat, k ≤ l.length ∧ i = .int .i64 k ∧ o = .slice (some ⟨B, 0, none⟩) k l.length ∧ Hid (OFlightP wr B (.slice (some ⟨B, 0, none⟩) k l.length) (l.take k)) ∧ Hid (Below B w wr)) (fun _ _ i _ => l.length - (intOf i).toNat)
 case atStart => exact ⟨0, by omega, rfl, rfl, ho1, hb1⟩
 obtain ⟨k, hk, rfl, rfl, hO, hb⟩ := hrel
 have hsB : B ≤ wr.heap.size := by have := hb.out.size; have := hB.out; omega
 by_cases hlt : k < l.length
 · have hx : l[k]? = some l[k] := List.getElem?_eq_getElem hlt
   have htk := hid (List.take_succ_eq_append_getElem hlt)
   generalize l[k] = x at hx htk
   obtain ⟨bb, off, rfl, hbb, he⟩ := hat.out k _ hx
   obtain ⟨dv, c0, c1, c2, rdv, okx⟩ := EFlight.stable _ _ _ _ _ (hB.out ▸ hb.out) hbb he
   have hbw : bb < wr.heap.size := Nat.lt_of_lt_of_le hbb (hB.out ▸ hb.out).size
   obtain ⟨da, dc, rfl, -⟩ := id rdv
   replace rdv := hid (rdv.mono EI.stable (b_alloc (Below.refl _ wr) (Obj.cells #[.string x.key, .int .i64 x.leader, .slice da x.waiters.length dc] 138)))
   clear he hx
   go_wp2_with fail
   ((with_reducible refine (slices_Clone_int _ x.waiters _ rdv.out).mono ?_); rintro e w2 ⟨cv, rfl, hcv, b2⟩)
   have hq := (b2.block wr.heap.size (by simp)).trans (heap_alloc_new wr _)
   have e0 := cell_of_row w2 wr.heap.size 0 _ _ _ hq
   have e1 := cell_of_row w2 wr.heap.size 1 _ _ _ hq
   have e2 : w2.cell? ⟨wr.heap.size, 2, none⟩ = some (.slice da x.waiters.length dc) := cell_of_row w2 wr.heap.size 2 _ _ _ hq
   have f2 : w2.frozen? ⟨wr.heap.size, 2, none⟩ = false := Lib.frozen_of_heap hq 2
   have hs2 : wr.heap.size < w2.heap.size := by have := b2.size; simp at this; omega
   obtain ⟨ca, cc, rfl, -⟩ := OS.len_le hcv
   simp at e0 e1 e2
   have hW : Hid (Below wr.heap.size wr ((w2.setCell ⟨wr.heap.size, 2, none⟩ (.slice ca x.waiters.length cc)).alloc (Obj.cells #[.string x.key, .int .i64 x.leader, .slice ca x.waiters.length cc] 138))) :=
    hid (b_alloc (b_set (b_call (b_alloc (Below.refl _ wr) _) b2) (Nat.le_refl _) _) _)
   have hcr : Hid (CO 3 1 cI B ((w2.setCell ⟨wr.heap.size, 2, none⟩ (.slice ca x.waiters.length cc)).alloc (Obj.cells #[.string x.key, .int .i64 x.leader, .slice ca x.waiters.length cc] 138)) (.slice ca x.waiters.length cc) x.waiters) :=
    hid (OS.alloc (OS.mono (OS.setOld hcv (by simp)) (by simp; omega)) _)
   obtain ⟨rs, hrs, hown, hcs, hsep⟩ := hO.out
   have hnew := hid (fun p hp b e1 e2 => by
    have h1 := (World.ownsRow.lt (hcs p hp) b e1).2
    have h2 := (World.ownsRow.lt hcv b e2).1
    simp at h2
    omega : ∀ p ∈ rs, ∀ b, (p.v (·.waiters)).ownBlock = some b → (Value.slice ca x.waiters.length cc).ownBlock ≠ some b)
   replace hsep := hid hsep
   have hrl : rs.length = k := by have := congrArg List.length hrs; simp at this; omega
   have hown' := hid (hown.below hW.out)
   have hcs' := hid (fun q hq => (CO.below hW.out _ _ (hcs q hq) : CO 3 1 cI B _ _ _))
   have hrow := hid (row_one (s := 3) (bs := 48) (cells := xc cFlight (·.waiters)) (w2.setCell ⟨wr.heap.size, 2, none⟩ (.slice ca x.waiters.length cc)) 138 ⟨x, ca, cc⟩ #[.string x.key, .int .i64 x.leader, .slice ca x.waiters.length cc] w2.heap.size (by simp) rfl (by decide))
   replace hrs := hid hrs
   replace hb := hid (hb.out.trans (hW.out.mono hsB))
   clear hcv b2 hq hO hcs rdv
   subst hrl
   go_wp2_with (at_builtin; go_must (refine wpL_append_room flat_cFlight rfl (.tmp 19) (.tmp 21) 33 rfl 138 i0 Tryz.underlying33 hi hz1 B B _ _ rs rfl hown'.out _ [⟨x, ca, cc⟩] rfl hrow.out (by simp; omega) ?_))
   intro w3 hown3 hg3
   have hO3 := hid (OFlightP.grow hown3 hg3 hown'.out hcs'.out hcr.out hsep.out hnew.out)
   have hb3 := hid (hb.out.grown hg3 (by have := hW.out.size; omega) (fun k hk => by simp at hk; omega))
   have hxs : Hid (rs.map (·.x) ++ [x] = l.take (rs.length + 1)) := hid (by rw [hrs.out, htk.out])
   simp only [hxs.out] at hO3
   clear hown3 hg3 hown' hcs' hcr hrow hb hW hxs hsep hnew
   go_wp2_with fail
   go_roundw
   case rel => exact ⟨rs.length + 1, by omega, by go_num, rfl, hO3, hb3⟩
   case measure => simp [intOf]; omega
 obtain rfl : k = l.length := by omega
 rw [List.take_length] at hO
 go_wp2_with fail
 go_ret
 exact ⟨rfl, hO.out, hb.out⟩
theorem flight_Copy (v : Value) (l : List Flight) (w : World) (h : RF w v l) : Calls Tryz.prog 212 #[v] w (CopiedFlight l w) :=
 (flight_CopyP v l w h).mono fun _ _ h => ⟨h.1, h.2.1.plain, h.2.2⟩
def DeletedFlight (l : List Flight) (i B : Nat) (w : World) (e : Ending) (w' : World) : Prop :=
 ∃ c, e = .returned (.slice (some ⟨B, 0, none⟩) (l.length - 1) c) ∧ OFlight w' B (.slice (some ⟨B, 0, none⟩) (l.length - 1) c) (l.take i ++ l.drop (i + 1)) ∧ Below B w w'
set_option maxRecDepth 100000 in
set_option maxHeartbeats 1000000 in
theorem slices_Delete_F (l : List Flight) (i B : Nat) (w : World) (h : OFlight w B (.slice (some ⟨B, 0, none⟩) l.length l.length) l) (hi : i < l.length) (hB : B ≤ w.heap.size) (hbs : l.length * 48 ≤ 140737488351232) :
 Calls Tryz.prog 262 #[.slice (some ⟨B, 0, none⟩) l.length l.length, .int .i64 i, .int .i64 ((i : Int) + 1)] w (DeletedFlight l i B w) := by
 obtain ⟨i0, hi0, hz0, hz1, hz2⟩ := info_parts info_F
 obtain ⟨rs, rfl, hown, hcs⟩ := h
 simp only [List.length_map] at hi hbs hown ⊢
 unfold DeletedFlight
 rw [List.length_map]
 have hn := (show rs.length ≤ 140737488351232 by omega)
 have hrd : RS 3 48 (ERaw (xc cFlight (·.waiters))) w (.slice (some ⟨B, 0, none⟩) rs.length rs.length) rs := OS.reads (cells := xc cFlight (·.waiters)) xcFlight_len (by decide) (fun b o r _ hc j u hj => by
  have hlt := (List.getElem?_eq_some_iff.1 hj).1
  rw [hc j (by rw [xcFlight_len] at hlt; exact hlt), hj]) hown hbs
 have hfrom := RS.from hrd (i + 1) (by omega)
 have hile : i ≤ rs.length := by omega
 have hie : i + 1 ≤ rs.length := by omega
 obtain ⟨A, hA⟩ : ∃ A, (if rs.length = i + 1 then (some ⟨B, 0, none⟩ : Option Addr) else some ⟨B, (i + 1) * 3, none⟩) = A := ⟨_, rfl⟩
 have hA2 : (if rs.length = i + 1 then (some ⟨B, 0, none⟩ : Option Addr) else (some (⟨B, 0, none⟩ : Addr)).map (·.add ((i + 1) * 3))) = A := by
  rw [← hA]; simp [Addr.add_lit]
 rw [hA2] at hfrom
 have hg0 : (0 : Int) ≤ (i : Int) + 1 := by omega
 have hg1 : (i : Int) + 1 ≤ (rs.length : Int) := by omega
 have hup := hid (hown.upto xcFlight_len i (by omega))
 replace hfrom := hid hfrom
 replace hown := hid hown
 replace hcs := hid hcs
 clear hrd hA2
 go_enter Tryz.func262, Tryz.ntmps262
 go_wp2_with fail
 go_still_tail 6, (by kernel_rfl)
 change wpList _ _ _ _ _ w.drew
 replace hup := hid (hup.out.drew)
 replace hfrom := hid (hfrom.out.mono ERaw.stable (Below.refl _ w).drew)
 go_wp2_with (at_builtin; go_must (refine wpL_append_room flat_cFlight (by rfl) (.tmp 22) (.tmp 25) 33 (by rfl) 138 i0 Tryz.underlying33 hi0 hz1 B B i rs.length (rs.take i) (by rfl) hup.out _ (rs.drop (i + 1)) (by rfl) hfrom.out (by simp; omega) ?_))
 intro w2 ho2 hg2
 obtain ⟨m, hm⟩ : ∃ m, i + (rs.length - (i + 1)) = m := ⟨_, rfl⟩
 have hmn : m + 1 = rs.length := by omega
 rw [hm] at ho2
 have hmn1 : m ≤ rs.length := by omega
 have hmn2 : ¬ rs.length = m := by omega
 have hzv : ∀ w, (zeroValue 138).run Tryz.prog w = .ok (.agg #[.string ⟨#[]⟩, .int .i64 0, .slice none 0 0]) w := fun w => by simp [zeroValue, typeInfo, hi0, hz0]
 obtain ⟨w3, hcl, ho3, hg3⟩ := clear_own (s := 3) (t := 33) (cells := xc cFlight (·.waiters)) Tryz.underlying33 hzv rfl (by simp [Value.cells, Value.oneCell']) ho2 (rs.length - m) (rs.length - m) (by omega) (by omega)
 have hG := hg2.size
 have hx := hid (show (rs.take i ++ rs.drop (i + 1)).map (·.x) = (rs.map (·.x)).take i ++ (rs.map (·.x)).drop (i + 1) by simp)
 have hO3 : Hid (OFlight w3 B (.slice (some ⟨B, 0, none⟩) m rs.length) ((rs.map (·.x)).take i ++ (rs.map (·.x)).drop (i + 1))) := hid ⟨rs.take i ++ rs.drop (i + 1), hx.out, ho3, fun q hq => by
  have hq' : q ∈ rs := by
   rcases List.mem_append.1 hq with hq | hq
   · exact List.mem_of_mem_take hq
   · exact List.mem_of_mem_drop hq
  have h1 : CO 3 1 cI B w.drew (q.v (·.waiters)) q.x.waiters := hcs.out q hq'
  have h2 := OS.apart hup.out h1 (by decide) hg2
  exact OS.apart ho2 h2 (by decide) hg3⟩
 have hb3 : Hid (Below B w w3) := hid (((Below.refl B w).drew.grown hg2 hB (fun k hk => by simp at hk; omega)).grown hg3 (Nat.le_trans hB hG) (fun k hk => by simp at hk; omega))
 rw [hm]
 replace hmn := hid hmn
 clear hzv ho2 hg2 ho3 hg3 hup hfrom hcs hown hm hx hA hi0 hz0 hz1 hz2 hile hie hg0 hg1
 go_wp2_with fail
 go_ret
 exact ⟨rs.length, by rw [← hmn.out]; simp, by rw [← hmn.out, Nat.add_sub_cancel, hmn.out]; exact hO3.out, hb3.out⟩
def FitFlight (x : Flight) : Prop := okFlight x ∧ x.waiters.length * 8 ≤ 140737488351232 ∧ ∀ n ∈ x.waiters, (Lit.int .i64 n).wf = true
theorem fit_F {w : World} {v : Value} {l : List Flight} (h : RF w v l) : ∀ x ∈ l, FitFlight x := by
 intro x hx
 obtain ⟨i, hi⟩ := List.getElem?_of_mem hx
 obtain ⟨a, c, rfl, _, _, _, _, hat⟩ := h
 obtain ⟨b, o, _, _, he⟩ := hat i x hi
 obtain ⟨dv, _, _, _, rdv, okx⟩ := he
 obtain ⟨_, _, _, _, _, hr, _, hat⟩ := rdv
 refine ⟨okx, hr, fun p hp => ?_⟩
 obtain ⟨j, hj⟩ := List.getElem?_of_mem hp
 obtain ⟨_, _, _, _, _, q⟩ := hat j p hj
 exact q
theorem OFlight.toR {w : World} {B : Nat} {v : Value} {l : List Flight} (h : OFlight w B v l) (hb : l.length * 48 ≤ 140737488351232) (hf : ∀ x ∈ l, FitFlight x) : RF w v l :=
 reads_F h hb (fun x _ hx hc => OS.reads (cells := cI) (fun _ => rfl) (by decide) (fun b o n hn hc => ⟨hc 0 (by omega), (hf x hx).2.2 n hn⟩) hc (hf x hx).2.1) (fun x hx => (hf x hx).1)
end Go.Proofs.YtpkpgehiplhkpaaGreat
