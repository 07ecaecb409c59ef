import Derived.Test.YtpkpgehiplhkpaaGreatTzOpC
import Derived.Test.YtpkpgehiplhkpaaGreatTzWir
import Derived.Shelf.Abstract
import Derived.StillTailTactics
import Derived.Deep.RegionHeld3
namespace Go.Proofs.YtpkpgehiplhkpaaGreat
open Go.RowKit
theorem qtzkb_1 {P : Prop} (h : P := by
 go_enter Tryz.func55, Tryz.ntmps55
 go_wp2_with fail
 ((with_reducible refine hi.out.mono ?_); rintro e w1 ⟨rfl, b1⟩)
 go_wp2_with fail
 go_ret2
 exact ⟨rfl, b_call (b_alloc (Below.refl _ _) _) b1⟩) : P := h
def cBlob (x : Blob) (dv : Value) : List Value := [.string x.digest, dv, .int .i64 x.pins, .bool x.mark]
def okBlob (x : Blob) : Prop := x.digest.size ≤ 140737488351232 ∧ (Lit.int .i64 x.pins).wf = true
theorem xcBlob_len (r : XR Blob) : (xc cBlob (·.data) r).length = 4 := rfl
theorem xcBlob_one (r : XR Blob) (u : Value) (h : u ∈ xc cBlob (·.data) r) : u.oneCell' = true := by
 simp [xc, cBlob, XR.v] at h
 rcases h with rfl | rfl | rfl | rfl <;> rfl
theorem flat_cBlob : Flat 4 (xc cBlob (·.data)) (ERaw (xc cBlob (·.data))) := flat_raw (by decide) xcBlob_len xcBlob_one
theorem EBlob_iff (w : World) (b o : Nat) (x : Blob) : EBlob w b o x ↔ EX cBlob (·.data) 1 1 EU8 okBlob w b o x := by
 constructor
 · rintro ⟨dv, h0, h1, h2, h3, h5, h6⟩
   refine ⟨dv, fun j u hj => ?_, h5, h6⟩
   rcases j with _ | _ | _ | _ | j <;> simp [cBlob] at hj <;> subst hj <;> assumption
 rintro ⟨dv, h, h5, h6⟩
 exact ⟨dv, h 0 _ rfl, h 1 _ rfl, h 2 _ rfl, h 3 _ rfl, h5, h6⟩
def OBlob (w : World) (B : Nat) (v : Value) (l : List Blob) : Prop := OX 50 4 cBlob (·.data) (CO 5 1 cU8 B) w B v l
theorem reads_B {w : World} {B : Nat} {v : Value} {l : List Blob} (h : OBlob w B v l) (hb : l.length * 56 ≤ 140737488351232) (hC : ∀ x v, x ∈ l → CO 5 1 cU8 B w v x.data → RB w v x.data) (ho : ∀ x ∈ l, okBlob x) : RBl w v l :=
 RS.iff (fun b o x hx => (EBlob_iff w b o x).2 hx) (OX.reads (by decide) xcBlob_len h hb hC ho)
set_option maxRecDepth 100000 in
set_option maxHeartbeats 400000 in
theorem idxFunc_B (g : Nat) (lb : Array Value) (q : Blob → Bool) (eg : ∀ args w, (callFunc g args).run Tryz.prog w = .ok (.enter g args) w) (v : Value) (l : List Blob) (w : World) (h : RBl w v l)
 (hp : ∀ W x dv, Below w.heap.size w W → okBlob x → RB W dv x.data → Calls Tryz.prog g (#[.agg #[.string x.digest, dv, .int .i64 x.pins, .bool x.mark]] ++ lb) W fun e w' => e = .returned (.bool (q x)) ∧ Below W.heap.size W w') :
 Calls Tryz.prog 111 #[v, .func (.func g) #[] lb] w fun e w' => e = .returned (.int .i64 (idxOf q l)) ∧ Below w.heap.size w w' := by
 obtain ⟨a, c, rfl, hlc, hcm, hre, hno, hat⟩ := h
 unfold maxLen at hcm
 replace hat := hid hat
 replace hp := hid hp
 have hy := hid (fun k x hx hq ha => idxOf_hit (q := q) (l := l) (k := k) (x := x) hx hq ha)
 have hn := hid (fun ha => idxOf_miss (q := q) (l := l) ha)
 clear hno
 go_enter Tryz.func111, Tryz.ntmps111
 go_wp2_with fail
 go_loopw [5, 8] (fun _ i wr => ∃ k : Nat, k ≤ l.length ∧ i = .int .i64 k ∧ Hid (∀ j x, j < k → l[j]? = some x → q x = false) ∧ Hid (Below w.heap.size w wr)) (fun _ i _ => l.length - (intOf i).toNat)
 case atStart => exact ⟨0, by omega, rfl, hid (fun j x hj => by omega), hid (Below.refl _ _)⟩
 obtain ⟨k, hk, rfl, hall, hb⟩ := hrel
 by_cases hlt : k < l.length
 · have hx : l[k]? = some l[k] := List.getElem?_eq_getElem hlt
   generalize l[k] = x at hx
   obtain ⟨bb, off, rfl, hbb, he⟩ := hat.out k _ hx
   obtain ⟨dv, c0, c1, c2, c3, rdv, okx⟩ := EBlob.stable _ _ _ _ _ hb.out hbb he
   have hbw : bb < wr.heap.size := Nat.lt_of_lt_of_le hbb hb.out.size
   have hcall := hp.out wr x dv hb.out okx rdv
   have hy1 := hid (fun hq => hy.out k x hx hq hall.out)
   have hnx := hid (fun (hq : q x = false) => upto_next_l hall.out hx hq)
   clear hx he rdv
   cases hq : q x with
   | true =>
     rw [hq] at hcall
     replace hcall := hid hcall
     have hr := hid (hy1.out hq)
     clear hq hall
     go_wp2_with fail
     ((with_reducible refine hcall.out.mono ?_); rintro e w1 ⟨rfl, b1⟩)
     go_wp2_with fail
     go_ret
     exact ⟨ret_i hr.out.symm, b_call hb.out b1⟩
   | false =>
     rw [hq] at hcall
     replace hcall := hid hcall
     have hr := hid (hnx.out hq)
     clear hq hall
     go_wp2_with fail
     ((with_reducible refine hcall.out.mono ?_); rintro e w1 ⟨rfl, b1⟩)
     have hb1 := hid (b_call hb.out b1)
     clear b1
     go_wp2_with fail
     go_roundw
     case rel => exact ⟨k + 1, by omega, by go_num, hr, hb1⟩
     case measure => simp [intOf]; omega
 obtain rfl : k = l.length := by omega
 have hr := hid (hn.out (fun j x hj => hall.out j x (List.getElem?_eq_some_iff.1 hj).1 hj))
 clear hall
 go_wp2_with fail
 go_ret
 exact ⟨ret_i hr.out.symm, hb.out⟩
set_option maxRecDepth 100000 in
set_option maxHeartbeats 400000 in
theorem find1_B (x : Blob) (a : Option Addr) (n c : Nat) (s : ByteArray) (p : Nat) (w : World) (hc : w.cell? ⟨p, 0, none⟩ = some (.string s)) (hp : p < w.heap.size) :
 Calls Tryz.prog 112 #[.agg #[.string x.digest, .slice a n c, .int .i64 x.pins, .bool x.mark], .pointer (some ⟨p, 0, none⟩)] w fun e w' => e = .returned (.bool (x.digest.toList == s.toList)) ∧ Below w.heap.size w w' := by
 go_enter Tryz.func112, Tryz.ntmps112
 go_wp2_with fail
 go_ret
 exact ⟨rfl, b_alloc (Below.refl _ _) _⟩
set_option maxRecDepth 100000 in
set_option maxHeartbeats 400000 in
theorem blob_Find (v : Value) (l : List Blob) (s : ByteArray) (w : World) (h : RBl w v l) :
 Calls Tryz.prog 55 #[v, .string s] w fun e w' => e = .returned (.tuple #[.int .i64 (findI (·.digest) s l), .int .i64 (findE (·.digest) s l)]) ∧ Below w.heap.size w w' := by
 have hl : l.length ≤ 140737488351232 := by obtain ⟨_, _, _, _, _, hre, _⟩ := h; omega
 have hi := idxFunc_B 112 #[.pointer (some ⟨w.heap.size, 0, none⟩)] (fun x => x.digest.toList == s.toList) (enters_of Tryz.func112 (by kernel_rfl) rfl) v l (w.alloc (.cells #[.string s] 9)) (h.mono EBlob.stable (b_alloc (Below.refl _ _) _))
  (fun W x dv hb _ hd => by
    obtain ⟨a, c, rfl, -⟩ := hd
    exact find1_B x a _ c s w.heap.size W (by rw [hb.cell (p := ⟨w.heap.size, 0, none⟩) (by simp)]; rw [cell_of_row _ _ _ _ _ _ (heap_alloc_new w _)]; rfl) (by have := hb.size; simp at this; omega))
 have hcase := idx_cases (·.digest) s l
 generalize idxOf (fun x : Blob => x.digest.toList == s.toList) l = r at hi hcase
 generalize findI (fun x : Blob => x.digest) s l = fi at hcase ⊢
 generalize findE (fun x : Blob => x.digest) s l = fe at hcase ⊢
 replace hi := hid hi
 rcases hcase with ⟨rfl, rfl, rfl⟩ | ⟨h0, rfl, rfl⟩
 · exact qtzkb_1
 have hneg : decide (fi < 0) = false := by simp; omega
 exact qtzkb_1
theorem info_B : (Tryz.prog.info? 50).map (fun i => (i.zero, i.size, i.bytes)) = some (some (.agg #[.string ⟨#[]⟩, .slice none 0 0, .int .i64 0, .bool false]), 4, 56) := by kernel_rfl
def CopiedBlob (l : List Blob) (w : World) (e : Ending) (w' : World) : Prop :=
 e = .returned (.slice (some ⟨w.heap.size, 0, none⟩) l.length l.length) ∧ OBlob w' w.heap.size (.slice (some ⟨w.heap.size, 0, none⟩) l.length l.length) l ∧ Below w.heap.size w w'
set_option maxRecDepth 100000 in
set_option maxHeartbeats 1000000 in
theorem blob_Copy (v : Value) (l : List Blob) (w : World) (h : RBl w v l) : Calls Tryz.prog 109 #[v] w (CopiedBlob l w) := by
 obtain ⟨i0, hi, hz0, hz1, hz2⟩ := info_parts info_B
 obtain ⟨a, c, rfl, hlc, hcm, hre, hno, hat⟩ := h
 unfold maxLen at hcm
 replace hat := hid hat
 clear hno
 obtain ⟨w1, hmk, how, hgr⟩ := run_make_own w w.heap.size 26 50 i0 _ 4 Tryz.underlying26 hi hz0 hz1 .i64 .i64 l.length (by rw [hz2]; omega) (by simp [maxLen]; omega) (Nat.le_refl _)
 have hb1 : Hid (Below w.heap.size w w1) := hid (b_grown (v := .slice none 0 0) (Below.refl _ _) hgr (fun k hk => by simp [Value.ownBlock] at hk))
 have ho1 : Hid (OBlob w1 w.heap.size (.slice (some ⟨w.heap.size, 0, none⟩) 0 l.length) (l.take 0)) := hid ⟨[], rfl, how, fun r hr => by simp at hr⟩
 have hBs : w.heap.size ≤ w1.heap.size := hb1.out.size
 clear how hgr
 unfold CopiedBlob
 generalize hB : w.heap.size = B at ho1 hb1 hBs hmk ⊢
 replace hB := hid hB
 go_enter Tryz.func109, Tryz.ntmps109
 go_wp2_with fail
 clear hmk
 go_loopw [3, 5, 11] (fun o _ i wr => ∃ k : Nat, k ≤ l.length ∧ i = .int .i64 k ∧ o = .slice (some ⟨B, 0, none⟩) k l.length ∧ Hid (OBlob wr B (.slice (some ⟨B, 0, none⟩) k l.length) (l.take k)) ∧ Hid (Below B w wr)) (fun _ _ i _ => l.length - (intOf i).toNat)
 case atStart => exact ⟨0, by omega, rfl, rfl, ho1, hb1⟩
 obtain ⟨k, hk, rfl, rfl, hO, hb⟩ := hrel
 have hsB : B ≤ wr.heap.size := by have := hb.out.size; have := hB.out; omega
 by_cases hlt : k < l.length
 · have hx : l[k]? = some l[k] := List.getElem?_eq_getElem hlt
   have htk := hid (List.take_succ_eq_append_getElem hlt)
   generalize l[k] = x at hx htk
   obtain ⟨bb, off, rfl, hbb, he⟩ := hat.out k _ hx
   obtain ⟨dv, c0, c1, c2, c3, rdv, okx⟩ := EBlob.stable _ _ _ _ _ (hB.out ▸ hb.out) hbb he
   have hbw : bb < wr.heap.size := Nat.lt_of_lt_of_le hbb (hB.out ▸ hb.out).size
   obtain ⟨da, dc, rfl, -⟩ := id rdv
   replace rdv := hid (rdv.mono EU8.stable (b_alloc (Below.refl _ wr) (Obj.cells #[.string x.digest, .slice da x.data.length dc, .int .i64 x.pins, .bool x.mark] 50)))
   clear he hx
   go_wp2_with fail
   ((with_reducible refine (bytes_Clone _ x.data _ rdv.out).mono ?_); rintro e w2 ⟨cv, rfl, hcv, b2⟩)
   have hq := (b2.block wr.heap.size (by simp)).trans (heap_alloc_new wr _)
   have e0 := cell_of_row w2 wr.heap.size 0 _ _ _ hq
   have e2 := cell_of_row w2 wr.heap.size 2 _ _ _ hq
   have e3 := cell_of_row w2 wr.heap.size 3 _ _ _ hq
   have e1 : w2.cell? ⟨wr.heap.size, 1, none⟩ = some (.slice da x.data.length dc) := cell_of_row w2 wr.heap.size 1 _ _ _ hq
   have f1 : w2.frozen? ⟨wr.heap.size, 1, none⟩ = false := Lib.frozen_of_heap hq 1
   have hs2 : wr.heap.size < w2.heap.size := by have := b2.size; simp at this; omega
   obtain ⟨ca, cc, rfl, -⟩ := OS.len_le hcv
   simp at e0 e1 e2
   simp at e3
   have hW : Hid (Below wr.heap.size wr ((w2.setCell ⟨wr.heap.size, 1, none⟩ (.slice ca x.data.length cc)).alloc (Obj.cells #[.string x.digest, .slice ca x.data.length cc, .int .i64 x.pins, .bool x.mark] 50))) :=
    hid (b_alloc (b_set (b_call (b_alloc (Below.refl _ wr) _) b2) (Nat.le_refl _) _) _)
   have hcr : Hid (CO 5 1 cU8 B ((w2.setCell ⟨wr.heap.size, 1, none⟩ (.slice ca x.data.length cc)).alloc (Obj.cells #[.string x.digest, .slice ca x.data.length cc, .int .i64 x.pins, .bool x.mark] 50)) (.slice ca x.data.length cc) x.data) :=
    hid (OS.alloc (OS.mono (OS.setOld hcv (by simp)) (by simp; omega)) _)
   obtain ⟨rs, hrs, hown, hcs⟩ := hO.out
   have hrl : rs.length = k := by have := congrArg List.length hrs; simp at this; omega
   have hown' := hid (hown.below hW.out)
   have hcs' := hid (fun q hq => (CO.below hW.out _ _ (hcs q hq) : CO 5 1 cU8 B _ _ _))
   have hrow := hid (row_one (s := 4) (bs := 56) (cells := xc cBlob (·.data)) (w2.setCell ⟨wr.heap.size, 1, none⟩ (.slice ca x.data.length cc)) 50 ⟨x, ca, cc⟩ #[.string x.digest, .slice ca x.data.length cc, .int .i64 x.pins, .bool x.mark] w2.heap.size (by simp) rfl (by decide))
   replace hrs := hid hrs
   replace hb := hid (hb.out.trans (hW.out.mono hsB))
   clear hcv b2 hq hO hcs rdv
   subst hrl
   go_wp2_with (at_builtin; go_must (refine wpL_append_room flat_cBlob rfl (.tmp 19) (.tmp 21) 26 rfl 50 i0 Tryz.underlying26 hi hz1 B B _ _ rs rfl hown'.out _ [⟨x, ca, cc⟩] rfl hrow.out (by simp; omega) ?_))
   intro w3 hown3 hg3
   have hO3 := hid (OX.grow (e' := 5) hown3 hg3 hown'.out (by decide) hcs'.out hcr.out)
   have hb3 := hid (hb.out.grown hg3 (by have := hW.out.size; omega) (fun k hk => by simp at hk; omega))
   have hxs : Hid (rs.map (·.x) ++ [x] = l.take (rs.length + 1)) := hid (by rw [hrs.out, htk.out])
   simp only [hxs.out] at hO3
   clear hown3 hg3 hown' hcs' hcr hrow hb hW hxs
   go_wp2_with fail
   go_roundw
   case rel => exact ⟨rs.length + 1, by omega, by go_num, rfl, hO3, hb3⟩
   case measure => simp [intOf]; omega
 obtain rfl : k = l.length := by omega
 rw [List.take_length] at hO
 go_wp2_with fail
 go_ret
 exact ⟨rfl, hO.out, hb.out⟩
def FitBlob (x : Blob) : Prop := okBlob x ∧ x.data.length * 1 ≤ 140737488351232
theorem fit_B {w : World} {v : Value} {l : List Blob} (h : RBl w v l) : ∀ x ∈ l, FitBlob x := by
 intro x hx
 obtain ⟨i, hi⟩ := List.getElem?_of_mem hx
 obtain ⟨a, c, rfl, _, _, _, _, hat⟩ := h
 obtain ⟨b, o, _, _, he⟩ := hat i x hi
 obtain ⟨dv, _, _, _, _, rdv, okx⟩ := he
 obtain ⟨_, _, _, _, _, hr, _⟩ := rdv
 exact ⟨okx, hr⟩
theorem OBlob.toR {w : World} {B : Nat} {v : Value} {l : List Blob} (h : OBlob w B v l) (hb : l.length * 56 ≤ 140737488351232) (hf : ∀ x ∈ l, FitBlob x) : RBl w v l :=
 reads_B h hb (fun x _ hx hc => reads_u8 hc (by have := (hf x hx).2; omega)) (fun x hx => (hf x hx).1)
end Go.Proofs.YtpkpgehiplhkpaaGreat
