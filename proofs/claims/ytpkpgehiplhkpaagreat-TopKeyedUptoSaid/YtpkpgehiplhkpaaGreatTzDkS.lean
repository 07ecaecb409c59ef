import Derived.Test.YtpkpgehiplhkpaaGreatTzDkW
import Derived.Test.YtpkpgehiplhkpaaGreatTzOdC
namespace Go.Proofs.YtpkpgehiplhkpaaGreat
open Go.RowKit
theorem qzdkr_1 {P : Prop} (h : P := by
 have hpl : p < w.heap.size := by obtain ⟨_, _, _, _, _, _, _, _, h, -⟩ := hL; exact heap_lt h
 have hc := hid (fun dv pv w h g => order_Check o dv pv w h g hs)
 rw [hz] at hc
 replace hm := hid hm
 clear hz
 have hD := hid hd
 have hS := hid hps
 obtain ⟨da, dc, rfl, -⟩ := hd
 obtain ⟨pa, pc, rfl, -⟩ := hps
 replace hL := hid hL
 go_enter Tryz.func37, Tryz.ntmps37
 go_upto_region 1 with fail
 have hO := hid (alloc_keep (o := Obj.cells #[.int .i64 0, .string ⟨#[]⟩, .slice none 0 0, .slice none 0 0, .int .i64 0, .slice none 0 0] 45) (heap_alloc_new w (Obj.cells #[.int .i64 o.kind, .int .i64 o.n, .string o.digest, .slice da o.data.length dc, .slice pa o.parts.length pc] 47)))
 have hQ := hid (heap_put (w.alloc (Obj.cells #[.int .i64 o.kind, .int .i64 o.n, .string o.digest, .slice da o.data.length dc, .slice pa o.parts.length pc] 47)) (Obj.cells #[.int .i64 0, .string ⟨#[]⟩, .slice none 0 0, .slice none 0 0, .int .i64 0, .slice none 0 0] 45) (w.heap.size + 1) (by simp))
 have hb := hid (b_alloc (b_alloc (Below.refl _ w) (Obj.cells #[.int .i64 o.kind, .int .i64 o.n, .string o.digest, .slice da o.data.length dc, .slice pa o.parts.length pc] 47)) (Obj.cells #[.int .i64 0, .string ⟨#[]⟩, .slice none 0 0, .slice none 0 0, .int .i64 0, .slice none 0 0] 45))
 generalize (w.alloc (Obj.cells #[.int .i64 o.kind, .int .i64 o.n, .string o.digest, .slice da o.data.length dc, .slice pa o.parts.length pc] 47)).alloc (Obj.cells #[.int .i64 0, .string ⟨#[]⟩, .slice none 0 0, .slice none 0 0, .int .i64 0, .slice none 0 0] 45) = w2 at *
 obtain ⟨z0, z1, z2, z3, z4⟩ := ord5f hO.out
 go_wp2_with fail
 ((with_reducible refine (hc.out _ _ _ (hD.out.mono EU8.stable hb.out) (hS.out.mono EPart.stable hb.out)).mono ?_); rintro e3 w3 ⟨rfl, b3⟩)
 have hO3 := hid (stays b3 hO.out)
 have hQ3 := hid (stays b3 hQ.out)
 have hb3 := hid (b_call hb.out b3)
 clear hO hQ hb b3 z0 z1 z2 z3 z4
 obtain ⟨z0, z1, z2, z3, z4⟩ := ord5f hO3.out
 have hol := heap_lt hO3.out
 have hql := heap_lt hQ3.out
 have hd3 := hid (hL.out.below hb3.out)
 have hD3 := hid (hD.out.mono EU8.stable hb3.out)
 have hS3 := hid (hS.out.mono EPart.stable hb3.out)
 go_wp2_with fail
 ((with_reducible refine (hm.out _ _ _ hd3.out hD3.out hS3.out).mono ?_); rintro e5 w5 ⟨dv5, pv5, wv5, rfl, hd5, rd5, rp5, ow5, wk5, hx5⟩)
 have hQ5 := hid (hx5.keep hQ3.out (by omega))
 have hE5 := hid ((Ex.of (p := p) hb3.out).trans hx5)
 obtain ⟨e1, g1, rfl, -⟩ := id rd5
 obtain ⟨e2, g2, rfl, -⟩ := id rp5
 obtain ⟨e3, g3, rfl, -⟩ := id (OS.len_le ow5)
 replace hd5 := hid hd5
 replace rd5 := hid rd5
 replace rp5 := hid rp5
 replace ow5 := hid ow5
 replace wk5 := hid wk5
 clear z0 z1 z2 z3 z4 hQ3 hO3 hD3 hS3 hd3 hx5
 obtain ⟨k0, k1, k2, k3, k4, k5⟩ := rep6f hQ5.out
 have f0 := frozen_heap hQ5.out 0
 have f1 := frozen_heap hQ5.out 1
 have f2 := frozen_heap hQ5.out 2
 have f3 := frozen_heap hQ5.out 3
 have f4 := frozen_heap hQ5.out 4
 have f5 := frozen_heap hQ5.out 5
 go_wp2_with fail
 have hr9 := rep_set (u0 := .int .i64 y.err) (u1 := .string y.digest) (u2 := .slice e1 y.data.length g1) (u3 := .slice e2 y.parts.length g2) (u4 := .int .i64 y.n) (u5 := .slice e3 y.who.length g3) hQ5.out
 obtain ⟨v0, v1, v2, v3, v4, v5⟩ := rep6f hr9
 refine bodyPost_ret (by simp [results, Tryz.results37, go_sem, v0, v1, v2, v3, v4, v5]; try rfl) rfl ?_
 exact post_ok hd5.out hE5.out hQ5.out (by omega) (by omega) rd5.out rp5.out ow5.out wk5.out (Ex.of (Below.refl _ _)).set.set.set.set.set.set) : P := h
set_option maxRecDepth 100000 in
set_option maxHeartbeats 4000000 in
theorem desk_order_blob (p : Nat) (L N : Loft) (o : Order) (dv pv : Value) (w : World) (hL : DeskAt w p L) (hd : RB w dv o.data) (hps : RP w pv o.parts) (hs : o.digest.size ≤ 140737488351232) (y : Rep)
 (hz : ordFault o = 0) (k0 : o.kind ≤ 4)
 (hm : ∀ dv pv W, DeskAt W p L → RB W dv o.data → RP W pv o.parts → Calls Tryz.prog 77 #[.pointer (some ⟨p, 0, none⟩), .agg #[.int .i64 o.kind, .int .i64 o.n, .string o.digest, dv, pv]] W (DeskPost p N y W)) :
 Calls Tryz.prog 37 #[.pointer (some ⟨p, 0, none⟩), .agg #[.int .i64 o.kind, .int .i64 o.n, .string o.digest, dv, pv]] w (DeskPost p N y w) := by
 exact qzdkr_1
set_option maxRecDepth 100000 in
set_option maxHeartbeats 4000000 in
theorem desk_order_entry (p : Nat) (L N : Loft) (o : Order) (dv pv : Value) (w : World) (hL : DeskAt w p L) (hd : RB w dv o.data) (hps : RP w pv o.parts) (hs : o.digest.size ≤ 140737488351232) (y : Rep)
 (hz : ordFault o = 0) (k0 : ¬ o.kind ≤ 4) (k1 : o.kind ≤ 8)
 (hm : ∀ dv pv W, DeskAt W p L → RB W dv o.data → RP W pv o.parts → Calls Tryz.prog 78 #[.pointer (some ⟨p, 0, none⟩), .agg #[.int .i64 o.kind, .int .i64 o.n, .string o.digest, dv, pv]] W (DeskPost p N y W)) :
 Calls Tryz.prog 37 #[.pointer (some ⟨p, 0, none⟩), .agg #[.int .i64 o.kind, .int .i64 o.n, .string o.digest, dv, pv]] w (DeskPost p N y w) := by
 exact qzdkr_1
set_option maxRecDepth 100000 in
set_option maxHeartbeats 4000000 in
theorem desk_order_flight (p : Nat) (L N : Loft) (o : Order) (dv pv : Value) (w : World) (hL : DeskAt w p L) (hd : RB w dv o.data) (hps : RP w pv o.parts) (hs : o.digest.size ≤ 140737488351232) (y : Rep)
 (hz : ordFault o = 0) (_ : ¬ o.kind ≤ 4) (_ : ¬ o.kind ≤ 8) (k2 : ¬ o.kind ≤ 11)
 (hm : ∀ dv pv W, DeskAt W p L → RB W dv o.data → RP W pv o.parts → Calls Tryz.prog 80 #[.pointer (some ⟨p, 0, none⟩), .agg #[.int .i64 o.kind, .int .i64 o.n, .string o.digest, dv, pv]] W (DeskPost p N y W)) :
 Calls Tryz.prog 37 #[.pointer (some ⟨p, 0, none⟩), .agg #[.int .i64 o.kind, .int .i64 o.n, .string o.digest, dv, pv]] w (DeskPost p N y w) := by
 exact qzdkr_1
end Go.Proofs.YtpkpgehiplhkpaaGreat

namespace Go.Proofs.YtpkpgehiplhkpaaGreat
open Go.RowKit
theorem qzdks_1 {P : Prop} (h : P := by simp; omega) : P := h
def EOrd (w : World) (b o : Nat) (x : Order) : Prop :=
 ∃ dv pv, w.cell? ⟨b, o, none⟩ = some (.int .i64 x.kind) ∧ w.cell? ⟨b, o + 1, none⟩ = some (.int .i64 x.n) ∧ w.cell? ⟨b, o + 2, none⟩ = some (.string x.digest) ∧ w.cell? ⟨b, o + 3, none⟩ = some dv ∧ w.cell? ⟨b, o + 4, none⟩ = some pv ∧
 RB w dv x.data ∧ RP w pv x.parts
theorem EOrd.stable : Stable EOrd := fun _ _ _ _ _ hb hlt ⟨dv, pv, h1, h2, h3, h4, h5, h6, h7⟩ => ⟨dv, pv, cell_stays hb hlt h1, cell_stays hb hlt h2, cell_stays hb hlt h3, cell_stays hb hlt h4, cell_stays hb hlt h5, h6.mono EU8.stable hb, h7.mono EPart.stable hb⟩
abbrev ROrd (w : World) (v : Value) (l : List Order) : Prop := RS 5 80 EOrd w v l
theorem info_rep : (Tryz.prog.info? 45).map (fun i => (i.zero, i.size, i.bytes)) = some (some (.agg #[.int .i64 0, .string ⟨#[]⟩, .slice none 0 0, .slice none 0 0, .int .i64 0, .slice none 0 0]), 6, 104) := by kernel_rfl
theorem zeroRep_K : ∀ (j : Nat) (u : Value), (Value.agg #[.int .i64 0, .string ⟨#[]⟩, .slice none 0 0, .slice none 0 0, .int .i64 0, .slice none 0 0]).cells[j]? = some u → repK j u := by
 intro j u hu
 have h : (Value.agg #[.int .i64 0, .string ⟨#[]⟩, .slice none 0 0, .slice none 0 0, .int .i64 0, .slice none 0 0]).cells = (cRep ⟨⟨0, ⟨#[]⟩, [], [], 0, []⟩, (none, 0), (none, 0), (none, 0)⟩).toArray := rfl
 rw [h, List.getElem?_toArray] at hu
 exact cRep_K _ j u hu
def RepsAt (w : World) (B : Nat) (rs : List RepR) : Prop := ∀ r ∈ rs, RB w r.dv r.y.data ∧ RP w r.pv r.y.parts ∧ OS 3 1 cI w B r.hv r.y.who ∧ WhoOk r.y.who
section
variable {w w' : World} {B p : Nat} {rs : List RepR}
theorem RepsAt.nil : RepsAt w B [] := fun r h => by cases h
theorem RepsAt.below (h : RepsAt w B rs) (hb : Below w.heap.size w w') : RepsAt w' B rs := fun r hr => ⟨(h r hr).1.mono EU8.stable hb, (h r hr).2.1.mono EPart.stable hb, (h r hr).2.2.1.below hb, (h r hr).2.2.2⟩
theorem RepsAt.ex (h : RepsAt w B rs) (hx : Ex p w w') (ho : Odd w p) (hp : p < B) : RepsAt w' B rs := fun r hr =>
 have ha : ∀ g, some p = some g → Odd w g := fun g e => by cases e; exact ho
 ⟨(h r hr).1.odd hx ha, (h r hr).2.1.odd hx ha, (h r hr).2.2.1.ex hx hp, (h r hr).2.2.2⟩
theorem RepsAt.snoc {r : RepR} (h : RepsAt w B rs) (hr : RB w r.dv r.y.data ∧ RP w r.pv r.y.parts ∧ OS 3 1 cI w B r.hv r.y.who ∧ WhoOk r.y.who) : RepsAt w B (rs ++ [r]) := fun q hq => by
 rcases List.mem_append.1 hq with hq | hq
 · exact h q hq
 rw [List.mem_singleton.1 hq]; exact hr
theorem RepsAt.grown {v : Value} {l : List RepR} {B' : Nat} (h : RepsAt w B rs) (hg : w.grownBy w' v.ownBlock) (ho : ORep w B' v l) : RepsAt w' B rs := fun r hr =>
 have ha : ∀ g, v.ownBlock = some g → Odd w g := fun g e => (ho.2 g e).odd
 ⟨(h r hr).1.odd hg ha, (h r hr).2.1.odd hg ha, OS.grownT hg ho.1 (h r hr).2.2.1 (by decide), (h r hr).2.2.2⟩
theorem RepsAt.low {B' : Nat} (h : RepsAt w B rs) (hB : B' ≤ B) : RepsAt w B' rs := fun r hr => ⟨(h r hr).1, (h r hr).2.1, (h r hr).2.2.1.mono hB, (h r hr).2.2.2⟩
theorem DeskAt.grown {v : Value} {l : List RepR} {B' : Nat} {L : Loft} (h : DeskAt w p L) (hg : w.grownBy w' v.ownBlock) (ho : ORep w B' v l) : DeskAt w' p L := by
 obtain ⟨a1, c1, a2, c2, a3, c3, a4, c4, hp, hL⟩ := h
 have ha : ∀ g, v.ownBlock = some g → Odd w g := fun g e => (ho.2 g e).odd
 exact ⟨a1, c1, a2, c2, a3, c3, a4, c4, grownT_heap hg ho.1 hp (by decide), ⟨hL.rb.odd hg ha, hL.re.odd hg ha, OS.grownT hg ho.1 hL.og (by decide), OFlight.grownT hg ho.1 hL.of (by decide) (by decide), hL.gk, hL.fk⟩⟩
end
theorem DeskAt.odd {w : World} {p : Nat} {L : Loft} (h : DeskAt w p L) : Odd w p := by
 obtain ⟨a1, c1, a2, c2, a3, c3, a4, c4, hp, -⟩ := h
 exact desk_odd hp
theorem greyOk_nil : GreyOk [] := ⟨by decide, fun s h => by cases h⟩
theorem flOk_nil : FlOk [] := ⟨by decide, fun s h => by cases h⟩
theorem below_ex {n p : Nat} {w w1 w2 : World} (h : Below n w w1) (k : Ex p w1 w2) (hn : n ≤ p) (hs : n ≤ w1.heap.size) : Below n w w2 :=
 ⟨k.os.trans h.os, k.tape.trans h.tape, k.output.trans h.output, Nat.le_trans h.size k.size, fun i hi => (k.block i (Nat.lt_of_lt_of_le hi hs) qzdks_1).trans (h.block i hi)⟩
def RunPost (L : Loft) (ys : List Rep) (w : World) (e : Ending) (w' : World) : Prop :=
 ∃ v rs a1 c1 a2 c2 a3 c3 a4 c4, e = .returned (.tuple #[v, .agg (dcells L a1 c1 a2 c2 a3 c3 a4 c4), .int .i64 0]) ∧ rs.map (·.y) = ys ∧ OS 45 6 cRep w' w.heap.size v rs ∧ RepsAt w' w.heap.size rs ∧ LoftIs w' w.heap.size L a1 c1 a2 c2 a3 c3 a4 c4 ∧ Below w.heap.size w w'
set_option maxRecDepth 100000 in
set_option maxHeartbeats 4000000 in
theorem desk_Run (rm : Int) (lv : Value) (l : List Order) (st : Nat → Loft) (rp : Nat → Rep) (w : World) (hl : ROrd w lv l) (h0 : 0 ≤ rm) (h1 : rm ≤ 4000) (hn : l.length ≤ 80) (hst : st 0 = ⟨⟨[], [], rm, 0⟩, ⟨0, [], ⟨#[]⟩⟩, []⟩)
 (hop : ∀ (k : Nat) (hk : k < l.length) p dv pv W, DeskAt W p (st k) → RB W dv l[k].data → RP W pv l[k].parts → Calls Tryz.prog 37 #[.pointer (some ⟨p, 0, none⟩), .agg #[.int .i64 l[k].kind, .int .i64 l[k].n, .string l[k].digest, dv, pv]] W (DeskPost p (st (k + 1)) (rp k) W)) :
 Calls Tryz.prog 12 #[.int .i64 rm, lv] w (RunPost (st l.length) ((List.range l.length).map rp) w) := by
 obtain ⟨i0, hi, hz0, hz1, hz2⟩ := info_parts info_rep
 have hM := hid hl
 obtain ⟨la, lc, rfl, hlc, hlm, -⟩ := hl
 unfold maxLen at hlm
 replace hop := hid hop
 have q0 : ¬ rm < 0 := by omega
 have q1 : ¬ rm > 4000 := by omega
 have q2 : ¬ (l.length : Int) > 80 := by omega
 go_enter Tryz.func12, Tryz.ntmps12
 go_upto_region 8 with fail
 have hT := hid (alloc_keep (o := Obj.cells #[.slice none 0 0, .slice none 0 0, .int .i64 rm, .int .i64 0, .int .i64 0, .slice none 0 0, .string ⟨#[]⟩, .slice none 0 0] 94) (heap_alloc_new w (Obj.cells #[.slice none 0 0, .slice none 0 0, .int .i64 0, .int .i64 0, .int .i64 0, .slice none 0 0, .string ⟨#[]⟩, .slice none 0 0] 35)))
 have hK := hid (heap_put (w.alloc (Obj.cells #[.slice none 0 0, .slice none 0 0, .int .i64 0, .int .i64 0, .int .i64 0, .slice none 0 0, .string ⟨#[]⟩, .slice none 0 0] 35)) (Obj.cells #[.slice none 0 0, .slice none 0 0, .int .i64 rm, .int .i64 0, .int .i64 0, .slice none 0 0, .string ⟨#[]⟩, .slice none 0 0] 94) (w.heap.size + 1) (by simp))
 have hb := hid (b_alloc (b_alloc (Below.refl _ w) (Obj.cells #[.slice none 0 0, .slice none 0 0, .int .i64 0, .int .i64 0, .int .i64 0, .slice none 0 0, .string ⟨#[]⟩, .slice none 0 0] 35)) (Obj.cells #[.slice none 0 0, .slice none 0 0, .int .i64 rm, .int .i64 0, .int .i64 0, .slice none 0 0, .string ⟨#[]⟩, .slice none 0 0] 94))
 generalize (w.alloc (Obj.cells #[.slice none 0 0, .slice none 0 0, .int .i64 0, .int .i64 0, .int .i64 0, .slice none 0 0, .string ⟨#[]⟩, .slice none 0 0] 35)).alloc (Obj.cells #[.slice none 0 0, .slice none 0 0, .int .i64 rm, .int .i64 0, .int .i64 0, .slice none 0 0, .string ⟨#[]⟩, .slice none 0 0] 94) = w2 at *
 obtain ⟨P, hPe⟩ : ∃ P, P = w.heap.size + 1 := ⟨_, rfl⟩
 rw [← hPe] at hK ⊢
 have hPw : w.heap.size < P := by omega
 clear hPe
 have hD0 : Hid (DeskAt w2 P (st 0)) := hid (by rw [hst]; exact ⟨none, 0, none, 0, none, 0, none, 0, hK.out, RS.nil, RS.nil, OS.nil, OX.nil, greyOk_nil, flOk_nil⟩)
 clear hK hst q0 q1 q2 h0 h1
 go_wp2_with fail
 go_loopw [8, 10, 32] (fun v8 _ i wr => ∃ (k : Nat) (rs : List RepR), i = .int .i64 (k : Int) ∧ k ≤ l.length ∧ Hid (rs.map (·.y) = (List.range k).map rp) ∧ ORep wr (P + 1) v8 rs ∧ Hid (RepsAt wr (P + 1) rs) ∧ Hid (DeskAt wr P (st k)) ∧ Hid (wr.heap[w.heap.size]? = some (Obj.cells #[.slice none 0 0, .slice none 0 0, .int .i64 0, .int .i64 0, .int .i64 0, .slice none 0 0, .string ⟨#[]⟩, .slice none 0 0] 35)) ∧ Hid (Below w.heap.size w wr)) (fun _ _ i _ => l.length - (intOf i).toNat)
 case atStart => exact ⟨0, [], rfl, by omega, hid rfl, OKd.nil, hid RepsAt.nil, hD0, hT, hb⟩
 clear hD0 hT hb
 obtain ⟨k, rs, rfl, hk, hrs, own, reps, hD, hT, hb⟩ := hrel
 obtain ⟨ad, cp, rfl, hlcp, hcpm, -⟩ := OS.len_le own.1
 unfold maxLen at hcpm
 have hrl : Hid (rs.length = k) := hid (by have := congrArg List.length hrs.out; simpa using this)
 have hbs := hb.out.size
 have hPs : P < wr.heap.size := by obtain ⟨_, _, _, _, _, _, _, _, h, -⟩ := hD.out; exact heap_lt h
 by_cases hlt : k < l.length
 · obtain ⟨bb, off, ha, hbb, he⟩ : ∃ bb off, la = some ⟨bb, off, none⟩ ∧ bb < wr.heap.size ∧ EOrd wr bb (off + k * 5) l[k] := by
    obtain ⟨_, _, hv, _, _, _, _, hat⟩ := (hM.out.mono EOrd.stable hb.out)
    simp only [Value.slice.injEq] at hv
    obtain ⟨rfl, -, -⟩ := hv
    exact hat k _ (List.getElem?_eq_getElem hlt)
   subst ha
   obtain ⟨dv, pv, c0, c1, c2, c3, c4, rd, rpx⟩ := he
   obtain ⟨da, dc, rfl, -⟩ := id rd
   obtain ⟨pa, pc, rfl, -⟩ := id rpx
   have hcl := hid (hop.out k hlt P)
   generalize l[k] = x at *
   generalize hy : rp k = y at hcl
   have hD2 := hid (hD.out.below (b_alloc (Below.refl _ _) (Obj.cells #[.int .i64 x.kind, .int .i64 x.n, .string x.digest, .slice da x.data.length dc, .slice pa x.parts.length pc] 47)))
   have rd2 := hid (rd.mono EU8.stable (b_alloc (Below.refl _ _) (Obj.cells #[.int .i64 x.kind, .int .i64 x.n, .string x.digest, .slice da x.data.length dc, .slice pa x.parts.length pc] 47)))
   have rp2 := hid (rpx.mono EPart.stable (b_alloc (Below.refl _ _) (Obj.cells #[.int .i64 x.kind, .int .i64 x.n, .string x.digest, .slice da x.data.length dc, .slice pa x.parts.length pc] 47)))
   have own2 := hid (OKd.alloc own (Obj.cells #[.int .i64 x.kind, .int .i64 x.n, .string x.digest, .slice da x.data.length dc, .slice pa x.parts.length pc] 47))
   have reps2 := hid (reps.out.below (b_alloc (Below.refl _ _) (Obj.cells #[.int .i64 x.kind, .int .i64 x.n, .string x.digest, .slice da x.data.length dc, .slice pa x.parts.length pc] 47)))
   have hT2 := hid (alloc_keep (o := Obj.cells #[.int .i64 x.kind, .int .i64 x.n, .string x.digest, .slice da x.data.length dc, .slice pa x.parts.length pc] 47) hT.out)
   have hb2 := hid (b_alloc hb.out (Obj.cells #[.int .i64 x.kind, .int .i64 x.n, .string x.digest, .slice da x.data.length dc, .slice pa x.parts.length pc] 47))
   replace rd := hid rd
   replace rpx := hid rpx
   replace hy := hid hy
   replace own := hid own
   have k0 : (k : Int) < (l.length : Int) := by omega
   go_wp2_with fail
   ((with_reducible refine (hcl.out _ _ _ hD2.out rd2.out rp2.out).mono ?_); rintro e5 w5 ⟨dv5, pv5, wv5, rfl, hd5, rd5, rp5, ow5, wk5, hx5⟩)
   have hb5 := hid (below_ex hb2.out hx5 (by omega) qzdks_1)
   have own5 := own2.out.ex hx5 (Nat.lt_succ_self P)
   have reps5 := reps2.out.ex hx5 hD2.out.odd (Nat.lt_succ_self P)
   have hT5 := hid (hx5.keep hT2.out (by omega))
   obtain ⟨e1, g1, rfl, -⟩ := id rd5
   obtain ⟨e2, g2, rfl, -⟩ := id rp5
   obtain ⟨e3, g3, rfl, -⟩ := id (OS.len_le ow5)
   have reps6 := hid ((reps5.snoc (r := ⟨y, (e1, g1), (e2, g2), (e3, g3)⟩) ⟨rd5, rp5, ow5, wk5⟩).below (b_alloc (Below.refl _ _) (Obj.cells #[.int .i64 y.err, .string y.digest, .slice e1 y.data.length g1, .slice e2 y.parts.length g2, .int .i64 y.n, .slice e3 y.who.length g3] 45)))
   have hd6 := hid (hd5.below (b_alloc (Below.refl _ _) (Obj.cells #[.int .i64 y.err, .string y.digest, .slice e1 y.data.length g1, .slice e2 y.parts.length g2, .int .i64 y.n, .slice e3 y.who.length g3] 45)))
   have hb6 := hid (b_alloc hb5.out (Obj.cells #[.int .i64 y.err, .string y.digest, .slice e1 y.data.length g1, .slice e2 y.parts.length g2, .int .i64 y.n, .slice e3 y.who.length g3] 45))
   have hT6 := hid (alloc_keep (o := Obj.cells #[.int .i64 y.err, .string y.digest, .slice e1 y.data.length g1, .slice e2 y.parts.length g2, .int .i64 y.n, .slice e3 y.who.length g3] 45) hT5.out)
   have own6 := OKd.alloc own5 (Obj.cells #[.int .i64 y.err, .string y.digest, .slice e1 y.data.length g1, .slice e2 y.parts.length g2, .int .i64 y.n, .slice e3 y.who.length g3] 45)
   have hs5 := hx5.size
   have hs6 : P + 1 ≤ w5.heap.size := by have : P < (wr.alloc (Obj.cells #[.int .i64 x.kind, .int .i64 x.n, .string x.digest, .slice da x.data.length dc, .slice pa x.parts.length pc] 47)).heap.size := by simp; omega
                                         omega
   clear c0 c1 c2 c3 c4 hD2 rd2 rp2 own2 reps2 hT2 hb2 hb5 own5 reps5 hT5 rd5 rp5 ow5 wk5 hd5 hcl
   replace hx5 := hid hx5
   have hown6 := hid own6
   go_wp2_with (at_builtin; go_must (refine wpList_append_K (by decide) cRep_len cRep_one cRep_K rfl (.tmp 36) (.tmp 40) 25 rfl 45 i0 _ 104 Tryz.underlying25 hi hz0 hz1 hz2 rfl zeroRep_K (P + 1) _ rs rfl hown6.out ⟨w5.heap.size, 0, none⟩ [⟨y, (e1, g1), (e2, g2), (e3, g3)⟩] 1 1 rfl rfl (World.news_of_block (cs := #[.int .i64 y.err, .string y.digest, .slice e1 y.data.length g1, .slice e2 y.parts.length g2, .int .i64 y.n, .slice e3 y.who.length g3]) (t := 45) (fr := (0, 0)) (heap_alloc_new w5 _)) ?c1 ?c2 ?c3 ?_))
   case c1 => have := hrl.out; simp; omega
   case c2 => have := hrl.out; simp [maxLen]; omega
   case c3 => simp; omega
   intro v' w6 own7 hg6
   have reps7 := hid (reps6.out.grown hg6 own6)
   have hd7 := hid (hd6.out.grown hg6 own6)
   have hT7 := hid (grownT_heap hg6 own6.1 hT6.out (by decide))
   have hb7 := hid (b_grown hb6.out hg6 (fun j hj => by have := OS.block own6.1 j hj; omega))
   have hrs7 : Hid ((rs ++ [(⟨y, (e1, g1), (e2, g2), (e3, g3)⟩ : RepR)]).map (fun r : RepR => r.y) = (List.range (k + 1)).map rp) := hid (by rw [List.map_append, hrs.out, List.range_succ, List.map_append, List.map_singleton, List.map_singleton, hy.out])
   clear reps6 hd6 hT6 hb6 own6 hown6 hg6
   replace hx5 := trivial
   go_wp2_with fail
   go_roundw
   case rel => exact ⟨k + 1, _, by go_num, by omega, hrs7, own7, reps7, hd7, hT7, hb7⟩
   case measure => simp [intOf]; omega
 obtain rfl : k = l.length := by omega
 obtain ⟨a1, c1, a2, c2, a3, c3, a4, c4, hp, hL⟩ := hD.out
 obtain ⟨y0, y1, y2, y3, y4, y5, y6, y7⟩ := box8f hp
 obtain ⟨x0, x1, x2, x3, x4, x5, x6, x7⟩ := box8f hT.out
 have xf0 := frozen_heap hT.out 0
 have xf1 := frozen_heap hT.out 1
 have xf2 := frozen_heap hT.out 2
 have xf3 := frozen_heap hT.out 3
 have xf4 := frozen_heap hT.out 4
 have xf5 := frozen_heap hT.out 5
 have xf6 := frozen_heap hT.out 6
 have xf7 := frozen_heap hT.out 7
 replace hp := hid hp
 replace hL := hid hL
 replace own := hid own
 have k0 : ¬ (l.length : Int) < (l.length : Int) := by omega
 have hSX : Hid (∀ w', Ex w.heap.size wr w' → w'.cell? ⟨P, 0, none⟩ = some (.slice a1 (st l.length).store.blobs.length c1) ∧ w'.cell? ⟨P, 1, none⟩ = some (.slice a2 (st l.length).store.entries.length c2) ∧ w'.cell? ⟨P, 2, none⟩ = some (.int .i64 (st l.length).store.room) ∧ w'.cell? ⟨P, 3, none⟩ = some (.int .i64 (st l.length).store.clock) ∧ w'.cell? ⟨P, 4, none⟩ = some (.int .i64 (st l.length).coll.phase) ∧ w'.cell? ⟨P, 5, none⟩ = some (.slice a3 (st l.length).coll.grey.length c3) ∧ w'.cell? ⟨P, 6, none⟩ = some (.string (st l.length).coll.place) ∧ w'.cell? ⟨P, 7, none⟩ = some (.slice a4 (st l.length).flights.length c4)) := hid (fun w' hx => ⟨hx.cell y0 qzdks_1, hx.cell y1 qzdks_1, hx.cell y2 qzdks_1, hx.cell y3 qzdks_1, hx.cell y4 qzdks_1, hx.cell y5 qzdks_1, hx.cell y6 qzdks_1, hx.cell y7 qzdks_1⟩)
 go_upto_region 13 with fail
 go_region_held3 (fun w' => w'.cell? ⟨P, 0, none⟩ = some (.slice a1 (st l.length).store.blobs.length c1) ∧ w'.cell? ⟨P, 1, none⟩ = some (.slice a2 (st l.length).store.entries.length c2) ∧ w'.cell? ⟨P, 2, none⟩ = some (.int .i64 (st l.length).store.room) ∧ w'.cell? ⟨P, 3, none⟩ = some (.int .i64 (st l.length).store.clock) ∧ w'.cell? ⟨P, 4, none⟩ = some (.int .i64 (st l.length).coll.phase) ∧ w'.cell? ⟨P, 5, none⟩ = some (.slice a3 (st l.length).coll.grey.length c3) ∧ w'.cell? ⟨P, 6, none⟩ = some (.string (st l.length).coll.place) ∧ w'.cell? ⟨P, 7, none⟩ = some (.slice a4 (st l.length).flights.length c4))
  (first | (refine hSX.out _ ?_; ((repeat (first | (with_reducible refine Ex.set ?_) | (with_reducible refine Ex.drew ?_) | exact Ex.of (Below.refl _ _) | fail)) <;> fail)) | fail)
  (fail)
 have hx9 := (box8_setE (u0 := .slice a1 (st l.length).store.blobs.length c1) (u1 := .slice a2 (st l.length).store.entries.length c2) (u2 := .int .i64 (st l.length).store.room) (u3 := .int .i64 (st l.length).store.clock) (u4 := .int .i64 (st l.length).coll.phase) (u5 := .slice a3 (st l.length).coll.grey.length c3) (u6 := .string (st l.length).coll.place) (u7 := .slice a4 (st l.length).flights.length c4) hT.out).drew
 have hT9 := heap_drewn (set8 (u0 := .slice a1 (st l.length).store.blobs.length c1) (u1 := .slice a2 (st l.length).store.entries.length c2) (u2 := .int .i64 (st l.length).store.room) (u3 := .int .i64 (st l.length).store.clock) (u4 := .int .i64 (st l.length).coll.phase) (u5 := .slice a3 (st l.length).coll.grey.length c3) (u6 := .string (st l.length).coll.place) (u7 := .slice a4 (st l.length).flights.length c4) hT.out)
 have hL9 := hL.out.exT hx9 (desk_odd hT.out) hT.out (by decide) (by decide) (by decide)
 have own9 := own.out.1.ex hx9 (show w.heap.size < P + 1 by omega)
 have reps9 := reps.out.ex hx9 (desk_odd hT.out) (show w.heap.size < P + 1 by omega)
 have hb9 := below_ex hb.out hx9 (Nat.le_refl _) hbs
 obtain ⟨v0, v1, v2, v3, v4, v5, v6, v7⟩ := box8f hT9
 clear y0 y1 y2 y3 y4 y5 y6 y7 x0 x1 x2 x3 x4 x5 x6 x7 xf0 xf1 xf2 xf3 xf4 xf5 xf6 xf7 hSX hx9 hT9
 replace hL9 := hid hL9
 replace own9 := hid own9
 replace reps9 := hid reps9
 replace hb9 := hid hb9
 go_wp2_with fail
 refine bodyPost_ret (by simp [results, Tryz.results12, go_sem, v0, v1, v2, v3, v4, v5, v6, v7]; try rfl) rfl ?_
 exact ⟨_, rs, a1, c1, a2, c2, a3, c3, a4, c4, rfl, hrs.out, own9.out.mono (by omega), reps9.out.low (by omega), hL9.out.low (by omega), hb9.out⟩
end Go.Proofs.YtpkpgehiplhkpaaGreat
