import Derived.Test.YtpkpgehiplhkpaaGreatTzAct
import Derived.Test.YtpkpgehiplhkpaaGreatTzJoin
import Derived.Handy
namespace Go.Proofs.YtpkpgehiplhkpaaGreat
open Go.RowKit
theorem qtzen_2 {P : Prop} (h : P := by simp only [List.length_append, List.length_cons, List.length_nil]; omega) : P := h
theorem qtzen_1 {P : Prop} (h : P := by
 refine hid ⟨hBp, v', ?_, ?_⟩
 · simp [World.setCell, Array.getElem?_modify, hb2]
 · exact World.ownsRow.kept (row := some p) hown' ⟨rfl, rfl, rfl, by simp [World.setCell], fun k _ hk => Below.heap_setCell _ _ _ _ (fun e => hk (by simp [e]))⟩ (Or.inr hne2)) : P := h
def OutAt (B p : Nat) (l : List UInt8) (w : World) : Prop := B ≤ p ∧ ∃ v, w.heap[p]? = some (.cells #[v] 41 (0, 0)) ∧ OS 5 1 cU8 w B v l
def KeptBut (p : Nat) (w w' : World) : Prop := ∀ k cs T fr, w.heap[k]? = some (.cells cs T fr) → T ≠ 5 → k ≠ p → w'.heap[k]? = some (.cells cs T fr)
theorem OutAt.lt {B p : Nat} {l : List UInt8} {w : World} (h : OutAt B p l w) : p < w.heap.size := by
 obtain ⟨_, v, hb, _⟩ := h
 exact (Array.getElem?_eq_some_iff.1 hb).1
theorem OutAt.below {B p : Nat} {l : List UInt8} {w w' : World} (h : OutAt B p l w) (hb : Below w.heap.size w w') : OutAt B p l w' := by
 have hlt := h.lt
 obtain ⟨hB, v, hbk, hown⟩ := h
 exact ⟨hB, v, (hb.block p hlt).trans hbk, OS.below hown hb⟩
theorem KeptBut.trans {p : Nat} {w w1 w2 : World} (h : KeptBut p w w1) (g : KeptBut p w1 w2) : KeptBut p w w2 := fun k cs T fr hk hT hp => g k cs T fr (h k cs T fr hk hT hp) hT hp
set_option maxRecDepth 100000 in
set_option maxHeartbeats 1000000 in
theorem enc_add (B p : Nat) (l m : List UInt8) (vb : Value) (n : Int) (w : World) (h : OutAt B p l w) (hm : RB w vb m) (hB : B ≤ w.heap.size) (hl : l.length + m.length ≤ 100000) :
 Calls Tryz.prog 116 #[vb, .int .i64 n, .pointer (some ⟨p, 0, none⟩)] w fun e w' => e = .returned (.tuple #[]) ∧ OutAt B p (l ++ m) w' ∧ KeptBut p w w' ∧ Below B w w' := by
 obtain ⟨i0, hi, hz0, hz1, hz2⟩ := info_parts info_u8
 have hlt := h.lt
 obtain ⟨hBp, v, hbk, hown⟩ := h
 have hne : v.ownBlock ≠ some p := Lib.ownBlock_ne hown hbk (by decide)
 have c0 : w.cell? ⟨p, 0, none⟩ = some v := by rw [Lib.cell_of_heap hbk]; rfl
 obtain ⟨va, vc, rfl, -⟩ := id (OS.len_le hown)
 go_enter Tryz.func116, Tryz.ntmps116
 go_wp2_with (at_builtin; go_must (refine wpL_append flat_u8 rfl (.tmp 5) (.tmp 6) 41 rfl 5 i0 (.int .u8 0) Tryz.underlying41 hi hz0 hz1 hz2 rfl B _ l rfl hown _ m rfl hm ?c1 ?c2 ?c3 ?_))
 case c1 => omega
 case c2 => simp [maxLen]; omega
 case c3 => exact hB
 intro v' w2 hown' hgr
 have hb2 : w2.heap[p]? = some (.cells #[.slice va l.length vc] 41 (0, 0)) := (hgr.block p hlt (fun e => hne e.symm)).trans hbk
 have d0 : w2.cell? ⟨p, 0, none⟩ = some (.slice va l.length vc) := by rw [Lib.cell_of_heap hb2]; rfl
 have f0 : w2.frozen? ⟨p, 0, none⟩ = false := Lib.frozen_of_heap hb2 0
 have hne2 : v'.ownBlock ≠ some p := Lib.ownBlock_ne hown' hb2 (by decide)
 have hkeep : Hid (KeptBut p w (w2.setCell ⟨p, 0, none⟩ v')) := hid fun k cs T fr hk hT hp => by
  rw [heap_setCell_other _ _ _ _ hp, hgr.block k (Array.getElem?_eq_some_iff.1 hk).1 (fun e => Lib.ownBlock_ne hown hk hT e.symm)]
  exact hk
 have hout : Hid (OutAt B p (l ++ m) (w2.setCell ⟨p, 0, none⟩ v')) := by
  exact qtzen_1
 have hbel : Hid (Below B w (w2.setCell ⟨p, 0, none⟩ v')) := hid (((Below.refl B w).grown hgr hB (OS.block hown)).setCell (p := ⟨p, 0, none⟩) hBp v')
 obtain ⟨va2, vc2, rfl, -⟩ := id (OS.len_le hown')
 simp only [List.length_append] at hkeep hout hbel
 clear hgr hown hown' hbk hb2 hne hne2
 go_wp2_with fail
 go_end0
 exact ⟨rfl, hout.out, hkeep.out, hbel.out⟩
set_option maxRecDepth 100000 in
set_option maxHeartbeats 1000000 in
theorem enc_add_first (B p q : Nat) (l m : List UInt8) (vb : Value) (n : Int) (w : World) (hbk : w.heap[p]? = some (.cells #[.slice (some ⟨q, 0, none⟩) l.length l.length] 41 (0, 0)))
 (hq : ∀ j u, (l.flatMap cU8)[j]? = some u → w.cell? ⟨q, j, none⟩ = some u) (hm : RB w vb m) (hm0 : m ≠ []) (hB : B ≤ w.heap.size) (hBp : B ≤ p) (hl : l.length + m.length ≤ 100000) :
 Calls Tryz.prog 116 #[vb, .int .i64 n, .pointer (some ⟨p, 0, none⟩)] w fun e w' => e = .returned (.tuple #[]) ∧ OutAt B p (l ++ m) w' ∧ KeptBut p w w' ∧ Below B w w' := by
 obtain ⟨i0, hi, hz0, hz1, hz2⟩ := info_parts info_u8
 have hlt : p < w.heap.size := (Array.getElem?_eq_some_iff.1 hbk).1
 have c0 : w.cell? ⟨p, 0, none⟩ = some (.slice (some ⟨q, 0, none⟩) l.length l.length) := by rw [Lib.cell_of_heap hbk]; rfl
 rcases hm.cells flat_u8 with ⟨rfl, rfl⟩ | ⟨ad, c, rfl, hc⟩
 · exact absurd rfl hm0
 have hml : 0 < m.length := List.length_pos_iff.2 hm0
 have hfl : (l.flatMap cU8).length = l.length * 1 := flat_len (cells := cU8) (fun _ => rfl) l
 have hfm : (m.flatMap cU8).length = m.length * 1 := flat_len (cells := cU8) (fun _ => rfl) m
 have hqq : ∀ b, (some (⟨q, 0, none⟩ : Addr)) = some b → ∀ j u, (l.flatMap cU8)[j]? = some u → w.cell? (b.add j) = some u := by
  intro b hb j u hj
  simp only [Option.some.injEq] at hb
  subst hb
  rw [show (⟨q, 0, none⟩ : Addr).add j = ⟨q, j, none⟩ by unfold Addr.add; split <;> simp_all]
  exact hq j u hj
 replace hc := hid hc
 replace hqq := hid hqq
 replace hfl := hid hfl
 replace hfm := hid hfm
 clear hq hm hm0
 go_enter Tryz.func116, Tryz.ntmps116
 go_wp2_with (at_builtin; go_must (refine wpList_append_grows _ rfl (.tmp 5) (.tmp 6) 41 rfl 5 i0 (.int .u8 0) 1 1 Tryz.underlying41 hi hz0 hz1 hz2 rfl (by decide) (some ⟨q, 0, none⟩) l.length l.length (l.flatMap cU8) rfl (fun h => by cases h) hfl.out hqq.out ad m.length c (m.flatMap cU8) rfl hfm.out hc.out ?c0 (by omega) ?c2 ?c3 ?_))
 case c0 => exact fun u hu => by obtain ⟨x, _, hx⟩ := List.mem_flatMap.1 hu; exact flat_u8.one x u hx
 case c2 => simp [maxLen]; omega
 case c3 => omega
 intro v' w2 hown0 hgr
 have hown' : OS 5 1 cU8 w2 w.heap.size v' (l ++ m) := by
  unfold OS
  rw [List.flatMap_append, List.length_append]
  exact hown0
 have hown' := OS.mono hown' hB
 have hb2 : w2.heap[p]? = some (.cells #[.slice (some ⟨q, 0, none⟩) l.length l.length] 41 (0, 0)) := (hgr.block p hlt (by simp)).trans hbk
 have d0 : w2.cell? ⟨p, 0, none⟩ = some (.slice (some ⟨q, 0, none⟩) l.length l.length) := by rw [Lib.cell_of_heap hb2]; rfl
 have f0 : w2.frozen? ⟨p, 0, none⟩ = false := Lib.frozen_of_heap hb2 0
 have hne2 : v'.ownBlock ≠ some p := Lib.ownBlock_ne hown' hb2 (by decide)
 have hkeep : Hid (KeptBut p w (w2.setCell ⟨p, 0, none⟩ v')) := hid fun k cs T fr hk hT hp => by
  rw [heap_setCell_other _ _ _ _ hp, hgr.block k (Array.getElem?_eq_some_iff.1 hk).1 (by simp)]
  exact hk
 have hout : Hid (OutAt B p (l ++ m) (w2.setCell ⟨p, 0, none⟩ v')) := by
  exact qtzen_1
 have hbel : Hid (Below B w (w2.setCell ⟨p, 0, none⟩ v')) := hid ((b_grown (v := .slice none 0 0) (Below.refl _ w) hgr (fun k hk => by simp [Value.ownBlock] at hk)).mono hB |>.setCell (p := ⟨p, 0, none⟩) hBp v')
 obtain ⟨va2, vc2, rfl, -⟩ := id (OS.len_le hown')
 simp only [List.length_append] at hkeep hout hbel
 clear hgr hown0 hown' hbk hb2 hne2
 go_wp2_with fail
 go_end0
 exact ⟨rfl, hout.out, hkeep.out, hbel.out⟩
theorem varint_ne (n : Nat) : varint n ≠ [] := by
 rw [varint]
 split <;> simp
def encPart (x : Part) : List UInt8 := textBytes x.name ++ hexRes x.digest ++ varint x.size.toNat
def encParts (l : List Part) : List UInt8 := [65, 77, 49] ++ varint l.length ++ l.flatMap encPart
theorem encPart_len {x : Part} (h : nameFault x.name = 0 ∧ hexFault x.digest = 0 ∧ 0 ≤ x.size ∧ x.size ≤ 300) : (textBytes x.name).length ≤ 20 ∧ (hexRes x.digest).length = 32 ∧ (varint x.size.toNat).length ≤ 5 := by
 obtain ⟨h1, h2, h3, h4⟩ := h
 have hs := (textFault_zero h1).2.1
 have := textBytes_len x.name (by omega)
 exact ⟨by omega, (hexRes_ok h2).2.2, varint_len5 _ (by omega)⟩
theorem encs_len : ∀ {l : List Part}, (∀ x ∈ l, nameFault x.name = 0 ∧ hexFault x.digest = 0 ∧ 0 ≤ x.size ∧ x.size ≤ 300) → (l.flatMap encPart).length ≤ l.length * 60
 | [], _ => by simp
 | x :: l, h => by
   obtain ⟨a, b, c⟩ := encPart_len (h x (List.mem_cons_self ..))
   have := encs_len (l := l) (fun y hy => h y (List.mem_cons_of_mem _ hy))
   simp only [List.flatMap_cons, List.length_append, encPart, List.length_cons]
   omega
theorem encs_next {l : List Part} {k : Nat} {x : Part} (p : List UInt8) (hx : l[k]? = some x) : p ++ (l.take k).flatMap encPart ++ textBytes x.name ++ hexRes x.digest ++ varint x.size.toNat = p ++ (l.take (k + 1)).flatMap encPart := by
 rw [List.take_add_one, hx]
 simp [encPart, List.append_assoc]
set_option maxRecDepth 100000 in
set_option maxHeartbeats 1000000 in
theorem manifest_Encode_ok (v : Value) (l : List Part) (w : World) (h : RP w v l) (hz : partsFault l = 0) :
 Calls Tryz.prog 63 #[v] w fun e w' => ∃ v', e = .returned (.tuple #[v', .int .i64 0]) ∧ RB w' v' (encParts l) ∧ Below w.heap.size w w' := by
 have hP := hid h
 obtain ⟨a, c, rfl, hlc, hcm, hre, hno, hat⟩ := h
 unfold maxLen at hcm
 clear hno
 have hch := fun w (g : RP w (.slice a l.length c) l) => manifest_Check _ l w g
 rw [hz] at hch
 replace hch := hid hch
 obtain ⟨hl8, hall⟩ := partsFault_zero hz
 replace hall := hid hall
 replace hat := hid hat
 clear hz
 have kc := fun (W : World) (C : Array Value) (n c : Nat) => Lib.run_convert_bytes_const (P := Tryz.prog) W 41 5 C n c Tryz.underlying41 Tryz.underlying5
 go_enter Tryz.func63, Tryz.ntmps63
 go_wp2_with fail
 ((with_reducible refine (hch.out _ hP.out).mono ?_); rintro e w1 ⟨rfl, b1⟩)
 have hs1 := b1.size
 have hP1 := hid (hP.out.mono EPart.stable b1)
 go_wp2_with fail
 clear kc
 ((with_reducible refine (wire_Number (l.length : Int) _ (by omega) (by omega)).mono ?_); rintro e w2 ⟨v2, rfl, o2, b2⟩)
 have hn : (l.length : Int).toNat = l.length := Int.toNat_natCast _
 rw [hn] at o2
 have hv5 := varint_len5 l.length (by omega)
 have r2 := hid (reads_u8 o2 (by omega))
 have hp2 : Hid (w2.heap[w1.heap.size + 1]? = some (.cells #[.slice (some ⟨w1.heap.size, 0, none⟩) ([65, 77, 49] : List UInt8).length ([65, 77, 49] : List UInt8).length] 41 (0, 0))) := hid ((b2.block (w1.heap.size + 1) (by simp)).trans (heap_alloc2_new w1 _ _))
 have hq2 : Hid (∀ j u, (([65, 77, 49] : List UInt8).flatMap cU8)[j]? = some u → w2.cell? ⟨w1.heap.size, j, none⟩ = some u) := hid fun j u hj => by
  rw [cell_of_row w2 w1.heap.size j _ _ _ ((b2.block w1.heap.size (by simp; omega)).trans (heap_alloc2_old w1 _ _))]
  rw [← hj]
  rcases j with _ | _ | _ | j <;> rfl
 have b12 := hid (b_call b1 (b_call (b_alloc (b_alloc (Below.refl _ w1) _) _) b2))
 have hs2 : w1.heap.size + 1 < w2.heap.size := by have := b2.size; simp at this; omega
 replace hv5 := hid hv5
 have hvne : Hid (varint l.length ≠ []) := hid (varint_ne l.length)
 clear o2 b2 b1 hn
 go_wp2_with fail
 ((with_reducible refine (enc_add_first w.heap.size (w1.heap.size + 1) w1.heap.size [65, 77, 49] (varint l.length) v2 0 w2 hp2.out hq2.out r2.out hvne.out (by omega) (by omega) (by have := hv5.out; simp; omega)).mono ?_); rintro e w3 ⟨rfl, out3, -, b3⟩)
 have hs3 : w2.heap.size ≤ w3.heap.size := by have := b3.size; have := out3.lt; omega
 replace b3 := hid (b12.out.trans b3)
 replace out3 := hid out3
 clear hp2 hq2 r2 b12
 generalize w1.heap.size + 1 = p at *
 go_wp2_with fail
 go_loopw [26] (fun i wr => ∃ (k : Nat), k ≤ l.length ∧ i = .int .i64 k ∧ Hid (OutAt w.heap.size p ([65, 77, 49] ++ varint l.length ++ (l.take k).flatMap encPart) wr) ∧ Hid (Below w.heap.size w wr)) (fun i _ => l.length - (intOf i).toNat)
 case atStart => exact ⟨0, by omega, rfl, by simpa using out3, b3⟩
 obtain ⟨k, hk, rfl, hout, hb⟩ := hrel
 by_cases hlt : k < l.length
 · have hx : l[k]? = some l[k] := List.getElem?_eq_getElem hlt
   generalize l[k] = x at hx
   obtain ⟨bb, off, rfl, hbb, he⟩ := hat.out k _ hx
   obtain ⟨c0, c1, c2, s0, s1, wf⟩ := EPart.stable _ _ _ _ _ hb.out hbb he
   have hbw : bb < wr.heap.size := Nat.lt_of_lt_of_le hbb hb.out.size
   obtain ⟨hn, hd, g0, g1⟩ := hall.out x (List.mem_of_getElem? hx)
   clear he
   go_wp2_with fail
   have hlenk : ((l.take k).flatMap encPart).length ≤ 480 := by
    have := encs_len (l := l.take k) (fun y hy => hall.out y (List.mem_of_mem_take hy))
    have := List.length_take_le k l
    omega
   obtain ⟨l1, l2, l3⟩ := encPart_len ⟨hn, hd, g0, g1⟩
   have hnx := hid (encs_next ([65, 77, 49] ++ varint l.length) hx)
   have hlv := hv5.out
   have hname := (textFault_zero hn).2.1
   have hqp : wr.heap.size ≠ p := fun e => by have := hout.out.lt; omega
   have bx : Hid ((wr.alloc (Obj.cells #[.string x.name, .string x.digest, .int .i64 x.size] 67)).heap[wr.heap.size]? = some (.cells #[.string x.name, .string x.digest, .int .i64 x.size] 67 (0, 0))) := hid (heap_alloc_new wr _)
   have hout' := hid (hout.out.below (b_alloc (Below.refl _ wr) (Obj.cells #[.string x.name, .string x.digest, .int .i64 x.size] 67)))
   have hb' := hid (b_alloc hb.out (Obj.cells #[.string x.name, .string x.digest, .int .i64 x.size] 67))
   generalize wr.alloc (Obj.cells #[.string x.name, .string x.digest, .int .i64 x.size] 67) = wa at *
   generalize wr.heap.size = q at *
   clear hout hb c0 c1 c2
   have hq0 : q < wa.heap.size := (Array.getElem?_eq_some_iff.1 bx.out).1
   ((with_reducible refine (wire_Text x.name wa (by omega)).mono ?_); rintro e wb ⟨vb, rfl, ob, bb1⟩)
   replace bx := hid ((bb1.block q hq0).trans bx.out)
   replace hout' := hid (hout'.out.below bb1)
   replace hb' := hid (b_call hb'.out bb1)
   have rb := hid (reads_u8 ob (by omega))
   clear ob bb1
   go_wp2_with fail
   ((with_reducible refine (enc_add w.heap.size p _ (textBytes x.name) vb 0 wb hout'.out rb.out hb'.out.size qtzen_2).mono ?_); rintro e wc ⟨rfl, outc, kc, bc⟩)
   replace bx := hid (kc q _ _ _ bx.out (by decide) hqp)
   replace hout' := hid outc
   replace hb' := hid (hb'.out.trans bc)
   have e1 : wc.cell? ⟨q, 1, none⟩ = some (.string x.digest) := by rw [Lib.cell_of_heap bx.out]; rfl
   have hq0 : q < wc.heap.size := (Array.getElem?_eq_some_iff.1 bx.out).1
   clear outc kc bc rb
   go_wp2_with fail
   ((with_reducible refine (hex_Bytes_any x.digest wc s1).mono ?_); rintro e wd ⟨vd, rfl, rd, bd⟩)
   replace bx := hid ((bd.block q hq0).trans bx.out)
   replace hout' := hid (hout'.out.below bd)
   replace hb' := hid (b_call hb'.out bd)
   replace rd := hid rd
   clear bd e1
   go_wp2_with fail
   ((with_reducible refine (enc_add w.heap.size p _ (hexRes x.digest) vd (hexErr x.digest) wd hout'.out rd.out hb'.out.size qtzen_2).mono ?_); rintro e we ⟨rfl, oute, ke, be⟩)
   replace bx := hid (ke q _ _ _ bx.out (by decide) hqp)
   replace hout' := hid oute
   replace hb' := hid (hb'.out.trans be)
   have e2 : we.cell? ⟨q, 2, none⟩ = some (.int .i64 x.size) := by rw [Lib.cell_of_heap bx.out]; rfl
   clear oute ke be rd
   go_wp2_with fail
   ((with_reducible refine (wire_Number x.size we (by omega) (by omega)).mono ?_); rintro e wf ⟨vf, rfl, of', bf⟩)
   replace hout' := hid (hout'.out.below bf)
   replace hb' := hid (b_call hb'.out bf)
   have rf := hid (reads_u8 of' (by omega))
   clear of' bf e2
   go_wp2_with fail
   ((with_reducible refine (enc_add w.heap.size p _ (varint x.size.toNat) vf 0 wf hout'.out rf.out hb'.out.size qtzen_2).mono ?_); rintro e wg ⟨rfl, outg, -, bg⟩)
   replace hout' := hid (show OutAt w.heap.size p _ wg from hnx.out ▸ outg)
   replace hb' := hid (hb'.out.trans bg)
   clear outg bg rf bx
   go_wp2_with fail
   go_roundw
   case rel => exact ⟨k + 1, by omega, by go_num, hout', hb'⟩
   case measure => simp [intOf]; omega
 obtain rfl : k = l.length := by omega
 obtain ⟨hBp, v, hbk, hown⟩ := hout.out
 have c0 : wr.cell? ⟨p, 0, none⟩ = some v := by rw [Lib.cell_of_heap hbk]; rfl
 rw [List.take_length] at hown
 replace hown := hid hown
 clear hout hbk
 go_wp2_with fail
 have hlen : (encParts l).length ≤ 1000 := by
  have := encs_len (l := l) hall.out
  have := hv5.out
  simp only [encParts, List.length_append, List.length_cons, List.length_nil]
  omega
 have rp : Hid (RB wr v (encParts l)) := hid (reads_u8 hown.out (show (encParts l).length ≤ 140737488351232 by omega))
 ((with_reducible refine (bytes_Clone v (encParts l) wr rp.out).mono ?_); rintro e wz ⟨vz, rfl, oz, bz⟩)
 have rz := hid (reads_u8 oz (by omega))
 have hbz := hid (b_call hb.out bz)
 clear oz bz
 go_wp2_with fail
 go_ret2
 exact ⟨_, rfl, rz.out, hbz.out⟩
def encRes (l : List Part) : List UInt8 := if partsFault l = 0 then encParts l else []
set_option maxRecDepth 100000 in
theorem manifest_Encode (v : Value) (l : List Part) (w : World) (h : RP w v l) :
 Calls Tryz.prog 63 #[v] w fun e w' => ∃ v', e = .returned (.tuple #[v', .int .i64 (partsFault l)]) ∧ RB w' v' (encRes l) ∧ Below w.heap.size w w' := by
 by_cases hz : partsFault l = 0
 · unfold encRes
   rw [if_pos hz, hz]
   exact manifest_Encode_ok v l w h hz
 have ht : (partsFault l != 0) = true := by simp [hz]
 have hr : encRes l = [] := by unfold encRes; rw [if_neg hz]
 rw [hr]
 have hch := manifest_Check _ l w h
 generalize partsFault l = z at *
 clear hr
 replace hch := hid hch
 go_enter Tryz.func63, Tryz.ntmps63
 go_wp2_with fail
 ((with_reducible refine hch.out.mono ?_); rintro e w1 ⟨rfl, b1⟩)
 go_wp2_with fail
 go_ret2
 exact ⟨_, rfl, RS.nil, b1⟩
def one (n : Nat) : ByteArray := ⟨#[UInt8.ofNat n]⟩
end Go.Proofs.YtpkpgehiplhkpaaGreat

namespace Go.Proofs.YtpkpgehiplhkpaaGreat
open Go.RowKit
theorem holds_of {w : World} {v : Value} {l : List UInt8} (h : RB w v l) : Lib.HoldsBytes w v l := by
 obtain ⟨a, c, rfl, hlc, hcm, hre, hno, hat⟩ := h
 refine ⟨a, c, rfl, ?_, ?_⟩
 · rintro rfl
   cases l with
   | nil => rfl
   | cons x l =>
     obtain ⟨b, off, hb, _⟩ := hat 0 x rfl
     cases hb
 rintro ad rfl i x hx
 obtain ⟨b, off, hb, _, he⟩ := hat i x hx
 simp only [Option.some.injEq] at hb
 subst hb
 rw [Lib.add_plain2]
 rw [Nat.mul_one] at he
 exact he
theorem cell_blk {w : World} {a : Addr} {v : Value} (h : w.cell? a = some v) : a.block < w.heap.size := by
 unfold World.cell? at h
 split at h
 · rename_i hb; exact (Array.getElem?_eq_some_iff.1 hb).1
 cases h
theorem fresh_reads {B : Nat} {w : World} {v : Value} {l : List UInt8} (h : Lib.FreshBytes B w v l) (hl : l.length ≤ 140737488351232) : RB w v l := by
 obtain ⟨g, cap, zs, rfl, hB, hlc, hm, hz, hr, hb, hcell, _⟩ := h
 refine ⟨some ⟨g, 0, none⟩, cap, rfl, hlc, hm, by omega, fun h => (by cases h), fun k x hk => ⟨g, 0, rfl, ?_, ?_⟩⟩
 · have hkl := (List.getElem?_eq_some_iff.1 hk).1
   exact cell_blk (hcell k (by omega))
 have hkl := (List.getElem?_eq_some_iff.1 hk).1
 have hc := hcell k (by omega)
 unfold EU8
 rw [Nat.zero_add, Nat.mul_one, hc]
 rw [← hb] at hk
 unfold Lib.bytesOf at hk
 rw [List.getElem?_map, List.getElem?_take_of_lt hkl] at hk
 have hkz : k < zs.length := by omega
 rw [List.getElem?_eq_getElem hkz] at hk
 simp only [Option.map_some, Option.some.injEq] at hk
 obtain ⟨h0, h1⟩ := hr zs[k] (List.getElem_mem hkz)
 rw [List.getD_eq_getElem?_getD, List.getElem?_eq_getElem hkz, ← hk]
 simp
 omega
def actBytes (s : ByteArray) (l : List Part) : List UInt8 := [65, 65, 49] ++ textBytes s ++ encParts l
def actRes (s : ByteArray) (l : List Part) : List UInt8 := if actFault s l = 0 then actBytes s l else []
theorem actFault_zero {s : ByteArray} {l : List Part} (h : actFault s l = 0) : s.size ≤ 60 ∧ partsFault l = 0 := by
 unfold actFault at h
 split at h
 · rename_i h1; exact ⟨(textFault_zero h1).2.1, h⟩
 rename_i h1; exact absurd h h1
theorem encParts_len {l : List Part} (h : partsFault l = 0) : (encParts l).length ≤ 1000 := by
 obtain ⟨h8, hall⟩ := partsFault_zero h
 have := encs_len hall
 have := varint_len5 l.length (by omega)
 simp only [encParts, List.length_append, List.length_cons, List.length_nil]
 omega
set_option maxRecDepth 100000 in
set_option maxHeartbeats 1000000 in
theorem action_Encode_ok (s : ByteArray) (v : Value) (l : List Part) (w : World) (hs : s.size ≤ 140737488351232) (h : RP w v l) (hz : actFault s l = 0) :
 Calls Tryz.prog 31 #[.agg #[.string s, v]] w fun e w' => ∃ v', e = .returned (.tuple #[v', .int .i64 0]) ∧ RB w' v' (actBytes s l) ∧ Below w.heap.size w w' := by
 have hch := fun w (g : RP w v l) => action_Check s v l w hs g
 obtain ⟨hs60, hzp⟩ := actFault_zero hz
 have hen := fun w (g : RP w v l) => manifest_Encode v l w g
 have hr : encRes l = encParts l := by unfold encRes; rw [if_pos hzp]
 rw [hz] at hch
 rw [hzp, hr] at hen
 have hel := encParts_len hzp
 have htl := textBytes_len s (by omega)
 replace hch := hid hch
 replace hen := hid hen
 clear hr
 have hP := hid h
 obtain ⟨a, c, rfl, -⟩ := h
 have kc := fun (W : World) (C : Array Value) (n c : Nat) => Lib.run_convert_bytes_const (P := Tryz.prog) W 41 5 C n c Tryz.underlying41 Tryz.underlying5
 go_enter Tryz.func31, Tryz.ntmps31
 go_wp2_with fail
 ((with_reducible refine (hch.out _ (hP.out.mono EPart.stable (b_alloc (Below.refl _ _) _))).mono ?_); rintro e w1 ⟨rfl, b1⟩)
 obtain ⟨bc1, bf1⟩ := bcell b1
 have hs1 : w.heap.size < w1.heap.size := by have := b1.size; simp at this; omega
 have hb1 := hid (b_call (b_alloc (Below.refl _ w) _) b1)
 go_wp2_with fail
 ((with_reducible refine (wire_Text s _ (by omega)).mono ?_); rintro e w2 ⟨v2, rfl, o2, b2⟩)
 obtain ⟨bc2, bf2⟩ := bcell b2
 have hs2 : w.heap.size < w2.heap.size := Nat.lt_of_lt_of_le hs1 b2.size
 have hb2 := hid (b_call hb1.out b2)
 have r2 := reads_u8 o2 (by omega)
 clear o2
 go_wp2_with fail
 ((with_reducible refine (hen.out _ (hP.out.mono EPart.stable hb2.out)).mono ?_); rintro e w3 ⟨v3, rfl, r3, b3⟩)
 have hb3 := hid (b_call hb2.out b3)
 have r2' := hid (r2.mono EU8.stable b3)
 obtain ⟨a2, c2, rfl, -⟩ := id r2
 obtain ⟨a3, c3, rfl, -⟩ := id r3
 replace r3 := hid r3
 clear b1 b2 b3 bc1 bc2 bf1 bf2 r2
 go_wp2_with fail
 obtain ⟨w4, hw4⟩ : ∃ w4 : World, w4 = (w3.alloc (Obj.cells #[.int .u8 65, .int .u8 65, .int .u8 49] 5 (3, 4))).alloc (Obj.cells #[.slice (some ⟨w3.heap.size, 0, none⟩) 3 3, .slice a2 (textBytes s).length c2, .slice a3 (encParts l).length c3] 41) := ⟨_, rfl⟩
 have hb34 : Below w3.heap.size w3 w4 := by rw [hw4]; exact b_alloc (b_alloc (Below.refl _ w3) _) _
 have q0 : w4.heap[w3.heap.size]? = some (.cells #[.int .u8 65, .int .u8 65, .int .u8 49] 5 (3, 4)) := by rw [hw4]; exact heap_alloc2_old w3 _ _
 have q1 : w4.heap[w3.heap.size + 1]? = some (.cells #[.slice (some ⟨w3.heap.size, 0, none⟩) 3 3, .slice a2 (textBytes s).length c2, .slice a3 (encParts l).length c3] 41 (0, 0)) := by rw [hw4]; exact heap_alloc2_new w3 _ _
 rw [← hw4]
 have H0 : Lib.HoldsBytes w4 (.slice (some ⟨w3.heap.size, 0, none⟩) 3 3) [65, 65, 49] := by
  refine ⟨_, 3, rfl, (fun e => by cases e), fun ad had i x hx => ?_⟩
  simp only [Option.some.injEq] at had
  subst had
  rw [Lib.add_plain2, Nat.zero_add, cell_of_row w4 w3.heap.size i _ _ _ q0]
  rcases i with _ | _ | _ | i <;> simp at hx <;> subst hx <;> rfl
 have H1 := holds_of (r2'.out.mono EU8.stable hb34)
 have H2 := holds_of (r3.out.mono EU8.stable hb34)
 have hPA : Hid (Lib.PartsAt w4 ⟨w3.heap.size + 1, 0, none⟩ [.slice (some ⟨w3.heap.size, 0, none⟩) 3 3, .slice a2 (textBytes s).length c2, .slice a3 (encParts l).length c3] [[65, 65, 49], textBytes s, encParts l]) := by
  refine hid ⟨rfl, fun i u hu => ?_, fun i u m hu hm => ?_⟩
  · rw [Lib.add_plain2, Nat.zero_add, cell_of_row w4 (w3.heap.size + 1) i _ _ _ q1]
    rcases i with _ | _ | _ | i <;> simp at hu <;> subst hu <;> rfl
  rcases i with _ | _ | _ | i <;> simp at hu hm <;> subst hu <;> subst hm <;> assumption
 have hb4 := hid (b_call hb3.out hb34)
 have hS0 : Lib.HoldsBytes w4 (.slice none 0 0) [] := by refine ⟨none, 0, rfl, fun _ => rfl, fun _ e => ?_⟩; cases e
 clear H0 H1 H2 q0 q1 hw4 hb34 kc
 ((with_reducible refine (Tryz.bytes_Join (w3.heap.size + 1) 0 3 3 _ [[65, 65, 49], textBytes s, encParts l] (.slice none 0 0) [] w4 rfl (by decide) hPA.out (by decide) hS0 (by decide) (by simp [Lib.lens]; omega)).mono ?_); rintro e w5 ⟨v5, rfl, f5, b5⟩)
 have hj : Lib.join [[65, 65, 49], textBytes s, encParts l] [] = actBytes s l := by simp [Lib.join, actBytes, List.intercalate]
 rw [hj] at f5
 have r5 := hid (fresh_reads f5 (by simp only [actBytes, List.length_append, List.length_cons, List.length_nil]; omega))
 have hb5 := hid (b_call hb4.out b5)
 clear f5 b5
 go_wp2_with fail
 go_ret2
 exact ⟨_, rfl, r5.out, hb5.out⟩
set_option maxRecDepth 100000 in
theorem action_Encode (s : ByteArray) (v : Value) (l : List Part) (w : World) (hs : s.size ≤ 140737488351232) (h : RP w v l) :
 Calls Tryz.prog 31 #[.agg #[.string s, v]] w fun e w' => ∃ v', e = .returned (.tuple #[v', .int .i64 (actFault s l)]) ∧ RB w' v' (actRes s l) ∧ Below w.heap.size w w' := by
 by_cases hz : actFault s l = 0
 · unfold actRes
   rw [if_pos hz, hz]
   exact action_Encode_ok s v l w hs h hz
 have ht : (actFault s l != 0) = true := by simp [hz]
 have hr : actRes s l = [] := by unfold actRes; rw [if_neg hz]
 rw [hr]
 have hch := action_Check s v l _ hs (h.mono EPart.stable (b_alloc (Below.refl _ w) (Obj.cells #[.string s, v] 82)))
 generalize actFault s l = z at *
 clear hr
 replace hch := hid hch
 obtain ⟨a, c, rfl, -⟩ := h
 go_enter Tryz.func31, Tryz.ntmps31
 go_wp2_with fail
 ((with_reducible refine hch.out.mono ?_); rintro e w1 ⟨rfl, b1⟩)
 have hb1 := hid (b_call (b_alloc (Below.refl _ w) _) b1)
 clear b1
 go_wp2_with fail
 go_ret2
 exact ⟨_, rfl, RS.nil, hb1.out⟩
end Go.Proofs.YtpkpgehiplhkpaaGreat

namespace Go.Proofs.YtpkpgehiplhkpaaGreat
open Go.RowKit
end Go.Proofs.YtpkpgehiplhkpaaGreat

namespace Go.Proofs.YtpkpgehiplhkpaaGreat
open Go.RowKit
def isKind (k : Int) : Bool := decide (1 ≤ k ∧ k ≤ 14)
def hasN (k : Int) : Bool := decide (k = 9 ∨ k = 11 ∨ k = 12)
def hasD (k : Int) : Bool := decide ((2 ≤ k ∧ k ≤ 8) ∨ (12 ≤ k ∧ k ≤ 14))
def hasB (k : Int) : Bool := decide (k = 1)
def hasP (k : Int) : Bool := decide (k = 5 ∨ k = 13)
theorem kind_cases {k : Int} (h : 1 ≤ k ∧ k ≤ 14) : k = 1 ∨ k = 2 ∨ k = 3 ∨ k = 4 ∨ k = 5 ∨ k = 6 ∨ k = 7 ∨ k = 8 ∨ k = 9 ∨ k = 10 ∨ k = 11 ∨ k = 12 ∨ k = 13 ∨ k = 14 := by omega
set_option maxRecDepth 100000 in
set_option maxHeartbeats 1000000 in
theorem order_of (k : Int) (w : World) :
 Calls Tryz.prog 58 #[.int .i64 k] w fun e w' => e = .returned (.tuple #[.agg #[.bool (hasN k), .bool (hasD k), .bool (hasB k), .bool (hasP k)], .bool (isKind k)]) ∧ Below w.heap.size w w' := by
 by_cases h : 1 ≤ k ∧ k ≤ 14
 · rcases kind_cases h with rfl | rfl | rfl | rfl | rfl | rfl | rfl | rfl | rfl | rfl | rfl | rfl | rfl | rfl
   all_goals
    go_enter Tryz.func58, Tryz.ntmps58
    go_wp2_with fail
    go_returns
    refine ⟨rfl, ?_⟩
    first | exact Below.refl _ _ | exact b_alloc (Below.refl _ _) _
 have q1 : (k == 1) = false := by simp; omega
 have q2 : (k == 2) = false := by simp; omega
 have q3 : (k == 3) = false := by simp; omega
 have q4 : (k == 4) = false := by simp; omega
 have q5 : (k == 5) = false := by simp; omega
 have q6 : (k == 6) = false := by simp; omega
 have q7 : (k == 7) = false := by simp; omega
 have q8 : (k == 8) = false := by simp; omega
 have q9 : (k == 9) = false := by simp; omega
 have q10 : (k == 10) = false := by simp; omega
 have q11 : (k == 11) = false := by simp; omega
 have q12 : (k == 12) = false := by simp; omega
 have q13 : (k == 13) = false := by simp; omega
 have q14 : (k == 14) = false := by simp; omega
 have z1 : isKind k = false := by simp [isKind]; omega
 have z2 : hasN k = false := by simp [hasN]; omega
 have z3 : hasD k = false := by simp [hasD]; omega
 have z4 : hasB k = false := by simp [hasB]; omega
 have z5 : hasP k = false := by simp [hasP]; omega
 rw [z1, z2, z3, z4, z5]
 clear h z1 z2 z3 z4 z5
 go_enter Tryz.func58, Tryz.ntmps58
 go_wp2_with fail
 go_returns
 refine ⟨rfl, ?_⟩
 first | exact Below.refl _ _ | exact b_alloc (Below.refl _ _) _
structure Order where
 kind : Int
 n : Int
 digest : ByteArray
 data : List UInt8
 parts : List Part
def ordForm (fn fd fb fp : Bool) (n : Int) (d : ByteArray) (bl pl : Nat) : Bool :=
 decide ((n ≠ 0 ∧ fn = false) ∨ (d.size ≠ 0 ∧ fd = false) ∨ (bl ≠ 0 ∧ fb = false) ∨ (pl ≠ 0 ∧ fp = false))
def ordRest (fd : Bool) (n : Int) (d : ByteArray) (bl : Nat) (z : Int) : Int :=
 if n < 0 ∨ 4000 < n then 4 else if fd = true ∧ hexFault d ≠ 0 then hexFault d else if 300 < bl then 1 else z
def ordFault (o : Order) : Int :=
 if isKind o.kind = false then 2 else if ordForm (hasN o.kind) (hasD o.kind) (hasB o.kind) (hasP o.kind) o.n o.digest o.data.length o.parts.length = true then 3 else ordRest (hasD o.kind) o.n o.digest o.data.length (partsFault o.parts)
theorem ordFault_kind {o : Order} (h : isKind o.kind = false) : ordFault o = 2 := by unfold ordFault; rw [if_pos h]
theorem ordFault_form {o : Order} (h : isKind o.kind = true) (h2 : ordForm (hasN o.kind) (hasD o.kind) (hasB o.kind) (hasP o.kind) o.n o.digest o.data.length o.parts.length = true) : ordFault o = 3 := by
 unfold ordFault; rw [if_neg (by rw [h]; decide), if_pos h2]
theorem ordFault_rest {o : Order} (h : isKind o.kind = true) (h2 : ordForm (hasN o.kind) (hasD o.kind) (hasB o.kind) (hasP o.kind) o.n o.digest o.data.length o.parts.length = false) :
 ordFault o = ordRest (hasD o.kind) o.n o.digest o.data.length (partsFault o.parts) := by
 unfold ordFault; rw [if_neg (by rw [h]; decide), if_neg (by rw [h2]; decide)]
end Go.Proofs.YtpkpgehiplhkpaaGreat
