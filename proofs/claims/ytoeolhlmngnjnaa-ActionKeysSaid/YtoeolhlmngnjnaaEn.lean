/-
  manifest.Encode: what it answers. A variable that a closure has captured holds a row of bytes that the call owns. The reference's PartsBytes: what it answers.
-/
import Derived.Test.YtoeolhlmngnjnaaMnf
import Derived.Test.YtoeolhlmngnjnaaHx
import Derived.Test.YtoeolhlmngnjnaaWir
import Derived.Lib.SlBytesConst
import Derived.ArgAppend
namespace Go.Proofs.Ytoeolhlmngnjnaa
open Go.RowKit

/-- Block p holds the value of a slice that the call owns (from block B on) and that reads as l. -/
def OutAt (B p : Nat) (l : List UInt8) (w : World) : Prop := B ≤ p ∧ ∃ v, w.heap[p]? = some (.cells #[v] 27 (0, 0)) ∧ OS 5 1 cU8 w B v l
/-- What is no row of bytes and not block p stands. -/
def KeptBut (p : Nat) (w w' : World) : Prop := ∀ k cs T fr, w.heap[k]? = some (.cells cs T fr) → T ≠ 5 → k ≠ p → w'.heap[k]? = some (.cells cs T fr)
theorem OutAt.lt {B p : Nat} {l : List UInt8} {w : World} (h : OutAt B p l w) : p < w.heap.size := by
  obtain ⟨_, v, hb, _⟩ := h
  exact (Array.getElem?_eq_some_iff.1 hb).1
theorem OutAt.below {B p : Nat} {l : List UInt8} {w w' : World} (h : OutAt B p l w) (hb : Below w.heap.size w w') : OutAt B p l w' := by
  have hlt := h.lt
  obtain ⟨hB, v, hbk, hown⟩ := h
  exact ⟨hB, v, (hb.block p hlt).trans hbk, OS.below hown hb⟩
theorem kept_below {p : Nat} {w w' : World} (hb : Below w.heap.size w w') : KeptBut p w w' := fun k _ _ _ hk _ _ => (hb.block k (Array.getElem?_eq_some_iff.1 hk).1).trans hk
theorem KeptBut.trans {p : Nat} {w w1 w2 : World} (h : KeptBut p w w1) (g : KeptBut p w1 w2) : KeptBut p w w2 := fun k cs T fr hk hT hp => g k cs T fr (h k cs T fr hk hT hp) hT hp

set_option maxRecDepth 100000 in
set_option maxHeartbeats 1000000 in
theorem enc_add (B p : Nat) (l m : List UInt8) (vb : Value) (n : Int) (w : World) (h : OutAt B p l w) (hm : RB w vb m) (hB : B ≤ w.heap.size) (hl : l.length + m.length ≤ 100000) :
    Calls Try.prog 23 #[vb, .int .i64 n, .pointer (some ⟨p, 0, none⟩)] w fun e w' => e = .returned (.tuple #[]) ∧ OutAt B p (l ++ m) w' ∧ KeptBut p w w' ∧ Below B w w' := by
  obtain ⟨i0, hi, hz0, hz1, hz2⟩ := info_parts info_u8
  have hlt := h.lt
  obtain ⟨hBp, v, hbk, hown⟩ := h
  have hne : v.ownBlock ≠ some p := Lib.ownBlock_ne hown hbk (by decide)
  have c0 : w.cell? ⟨p, 0, none⟩ = some v := by rw [Lib.cell_of_heap hbk]; rfl
  obtain ⟨va, vc, rfl, -⟩ := id (OS.len_le hown)
  go_enter Try.func23, Try.ntmps23
  go_wp2_with (at_builtin; go_must (refine wpL_append flat_u8 rfl (.tmp 5) (.tmp 6) 27 rfl 5 i0 (.int .u8 0) Try.underlying27 hi hz0 hz1 hz2 rfl B _ l rfl hown _ m rfl hm ?c1 ?c2 ?c3 ?_))
  case c1 => omega
  case c2 => simp [maxLen]; omega
  case c3 => exact hB
  intro v' w2 hown' hgr
  have hb2 : w2.heap[p]? = some (.cells #[.slice va l.length vc] 27 (0, 0)) := (hgr.block p hlt (fun e => hne e.symm)).trans hbk
  have d0 : w2.cell? ⟨p, 0, none⟩ = some (.slice va l.length vc) := by rw [Lib.cell_of_heap hb2]; rfl
  have f0 : w2.frozen? ⟨p, 0, none⟩ = false := Lib.frozen_of_heap hb2 0
  have hne2 : v'.ownBlock ≠ some p := Lib.ownBlock_ne hown' hb2 (by decide)
  have hkeep : Hid (KeptBut p w (w2.setCell ⟨p, 0, none⟩ v')) := hid fun k cs T fr hk hT hp => by
    rw [heap_setCell_other _ _ _ _ hp, hgr.block k (Array.getElem?_eq_some_iff.1 hk).1 (fun e => Lib.ownBlock_ne hown hk hT e.symm)]
    exact hk
  have hout : Hid (OutAt B p (l ++ m) (w2.setCell ⟨p, 0, none⟩ v')) := by
    refine hid ⟨hBp, v', ?_, ?_⟩
    · simp [World.setCell, Array.getElem?_modify, hb2]
    · exact World.ownsRow.kept (row := some p) hown' ⟨rfl, rfl, rfl, by simp [World.setCell], fun k _ hk => Below.heap_setCell _ _ _ _ (fun e => hk (by simp [e]))⟩ (Or.inr hne2)
  have hbel : Hid (Below B w (w2.setCell ⟨p, 0, none⟩ v')) := hid (((Below.refl B w).grown hgr hB (OS.block hown)).setCell (p := ⟨p, 0, none⟩) hBp v')
  obtain ⟨va2, vc2, rfl, -⟩ := id (OS.len_le hown')
  simp only [List.length_append] at hkeep hout hbel
  clear hgr hown hown' hbk hb2 hne hne2
  go_wp2_with fail
  go_end0
  exact ⟨rfl, hout.out, hkeep.out, hbel.out⟩

set_option maxRecDepth 100000 in
set_option maxHeartbeats 1000000 in
/-- The same at a row that is full and that the call does not own as such (the sign). -/
theorem enc_add_first (B p q : Nat) (l m : List UInt8) (vb : Value) (n : Int) (w : World) (hbk : w.heap[p]? = some (.cells #[.slice (some ⟨q, 0, none⟩) l.length l.length] 27 (0, 0)))
    (hq : ∀ j u, (l.flatMap cU8)[j]? = some u → w.cell? ⟨q, j, none⟩ = some u) (hm : RB w vb m) (hm0 : m ≠ []) (hB : B ≤ w.heap.size) (hBp : B ≤ p) (hl : l.length + m.length ≤ 100000) :
    Calls Try.prog 23 #[vb, .int .i64 n, .pointer (some ⟨p, 0, none⟩)] w fun e w' => e = .returned (.tuple #[]) ∧ OutAt B p (l ++ m) w' ∧ KeptBut p w w' ∧ Below B w w' := by
  obtain ⟨i0, hi, hz0, hz1, hz2⟩ := info_parts info_u8
  have hlt : p < w.heap.size := (Array.getElem?_eq_some_iff.1 hbk).1
  have c0 : w.cell? ⟨p, 0, none⟩ = some (.slice (some ⟨q, 0, none⟩) l.length l.length) := by rw [Lib.cell_of_heap hbk]; rfl
  rcases hm.cells flat_u8 with ⟨rfl, rfl⟩ | ⟨ad, c, rfl, hc⟩
  · exact absurd rfl hm0
  have hml : 0 < m.length := List.length_pos_iff.2 hm0
  have hfl : (l.flatMap cU8).length = l.length * 1 := flat_len (cells := cU8) (fun _ => rfl) l
  have hfm : (m.flatMap cU8).length = m.length * 1 := flat_len (cells := cU8) (fun _ => rfl) m
  have hqq : ∀ b, (some (⟨q, 0, none⟩ : Addr)) = some b → ∀ j u, (l.flatMap cU8)[j]? = some u → w.cell? (b.add j) = some u := by
    intro b hb j u hj
    simp only [Option.some.injEq] at hb
    subst hb
    rw [show (⟨q, 0, none⟩ : Addr).add j = ⟨q, j, none⟩ by unfold Addr.add; split <;> simp_all]
    exact hq j u hj
  replace hc := hid hc
  replace hqq := hid hqq
  replace hfl := hid hfl
  replace hfm := hid hfm
  clear hq hm hm0
  go_enter Try.func23, Try.ntmps23
  go_wp2_with (at_builtin; go_must (refine wpList_append_grows _ rfl (.tmp 5) (.tmp 6) 27 rfl 5 i0 (.int .u8 0) 1 1 Try.underlying27 hi hz0 hz1 hz2 rfl (by decide) (some ⟨q, 0, none⟩) l.length l.length (l.flatMap cU8) rfl (fun h => by cases h) hfl.out hqq.out ad m.length c (m.flatMap cU8) rfl hfm.out hc.out ?c0 (by omega) ?c2 ?c3 ?_))
  case c0 => exact fun u hu => by obtain ⟨x, _, hx⟩ := List.mem_flatMap.1 hu; exact flat_u8.one x u hx
  case c2 => simp [maxLen]; omega
  case c3 => omega
  intro v' w2 hown0 hgr
  have hown' : OS 5 1 cU8 w2 w.heap.size v' (l ++ m) := by
    unfold OS
    rw [List.flatMap_append, List.length_append]
    exact hown0
  have hown' := OS.mono hown' hB
  have hb2 : w2.heap[p]? = some (.cells #[.slice (some ⟨q, 0, none⟩) l.length l.length] 27 (0, 0)) := (hgr.block p hlt (by simp)).trans hbk
  have d0 : w2.cell? ⟨p, 0, none⟩ = some (.slice (some ⟨q, 0, none⟩) l.length l.length) := by rw [Lib.cell_of_heap hb2]; rfl
  have f0 : w2.frozen? ⟨p, 0, none⟩ = false := Lib.frozen_of_heap hb2 0
  have hne2 : v'.ownBlock ≠ some p := Lib.ownBlock_ne hown' hb2 (by decide)
  have hkeep : Hid (KeptBut p w (w2.setCell ⟨p, 0, none⟩ v')) := hid fun k cs T fr hk hT hp => by
    rw [heap_setCell_other _ _ _ _ hp, hgr.block k (Array.getElem?_eq_some_iff.1 hk).1 (by simp)]
    exact hk
  have hout : Hid (OutAt B p (l ++ m) (w2.setCell ⟨p, 0, none⟩ v')) := by
    refine hid ⟨hBp, v', ?_, ?_⟩
    · simp [World.setCell, Array.getElem?_modify, hb2]
    · exact World.ownsRow.kept (row := some p) hown' ⟨rfl, rfl, rfl, by simp [World.setCell], fun k _ hk => Below.heap_setCell _ _ _ _ (fun e => hk (by simp [e]))⟩ (Or.inr hne2)
  have hbel : Hid (Below B w (w2.setCell ⟨p, 0, none⟩ v')) := hid ((b_grown (v := .slice none 0 0) (Below.refl w.heap.size w) hgr (fun k hk => by simp [Value.ownBlock] at hk)).mono hB |>.setCell (p := ⟨p, 0, none⟩) hBp v')
  obtain ⟨va2, vc2, rfl, -⟩ := id (OS.len_le hown')
  simp only [List.length_append] at hkeep hout hbel
  clear hgr hown0 hown' hbk hb2 hne2
  go_wp2_with fail
  go_end0
  exact ⟨rfl, hout.out, hkeep.out, hbel.out⟩

theorem varint_ne (n : Nat) : varint n ≠ [] := by
  rw [varint]
  split <;> simp

/-- The bytes of one part, of parts. -/
def encPart (x : Part) : List UInt8 := textBytes x.name ++ hexRes x.digest ++ varint x.size.toNat
def encParts (l : List Part) : List UInt8 := [65, 77, 49] ++ varint l.length ++ l.flatMap encPart

theorem encPart_len {x : Part} (h : nameFault x.name = 0 ∧ hexFault x.digest = 0 ∧ 0 ≤ x.size ∧ x.size ≤ 300) : (textBytes x.name).length ≤ 20 ∧ (hexRes x.digest).length = 32 ∧ (varint x.size.toNat).length ≤ 5 := by
  obtain ⟨h1, h2, h3, h4⟩ := h
  have hs := (textFault_zero h1).2.1
  have := textBytes_len x.name (by omega)
  exact ⟨by omega, (hexRes_ok h2).2.2, varint_len5 _ (by omega)⟩
theorem encs_len : ∀ {l : List Part}, (∀ x ∈ l, nameFault x.name = 0 ∧ hexFault x.digest = 0 ∧ 0 ≤ x.size ∧ x.size ≤ 300) → (l.flatMap encPart).length ≤ l.length * 60
  | [], _ => by simp
  | x :: l, h => by
    obtain ⟨a, b, c⟩ := encPart_len (h x (List.mem_cons_self ..))
    have := encs_len (l := l) (fun y hy => h y (List.mem_cons_of_mem _ hy))
    simp only [List.flatMap_cons, List.length_append, encPart, List.length_cons]
    omega
theorem encs_next {l : List Part} {k : Nat} {x : Part} (p : List UInt8) (hx : l[k]? = some x) : p ++ (l.take k).flatMap encPart ++ textBytes x.name ++ hexRes x.digest ++ varint x.size.toNat = p ++ (l.take (k + 1)).flatMap encPart := by
  rw [List.take_add_one, hx]
  simp [encPart, List.append_assoc]

set_option maxRecDepth 100000 in
set_option maxHeartbeats 1000000 in
theorem manifest_Encode_ok (v : Value) (l : List Part) (w : World) (h : RP w v l) (hz : partsFault l = 0) :
    Calls Try.prog 14 #[v] w fun e w' => ∃ v', e = .returned (.tuple #[v', .int .i64 0]) ∧ RB w' v' (encParts l) ∧ Below w.heap.size w w' := by
  have hP := hid h
  obtain ⟨a, c, rfl, hlc, hcm, hre, hno, hat⟩ := h
  unfold maxLen at hcm
  clear hno
  have hch := fun w (g : RP w (.slice a l.length c) l) => manifest_Check _ l w g
  rw [hz] at hch
  replace hch := hid hch
  obtain ⟨hl8, hall⟩ := partsFault_zero hz
  replace hall := hid hall
  replace hat := hid hat
  clear hz
  have kc := fun (W : World) (C : Array Value) (n c : Nat) => Lib.run_convert_bytes_const (P := Try.prog) W 27 5 C n c Try.underlying27 Try.underlying5
  go_enter Try.func14, Try.ntmps14
  go_wp2_with fail
  ((with_reducible refine (hch.out _ hP.out).mono ?_); rintro e w1 ⟨rfl, b1⟩)
  have hs1 := b1.size
  have hP1 := hid (hP.out.mono EPart.stable b1)
  go_wp2_with fail
  clear kc
  ((with_reducible refine (wire_Number (l.length : Int) _ (by omega) (by omega)).mono ?_); rintro e w2 ⟨v2, rfl, o2, b2⟩)
  have hn : (l.length : Int).toNat = l.length := Int.toNat_natCast _
  rw [hn] at o2
  have hv5 := varint_len5 l.length (by omega)
  have r2 := hid (reads_u8 o2 (by omega))
  have hp2 : Hid (w2.heap[w1.heap.size + 1]? = some (.cells #[.slice (some ⟨w1.heap.size, 0, none⟩) ([65, 77, 49] : List UInt8).length ([65, 77, 49] : List UInt8).length] 27 (0, 0))) := hid ((b2.block (w1.heap.size + 1) (by simp)).trans (heap_alloc2_new w1 _ _))
  have hq2 : Hid (∀ j u, (([65, 77, 49] : List UInt8).flatMap cU8)[j]? = some u → w2.cell? ⟨w1.heap.size, j, none⟩ = some u) := hid fun j u hj => by
    rw [cell_of_row w2 w1.heap.size j _ _ _ ((b2.block w1.heap.size (by simp; omega)).trans (heap_alloc2_old w1 _ _))]
    rw [← hj]
    rcases j with _ | _ | _ | j <;> rfl
  have b12 := hid (b_call b1 (b_call (b_alloc (b_alloc (Below.refl _ w1) _) _) b2))
  have hs2 : w1.heap.size + 1 < w2.heap.size := by have := b2.size; simp at this; omega
  replace hv5 := hid hv5
  have hvne : Hid (varint l.length ≠ []) := hid (varint_ne l.length)
  clear o2 b2 b1 hn
  go_wp2_with fail
  ((with_reducible refine (enc_add_first w.heap.size (w1.heap.size + 1) w1.heap.size [65, 77, 49] (varint l.length) v2 0 w2 hp2.out hq2.out r2.out hvne.out (by omega) (by omega) (by have := hv5.out; simp; omega)).mono ?_); rintro e w3 ⟨rfl, out3, -, b3⟩)
  have hs3 : w2.heap.size ≤ w3.heap.size := by have := b3.size; have := out3.lt; omega
  replace b3 := hid (b12.out.trans b3)
  replace out3 := hid out3
  clear hp2 hq2 r2 b12
  generalize w1.heap.size + 1 = p at *
  go_wp2_with fail
  go_loopw [26] (fun i wr => ∃ (k : Nat), k ≤ l.length ∧ i = .int .i64 k ∧ Hid (OutAt w.heap.size p ([65, 77, 49] ++ varint l.length ++ (l.take k).flatMap encPart) wr) ∧ Hid (Below w.heap.size w wr)) (fun i _ => l.length - (intOf i).toNat)
  case atStart => exact ⟨0, by omega, rfl, by simpa using out3, b3⟩
  case round =>
    obtain ⟨k, hk, rfl, hout, hb⟩ := hrel
    by_cases hlt : k < l.length
    · have hx : l[k]? = some l[k] := List.getElem?_eq_getElem hlt
      generalize l[k] = x at hx
      obtain ⟨bb, off, rfl, hbb, he⟩ := hat.out k _ hx
      obtain ⟨c0, c1, c2, s0, s1, wf⟩ := EPart.stable _ _ _ _ _ hb.out hbb he
      have hbw : bb < wr.heap.size := Nat.lt_of_lt_of_le hbb hb.out.size
      obtain ⟨hn, hd, g0, g1⟩ := hall.out x (List.mem_of_getElem? hx)
      clear he
      go_wp2_with fail
      have hlenk : ((l.take k).flatMap encPart).length ≤ 480 := by
        have := encs_len (l := l.take k) (fun y hy => hall.out y (List.mem_of_mem_take hy))
        have := List.length_take_le k l
        omega
      obtain ⟨l1, l2, l3⟩ := encPart_len ⟨hn, hd, g0, g1⟩
      have hnx := hid (encs_next ([65, 77, 49] ++ varint l.length) hx)
      have hlv := hv5.out
      have hname := (textFault_zero hn).2.1
      have hqp : wr.heap.size ≠ p := fun e => by have := hout.out.lt; omega
      have bx : Hid ((wr.alloc (Obj.cells #[.string x.name, .string x.digest, .int .i64 x.size] 41)).heap[wr.heap.size]? = some (.cells #[.string x.name, .string x.digest, .int .i64 x.size] 41 (0, 0))) := hid (heap_alloc_new wr _)
      have hout' := hid (hout.out.below (b_alloc (Below.refl _ wr) (Obj.cells #[.string x.name, .string x.digest, .int .i64 x.size] 41)))
      have hb' := hid (b_alloc hb.out (Obj.cells #[.string x.name, .string x.digest, .int .i64 x.size] 41))
      generalize wr.alloc (Obj.cells #[.string x.name, .string x.digest, .int .i64 x.size] 41) = wa at *
      generalize wr.heap.size = q at *
      clear hout hb c0 c1 c2
      have hq0 : q < wa.heap.size := (Array.getElem?_eq_some_iff.1 bx.out).1
      ((with_reducible refine (wire_Text x.name wa (by omega)).mono ?_); rintro e wb ⟨vb, rfl, ob, bb1⟩)
      replace bx := hid ((bb1.block q hq0).trans bx.out)
      replace hout' := hid (hout'.out.below bb1)
      replace hb' := hid (b_call hb'.out bb1)
      have rb := hid (reads_u8 ob (by omega))
      clear ob bb1
      go_wp2_with fail
      ((with_reducible refine (enc_add w.heap.size p _ (textBytes x.name) vb 0 wb hout'.out rb.out hb'.out.size (by simp only [List.length_append, List.length_cons, List.length_nil]; omega)).mono ?_); rintro e wc ⟨rfl, outc, kc, bc⟩)
      replace bx := hid (kc q _ _ _ bx.out (by decide) hqp)
      replace hout' := hid outc
      replace hb' := hid (hb'.out.trans bc)
      have e1 : wc.cell? ⟨q, 1, none⟩ = some (.string x.digest) := by rw [Lib.cell_of_heap bx.out]; rfl
      have hq0 : q < wc.heap.size := (Array.getElem?_eq_some_iff.1 bx.out).1
      clear outc kc bc rb
      go_wp2_with fail
      ((with_reducible refine (hex_Bytes_any x.digest wc s1).mono ?_); rintro e wd ⟨vd, rfl, rd, bd⟩)
      replace bx := hid ((bd.block q hq0).trans bx.out)
      replace hout' := hid (hout'.out.below bd)
      replace hb' := hid (b_call hb'.out bd)
      replace rd := hid rd
      clear bd e1
      go_wp2_with fail
      ((with_reducible refine (enc_add w.heap.size p _ (hexRes x.digest) vd (hexErr x.digest) wd hout'.out rd.out hb'.out.size (by simp only [List.length_append, List.length_cons, List.length_nil]; omega)).mono ?_); rintro e we ⟨rfl, oute, ke, be⟩)
      replace bx := hid (ke q _ _ _ bx.out (by decide) hqp)
      replace hout' := hid oute
      replace hb' := hid (hb'.out.trans be)
      have e2 : we.cell? ⟨q, 2, none⟩ = some (.int .i64 x.size) := by rw [Lib.cell_of_heap bx.out]; rfl
      clear oute ke be rd
      go_wp2_with fail
      ((with_reducible refine (wire_Number x.size we (by omega) (by omega)).mono ?_); rintro e wf ⟨vf, rfl, of', bf⟩)
      replace hout' := hid (hout'.out.below bf)
      replace hb' := hid (b_call hb'.out bf)
      have rf := hid (reads_u8 of' (by omega))
      clear of' bf e2
      go_wp2_with fail
      ((with_reducible refine (enc_add w.heap.size p _ (varint x.size.toNat) vf 0 wf hout'.out rf.out hb'.out.size (by simp only [List.length_append, List.length_cons, List.length_nil]; omega)).mono ?_); rintro e wg ⟨rfl, outg, -, bg⟩)
      replace hout' := hid (show OutAt w.heap.size p _ wg from hnx.out ▸ outg)
      replace hb' := hid (hb'.out.trans bg)
      clear outg bg rf bx
      go_wp2_with fail
      go_roundw
      case rel => exact ⟨k + 1, by omega, by go_num, hout', hb'⟩
      case measure => simp [intOf]; omega
    · obtain rfl : k = l.length := by omega
      obtain ⟨hBp, v, hbk, hown⟩ := hout.out
      have c0 : wr.cell? ⟨p, 0, none⟩ = some v := by rw [Lib.cell_of_heap hbk]; rfl
      rw [List.take_length] at hown
      replace hown := hid hown
      clear hout hbk
      go_wp2_with fail
      have hlen : (encParts l).length ≤ 1000 := by
        have := encs_len (l := l) hall.out
        have := hv5.out
        simp only [encParts, List.length_append, List.length_cons, List.length_nil]
        omega
      have rp : Hid (RB wr v (encParts l)) := hid (reads_u8 hown.out (show (encParts l).length ≤ 140737488351232 by omega))
      ((with_reducible refine (bytes_Clone v (encParts l) wr rp.out).mono ?_); rintro e wz ⟨vz, rfl, oz, bz⟩)
      have rz := hid (reads_u8 oz (by omega))
      have hbz := hid (b_call hb.out bz)
      clear oz bz
      go_wp2_with fail
      go_ret2
      exact ⟨_, rfl, rz.out, hbz.out⟩

/-- The answer's bytes: none where something is wrong. -/
def encRes (l : List Part) : List UInt8 := if partsFault l = 0 then encParts l else []
set_option maxRecDepth 100000 in
theorem manifest_Encode (v : Value) (l : List Part) (w : World) (h : RP w v l) :
    Calls Try.prog 14 #[v] w fun e w' => ∃ v', e = .returned (.tuple #[v', .int .i64 (partsFault l)]) ∧ RB w' v' (encRes l) ∧ Below w.heap.size w w' := by
  by_cases hz : partsFault l = 0
  · unfold encRes
    rw [if_pos hz, hz]
    exact manifest_Encode_ok v l w h hz
  · have ht : (partsFault l != 0) = true := by simp [hz]
    have hr : encRes l = [] := by unfold encRes; rw [if_neg hz]
    rw [hr]
    have hch := manifest_Check _ l w h
    generalize partsFault l = z at *
    clear hr
    replace hch := hid hch
    go_enter Try.func14, Try.ntmps14
    go_wp2_with fail
    ((with_reducible refine hch.out.mono ?_); rintro e w1 ⟨rfl, b1⟩)
    go_wp2_with fail
    go_ret2
    exact ⟨_, rfl, RS.nil, b1⟩
end Go.Proofs.Ytoeolhlmngnjnaa

namespace Go.Proofs.Ytoeolhlmngnjnaa
open Go.RowKit

/-- The string of one byte. -/
def one (n : Nat) : ByteArray := ⟨#[UInt8.ofNat n]⟩
theorem one_size (n : Nat) : (one n).size = 1 := rfl
theorem conv_i32 (n : Nat) (h : n < 128) (W : World) : (convert 3 21 (.int .i64 (n : Int))).run Try.prog W = .ok (.int .i32 (n : Int)) W := by
  rw [run_convert_int W 3 21 .i64 (n : Int) (by rw [Try.underlying3]; rfl) (by kernel_rfl)]
  have hk : (Try.prog).intKind 21 = .i32 := by kernel_rfl
  have hw : IntKind.i32.wrap (n : Int) = (n : Int) := by
    simp [IntKind.wrap, IntKind.signed, IntKind.bits]
    omega
  rw [hk, hw]
theorem conv_rune (n : Nat) (h : n < 128) (W : World) : (convert 21 9 (.int .i32 (n : Int))).run Try.prog W = .ok (.string (one n)) W := by
  rw [run_convert_int_string W 21 9 .i32 (n : Int) (by rw [Try.underlying21]; rfl) Try.underlying9]
  have hv : Utf8.valid (n : Int) = true := by simp [Utf8.valid]; omega
  have he : Utf8.encode (n : Int) = one n := by
    unfold Utf8.encode
    simp only [hv, if_true, Int.toNat_natCast]
    rw [if_pos h]
    rfl
  rw [he]

theorem varint_one (n : Nat) (h : n < 128) : varint n = [UInt8.ofNat n] := by
  rw [varint_small n h]
  rfl
theorem bstr_size (l : List UInt8) : (bstr l).size = l.length := by show l.toArray.size = l.length; simp
theorem toList_add (a b : ByteArray) : (a ++ b).data.toList = a.data.toList ++ b.data.toList := by simp

set_option maxRecDepth 100000 in
set_option maxHeartbeats 1000000 in
theorem ref_PartsBytes_ok (v : Value) (l : List Part) (w : World) (h : RP w v l) (hz : partsFault l = 0) :
    Calls Try.prog 17 #[v] w fun e w' => ∃ v', e = .returned (.tuple #[v', .int .i64 0]) ∧ RB w' v' (encParts l) ∧ Below w.heap.size w w' := by
  have hP := hid h
  obtain ⟨a, c, rfl, hlc, hcm, hre, hno, hat⟩ := h
  unfold maxLen at hcm
  clear hno
  have hch := fun w (g : RP w (.slice a l.length c) l) => ref_PartsFault _ l w g
  rw [hz] at hch
  replace hch := hid hch
  obtain ⟨hl8, hall⟩ := partsFault_zero hz
  replace hall := hid hall
  replace hat := hid hat
  clear hz
  go_enter Try.func17, Try.ntmps17
  go_wp2_with fail
  ((with_reducible refine (hch.out _ hP.out).mono ?_); rintro e w1 ⟨rfl, b1⟩)
  have hs1 := b1.size
  have hP1 := hid (hP.out.mono EPart.stable b1)
  have k1 := conv_i32 l.length (by omega)
  have k2 := conv_rune l.length (by omega)
  have hsz := one_size l.length
  generalize hone : one l.length = sg at *
  replace hone := hid hone
  go_wp2_with fail
  have hst : Hid ((((⟨#[65, 77, 49]⟩ : ByteArray) ++ sg).data.toList = [65, 77, 49] ++ varint l.length ++ (l.take 0).flatMap encPart)) := hid (by
    rw [toList_add, ← hone.out, varint_one _ (by omega)]; rfl)
  clear k1 k2
  go_loopw [5, 24] (fun sv i wr => ∃ (k : Nat) (s : ByteArray), k ≤ l.length ∧ sv = .string s ∧ i = .int .i64 k ∧ Hid (s.data.toList = [65, 77, 49] ++ varint l.length ++ (l.take k).flatMap encPart) ∧ Hid (Below w.heap.size w wr)) (fun _ i _ => l.length - (intOf i).toNat)
  case atStart => exact ⟨0, _, by omega, rfl, rfl, hst, hid b1⟩
  case round =>
    obtain ⟨k, s, hk, rfl, rfl, hs, hb⟩ := hrel
    have hv5 := varint_len5 l.length (by omega)
    have hss : s.size ≤ 500 := by
      have h1 : s.data.toList.length = s.size := by rw [Array.length_toList]; rfl
      have h2 := encs_len (l := l.take k) (fun y hy => hall.out y (List.mem_of_mem_take hy))
      have h3 := List.length_take_le k l
      rw [hs.out] at h1
      simp only [List.length_append, List.length_cons, List.length_nil] at h1
      omega
    by_cases hlt : k < l.length
    · have hx : l[k]? = some l[k] := List.getElem?_eq_getElem hlt
      generalize l[k] = x at hx
      obtain ⟨bb, off, rfl, hbb, he⟩ := hat.out k _ hx
      obtain ⟨c0, c1, c2, s0, s1, wf⟩ := EPart.stable _ _ _ _ _ hb.out hbb he
      have hbw : bb < wr.heap.size := Nat.lt_of_lt_of_le hbb hb.out.size
      obtain ⟨hn, hd, g0, g1⟩ := hall.out x (List.mem_of_getElem? hx)
      clear he
      obtain ⟨l1, l2, l3⟩ := encPart_len ⟨hn, hd, g0, g1⟩
      have hnx := hid (encs_next ([65, 77, 49] ++ varint l.length) hx)
      have hname := (textFault_zero hn).2.1
      have k1 := conv_i32 x.name.size (by omega)
      have k2 := conv_rune x.name.size (by omega)
      have hsz1 := one_size x.name.size
      generalize hone1 : one x.name.size = sn at *
      replace hone1 := hid hone1
      go_wp2_with fail
      have bx : Hid ((wr.alloc (Obj.cells #[.string x.name, .string x.digest, .int .i64 x.size] 41)).heap[wr.heap.size]? = some (.cells #[.string x.name, .string x.digest, .int .i64 x.size] 41 (0, 0))) := hid (heap_alloc_new wr _)
      have hb' := hid (b_alloc hb.out (Obj.cells #[.string x.name, .string x.digest, .int .i64 x.size] 41))
      generalize wr.alloc (Obj.cells #[.string x.name, .string x.digest, .int .i64 x.size] 41) = wa at *
      generalize wr.heap.size = q at *
      clear hb c0 c1 c2
      have hq0 : q < wa.heap.size := (Array.getElem?_eq_some_iff.1 bx.out).1
      ((with_reducible refine (ref_HexBytes_any x.digest wa s1).mono ?_); rintro e wd ⟨vd, rfl, rd, bd⟩)
      replace bx := hid ((bd.block q hq0).trans bx.out)
      replace hb' := hid (b_call hb'.out bd)
      have e2 : wd.cell? ⟨q, 2, none⟩ = some (.int .i64 x.size) := by rw [Lib.cell_of_heap bx.out]; rfl
      have hq0 : q < wd.heap.size := (Array.getElem?_eq_some_iff.1 bx.out).1
      obtain ⟨da, dc, rfl, -⟩ := id rd
      replace rd := hid rd
      clear bd
      go_wp2_with fail
      ((with_reducible refine (ref_WireNumber x.size wd (by omega) (by omega)).mono ?_); rintro e we ⟨vn, rfl, on, be⟩)
      replace bx := hid ((be.block q hq0).trans bx.out)
      replace hb' := hid (b_call hb'.out be)
      have rn := reads_u8 on (by omega)
      obtain ⟨na, nc, rfl, -⟩ := id rn
      have e0 : we.cell? ⟨q, 0, none⟩ = some (.string x.name) := by rw [Lib.cell_of_heap bx.out]; rfl
      have cd := run_string_of 27 5 Try.underlying27 Try.underlying5 9 Try.underlying9 (rd.out.mono EU8.stable be)
      rw [l2] at cd
      have cn := run_string_of 27 5 Try.underlying27 Try.underlying5 9 Try.underlying9 rn
      have hb1 : Hid ((bstr (hexRes x.digest)).data.toList = hexRes x.digest) := hid (by simp [bstr])
      have hb2 : Hid ((bstr (varint x.size.toNat)).data.toList = varint x.size.toNat) := hid (by simp [bstr])
      have hz1 : (bstr (hexRes x.digest)).size = 32 := (bstr_size _).trans l2
      have hz2 : (bstr (varint x.size.toNat)).size ≤ 5 := Nat.le_trans (Nat.le_of_eq (bstr_size _)) l3
      generalize bstr (hexRes x.digest) = sd at *
      generalize bstr (varint x.size.toNat) = sv at *
      clear rn on be e2
      go_wp2_with fail
      have hfin : Hid ((s ++ (sn ++ x.name ++ sd ++ sv)).data.toList = [65, 77, 49] ++ varint l.length ++ (l.take (k + 1)).flatMap encPart) := hid (by
        rw [← hnx.out]
        simp only [toList_add, hs.out, hb1.out, hb2.out, ← hone1.out, textBytes, varint_one x.name.size (by omega), one, List.append_assoc])
      go_roundw
      case rel => exact ⟨k + 1, _, by omega, rfl, by go_num, hfin, hb'⟩
      case measure => simp [intOf]; omega
    · obtain rfl : k = l.length := by omega
      rw [List.take_length] at hs
      have hcv := Lib.run_convert_string_bytes (P := Try.prog) wr 9 27 5 s Try.underlying9 Try.underlying27 Try.underlying5
      have hrd := conv_reads wr 5 s (by omega)
      have hbl := hid (b_call hb.out (conv_below wr 5 s))
      generalize Lib.bytesWorld wr 5 s = w2 at hcv hrd hbl
      generalize grownCap wr s.size 0 5 = c2 at hcv hrd
      generalize wr.heap.size = b2 at hcv hrd
      rw [hs.out] at hrd
      replace hrd : Hid (RB w2 (.slice (some ⟨b2, 0, none⟩) s.size c2) (encParts l)) := hid hrd
      clear hs hb
      go_wp2_with fail
      go_ret2
      exact ⟨_, rfl, hrd.out, hbl.out⟩
set_option maxRecDepth 100000 in
theorem ref_PartsBytes (v : Value) (l : List Part) (w : World) (h : RP w v l) :
    Calls Try.prog 17 #[v] w fun e w' => ∃ v', e = .returned (.tuple #[v', .int .i64 (partsFault l)]) ∧ RB w' v' (encRes l) ∧ Below w.heap.size w w' := by
  by_cases hz : partsFault l = 0
  · unfold encRes
    rw [if_pos hz, hz]
    exact ref_PartsBytes_ok v l w h hz
  · have ht : (partsFault l != 0) = true := by simp [hz]
    have hr : encRes l = [] := by unfold encRes; rw [if_neg hz]
    rw [hr]
    have hch := ref_PartsFault _ l w h
    generalize partsFault l = z at *
    clear hr
    replace hch := hid hch
    go_enter Try.func17, Try.ntmps17
    go_wp2_with fail
    ((with_reducible refine hch.out.mono ?_); rintro e w1 ⟨rfl, b1⟩)
    go_wp2_with fail
    go_ret2
    exact ⟨_, rfl, RS.nil, b1⟩
end Go.Proofs.Ytoeolhlmngnjnaa
