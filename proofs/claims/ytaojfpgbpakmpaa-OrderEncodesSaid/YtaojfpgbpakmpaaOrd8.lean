/-
  order.Encode: what it answers. Printed by gen_ordenc.py.
-/
import Derived.Test.YtaojfpgbpakmpaaOrd7
import Derived.Test.YtaojfpgbpakmpaaEnc2
namespace Go.Proofs.Ytaojfpgbpakmpaa
open Go.RowKit

set_option maxRecDepth 100000 in
set_option maxHeartbeats 1000000 in
theorem ord_add (B p : Nat) (l m : List UInt8) (vb : Value) (n : Int) (w : World) (h : OutAt B p l w) (hm : RB w vb m) (hB : B ≤ w.heap.size) (hl : l.length + m.length ≤ 100000) :
    Calls Try.prog 107 #[vb, .int .i64 n, .pointer (some ⟨p, 0, none⟩)] w fun e w' => e = .returned (.tuple #[]) ∧ OutAt B p (l ++ m) w' ∧ KeptBut p w w' ∧ Below B w w' := by
  obtain ⟨i0, hi, hz0, hz1, hz2⟩ := info_parts info_u8
  have hlt := h.lt
  obtain ⟨hBp, v, hbk, hown⟩ := h
  have hne : v.ownBlock ≠ some p := Lib.ownBlock_ne hown hbk (by decide)
  have c0 : w.cell? ⟨p, 0, none⟩ = some v := by rw [Lib.cell_of_heap hbk]; rfl
  obtain ⟨va, vc, rfl, -⟩ := id (OS.len_le hown)
  go_enter Try.func107, Try.ntmps107
  go_wp2_with (at_builtin; go_must (refine wpL_append flat_u8 rfl (.tmp 5) (.tmp 6) 38 rfl 5 i0 (.int .u8 0) Try.underlying38 hi hz0 hz1 hz2 rfl B _ l rfl hown _ m rfl hm ?c1 ?c2 ?c3 ?_))
  case c1 => omega
  case c2 => simp [maxLen]; omega
  case c3 => exact hB
  intro v' w2 hown' hgr
  have hb2 : w2.heap[p]? = some (.cells #[.slice va l.length vc] 38 (0, 0)) := (hgr.block p hlt (fun e => hne e.symm)).trans hbk
  have d0 : w2.cell? ⟨p, 0, none⟩ = some (.slice va l.length vc) := by rw [Lib.cell_of_heap hb2]; rfl
  have f0 : w2.frozen? ⟨p, 0, none⟩ = false := Lib.frozen_of_heap hb2 0
  have hne2 : v'.ownBlock ≠ some p := Lib.ownBlock_ne hown' hb2 (by decide)
  have hkeep : Hid (KeptBut p w (w2.setCell ⟨p, 0, none⟩ v')) := hid fun k cs T fr hk hT hp => by
    rw [heap_setCell_other _ _ _ _ hp, hgr.block k (Array.getElem?_eq_some_iff.1 hk).1 (fun e => Lib.ownBlock_ne hown hk hT e.symm)]
    exact hk
  have hout : Hid (OutAt B p (l ++ m) (w2.setCell ⟨p, 0, none⟩ v')) := by
    refine hid ⟨hBp, v', ?_, ?_⟩
    · simp [World.setCell, Array.getElem?_modify, hb2]
    · exact World.ownsRow.kept (row := some p) hown' ⟨rfl, rfl, rfl, by simp [World.setCell], fun k _ hk => Below.heap_setCell _ _ _ _ (fun e => hk (by simp [e]))⟩ (Or.inr hne2)
  have hbel : Hid (Below B w (w2.setCell ⟨p, 0, none⟩ v')) := hid (((Below.refl B w).grown hgr hB (OS.block hown)).setCell (p := ⟨p, 0, none⟩) hBp v')
  obtain ⟨va2, vc2, rfl, -⟩ := id (OS.len_le hown')
  simp only [List.length_append] at hkeep hout hbel
  clear hgr hown hown' hbk hb2 hne hne2
  go_wp2_with fail
  go_end0
  exact ⟨rfl, hout.out, hkeep.out, hbel.out⟩


def opt (c : Bool) (l : List UInt8) : List UInt8 := if c = true then l else []
theorem opt_true (l : List UInt8) : opt true l = l := rfl
theorem opt_false (l : List UInt8) : opt false l = [] := rfl
/-- The bytes of an order. -/
def ordBytes (o : Order) : List UInt8 :=
  varint o.kind.toNat ++ opt (hasN o.kind) (varint o.n.toNat) ++ opt (hasD o.kind) (hexRes o.digest) ++ opt (hasB o.kind) (textBytes (bstr o.data)) ++ opt (hasP o.kind) (encParts o.parts)
def ordRes (o : Order) : List UInt8 := if ordFault o = 0 then ordBytes o else []
theorem ordFault_zero {o : Order} (h : ordFault o = 0) : isKind o.kind = true ∧ 0 ≤ o.n ∧ o.n ≤ 4000 ∧ (hasD o.kind = true → hexFault o.digest = 0) ∧ o.data.length ≤ 300 ∧ partsFault o.parts = 0 := by
  unfold ordFault at h
  split at h
  · cases h
  · rename_i h1
    split at h
    · cases h
    · unfold ordRest at h
      split at h
      · cases h
      · rename_i h3
        split at h
        · rename_i h4; exact absurd h h4.2
        · rename_i h4
          split at h
          · cases h
          · rename_i h5
            refine ⟨by simpa using h1, by omega, by omega, fun hd => ?_, by omega, h⟩
            apply Classical.byContradiction
            intro hn
            exact h4 ⟨hd, hn⟩
theorem isKind_range {k : Int} (h : isKind k = true) : 1 ≤ k ∧ k ≤ 14 := of_decide_eq_true h
theorem encParts_len' {l : List Part} (h : partsFault l = 0) : (encParts l).length ≤ 1000 := by
  obtain ⟨h8, hall⟩ := partsFault_zero h
  have := encs_len hall
  have := varint_len5 l.length (by omega)
  simp only [encParts, List.length_append, List.length_cons, List.length_nil]
  omega
theorem opt_len {c : Bool} {l : List UInt8} {n : Nat} (h : l.length ≤ n) : (opt c l).length ≤ n := by
  unfold opt
  split
  · exact h
  · simp
theorem hexRes_le (s : ByteArray) (h : hexFault s = 0) : (hexRes s).length ≤ 32 := by rw [(hexRes_ok h).2.2]; exact Nat.le_refl _

/-- What is known between two adds: the bytes so far; the order's and the fields' boxes; the world. -/
structure ES (o : Order) (da : Option Addr) (dc : Nat) (pa : Option Addr) (pc : Nat) (fn fd fb fp : Bool) (w0 : World) (b q p : Nat) (acc : List UInt8) (w : World) : Prop where
  out : OutAt w0.heap.size p acc w
  box : w.heap[b]? = some (.cells #[.int .i64 o.kind, .int .i64 o.n, .string o.digest, .slice da o.data.length dc, .slice pa o.parts.length pc] 41 (0, 0))
  flds : w.heap[q]? = some (.cells #[.bool fn, .bool fd, .bool fb, .bool fp] 128 (0, 0))
  bel : Below w0.heap.size w0 w
theorem ES.below {o : Order} {da : Option Addr} {dc : Nat} {pa : Option Addr} {pc : Nat} {fn fd fb fp : Bool} {w0 w w' : World} {b q p : Nat} {acc : List UInt8} (h : ES o da dc pa pc fn fd fb fp w0 b q p acc w) (hb : Below w.heap.size w w') : ES o da dc pa pc fn fd fb fp w0 b q p acc w' :=
  ⟨h.out.below hb, (hb.block b (Array.getElem?_eq_some_iff.1 h.box).1).trans h.box, (hb.block q (Array.getElem?_eq_some_iff.1 h.flds).1).trans h.flds, b_call h.bel hb⟩
theorem ES.add {o : Order} {da : Option Addr} {dc : Nat} {pa : Option Addr} {pc : Nat} {fn fd fb fp : Bool} {w0 w w' : World} {b q p : Nat} {acc acc' : List UInt8} (h : ES o da dc pa pc fn fd fb fp w0 b q p acc w) (hb : b ≠ p) (hq : q ≠ p) (ho : OutAt w0.heap.size p acc' w') (hk : KeptBut p w w') (hbel : Below w0.heap.size w w') :
    ES o da dc pa pc fn fd fb fp w0 b q p acc' w' :=
  ⟨ho, hk b _ _ _ h.box (by decide) hb, hk q _ _ _ h.flds (by decide) hq, h.bel.trans hbel⟩

set_option maxRecDepth 100000 in
set_option maxHeartbeats 4000000 in
theorem order_Encode_ok (o : Order) (dv pv : Value) (w : World) (hd : RB w dv o.data) (hp : RP w pv o.parts) (hs : o.digest.size ≤ 140737488351232) (hz : ordFault o = 0) :
    Calls Try.prog 35 #[.agg #[.int .i64 o.kind, .int .i64 o.n, .string o.digest, dv, pv]] w fun e w' => ∃ v', e = .returned (.tuple #[v', .int .i64 0]) ∧ RB w' v' (ordBytes o) ∧ Below w.heap.size w w' := by
  have hch := fun w (g1 : RB w dv o.data) (g2 : RP w pv o.parts) => order_Check o dv pv w g1 g2 hs
  rw [hz] at hch
  obtain ⟨hik, hn0, hn1, hdd, hdl, hpf⟩ := ordFault_zero hz
  have hof := fun w => order_of o.kind w
  rw [hik] at hof
  obtain ⟨hk1, hk2⟩ := isKind_range hik
  have hen := fun w (g : RP w pv o.parts) => manifest_Encode pv o.parts w g
  have her : encRes o.parts = encParts o.parts := by unfold encRes; rw [if_pos hpf]
  rw [hpf, her] at hen
  have hel := encParts_len' hpf
  have hbs := bstr_size o.data
  have htl := textBytes_len (bstr o.data) (by omega)
  have hv5 := varint_len5 o.kind.toNat (by omega)
  have hv6 := varint_len5 o.n.toNat (by omega)
  have hxl : (opt (hasD o.kind) (hexRes o.digest)).length ≤ 32 := by
    unfold opt
    split
    · rename_i h; exact hexRes_le o.digest (hdd h)
    · simp
  replace hch := hid hch
  replace hof := hid hof
  replace hen := hid hen
  replace hbs := hid hbs
  clear her hz hik hdd hpf
  have hfin : Hid (ordBytes o = varint o.kind.toNat ++ opt (hasN o.kind) (varint o.n.toNat) ++ opt (hasD o.kind) (hexRes o.digest) ++ opt (hasB o.kind) (textBytes (bstr o.data)) ++ opt (hasP o.kind) (encParts o.parts)) := hid rfl
  generalize ordBytes o = res at *
  have hD := hid hd
  have hP := hid hp
  obtain ⟨da, dc, rfl, -⟩ := hd
  obtain ⟨pa, pc, rfl, -⟩ := hp
  generalize hasN o.kind = fn at *
  generalize hasD o.kind = fd at *
  generalize hasB o.kind = fb at *
  generalize hasP o.kind = fp at *
  go_enter Try.func35, Try.ntmps35
  go_wp2_with fail
  ((with_reducible refine (hch.out _ (hD.out.mono EU8.stable (b_alloc (Below.refl _ _) _)) (hP.out.mono EPart.stable (b_alloc (Below.refl _ _) _))).mono ?_); rintro e w1 ⟨rfl, b1⟩)
  have hx1 := hid ((b1.block w.heap.size (by simp)).trans (heap_alloc_new w _))
  have hb1 := hid (b_call (b_alloc (Below.refl w.heap.size w) _) b1)
  obtain ⟨x0, x1, x2, x3, x4⟩ := box5 hx1.out
  have hs1 : w.heap.size < w1.heap.size := by have := b1.size; simp at this; omega
  clear b1
  go_wp2_with fail
  ((with_reducible refine (hof.out _).mono ?_); rintro e w2 ⟨rfl, b2⟩)
  have hx2 := hid ((b2.block w.heap.size hs1).trans hx1.out)
  have hb2 := hid (b_call hb1.out b2)
  have hs2 : w.heap.size < w2.heap.size := Nat.lt_of_lt_of_le hs1 b2.size
  clear b2 hx1 hb1 x0 x1 x2 x3 x4
  obtain ⟨y0, y1, y2, y3, y4⟩ := box5 hx2.out
  go_upto_region 7 with fail
  obtain ⟨W3, hW3⟩ : ∃ W3, W3 = (w2.alloc (Obj.cells #[.bool fn, .bool fd, .bool fb, .bool fp] 128)).alloc (Obj.cells #[.slice none 0 0] 38) := ⟨_, rfl⟩
  have st : Hid (ES o da dc pa pc fn fd fb fp w w.heap.size w2.heap.size (w2.heap.size + 1) [] W3) := hid (by
    rw [hW3]
    refine ⟨⟨by omega, _, heap_alloc2_new w2 _ _, OS.nil⟩, ?_, heap_alloc2_old w2 _ _, b_alloc (b_alloc hb2.out _) _⟩
    exact ((b_alloc (b_alloc (Below.refl _ w2) _) _).block _ hs2).trans hx2.out)
  rw [← hW3]
  have hbp : w.heap.size ≠ w2.heap.size + 1 := by omega
  have hqp : w2.heap.size ≠ w2.heap.size + 1 := by omega
  clear hW3 y0 y1 y2 y3 y4 hx2 hb2 hs1 hs2
  generalize w2.heap.size + 1 = p at *
  generalize w2.heap.size = q at *
  obtain ⟨b, hb⟩ : ∃ b, w.heap.size = b := ⟨_, rfl⟩
  have st' : Hid (ES o da dc pa pc fn fd fb fp w b q p [] W3) := hid (hb ▸ st.out)
  rw [hb] at hbp ⊢
  replace hb := hid hb
  clear st
  obtain ⟨x0, x1, x2, x3, x4⟩ := box5 st'.out.box
  go_wp2_with fail
  ((with_reducible refine (wire_Number o.kind _ (by omega) (by omega)).mono ?_); rintro e wa ⟨va, rfl, oa, ba⟩)
  have st1 := hid (st'.out.below ba)
  have ra := hid (reads_u8 oa (by have := hbs.out; omega))
  clear oa ba x0 x1 x2 x3 x4
  go_wp2_with fail
  ((with_reducible refine (ord_add w.heap.size p _ (varint o.kind.toNat) va 0 wa st1.out.out ra.out st1.out.bel.size (by simp; omega)).mono ?_); rintro e wb ⟨rfl, ob, kb, bb⟩)
  have st2 := hid (st1.out.add hbp hqp ob kb bb)
  clear ob kb bb ra st1
  rw [List.nil_append] at st2
  clear st'
  have st' := st2
  clear st2
  have hf := st'.out.flds
  have fl0 : wb.cell? ⟨q, 0, none⟩ = some (.bool fn) := cell_of_row _ _ 0 _ _ _ hf
  clear hf
  go_upto_if 29 with fail
  go_cut [] (fun wx => Hid (ES o da dc pa pc fn fd fb fp w b q p (varint o.kind.toNat ++ opt fn (varint o.n.toNat)) wx))
  case first =>
    cases fn with
    | true =>
      obtain ⟨x0, x1, x2, x3, x4⟩ := box5 st'.out.box
      go_wp2_with fail
      ((with_reducible refine (wire_Number o.n _ (by omega) (by omega)).mono ?_); rintro e wa ⟨va, rfl, oa, ba⟩)
      have st1 := hid (st'.out.below ba)
      have ra := hid (reads_u8 oa (by have := hbs.out; omega))
      clear oa ba x0 x1 x2 x3 x4
      go_wp2_with fail
      ((with_reducible refine (ord_add w.heap.size p _ (varint o.n.toNat) va 0 wa st1.out.out ra.out st1.out.bel.size (by omega)).mono ?_); rintro e wb ⟨rfl, ob, kb, bb⟩)
      have st2 := hid (st1.out.add hbp hqp ob kb bb)
      clear ob kb bb ra st1
      go_wp2_with fail
      go_meet
      exact hid (by rw [opt_true]; exact st2.out)
    | false =>
      go_wp2_with fail
      go_meet
      exact hid (by rw [opt_false, List.append_nil]; exact st'.out)
  case rest =>
  have st2 : Hid (ES o da dc pa pc fn fd fb fp w b q p (varint o.kind.toNat ++ opt fn (varint o.n.toNat)) wc) := hcut
  clear hcut fl0 st'
  have st' := st2
  clear st2
  have hf := st'.out.flds
  have fl0 : wc.cell? ⟨q, 1, none⟩ = some (.bool fd) := cell_of_row _ _ 1 _ _ _ hf
  clear hf
  go_upto_if 38 with fail
  go_cut [] (fun wx => Hid (ES o da dc pa pc fn fd fb fp w b q p (varint o.kind.toNat ++ opt fn (varint o.n.toNat) ++ opt fd (hexRes o.digest)) wx))
  case first =>
    cases fd with
    | true =>
      obtain ⟨x0, x1, x2, x3, x4⟩ := box5 st'.out.box
      go_wp2_with fail
      ((with_reducible refine (hex_Bytes_any o.digest _ hs).mono ?_); rintro e wa ⟨va, rfl, ra, ba⟩)
      have st1 := hid (st'.out.below ba)
      replace ra := hid ra
      clear  ba x0 x1 x2 x3 x4
      go_wp2_with fail
      ((with_reducible refine (ord_add w.heap.size p _ (hexRes o.digest) va (hexErr o.digest) wa st1.out.out ra.out st1.out.bel.size (by have : (hexRes o.digest).length ≤ 32 := (opt_true (hexRes o.digest)) ▸ hxl; have := opt_len (c := fn) (l := varint o.n.toNat) hv6; simp only [List.length_append]; omega)).mono ?_); rintro e wb ⟨rfl, ob, kb, bb⟩)
      have st2 := hid (st1.out.add hbp hqp ob kb bb)
      clear ob kb bb ra st1
      go_wp2_with fail
      go_meet
      exact hid (by rw [opt_true]; exact st2.out)
    | false =>
      go_wp2_with fail
      go_meet
      exact hid (by rw [opt_false, List.append_nil]; exact st'.out)
  case rest =>
  have st2 : Hid (ES o da dc pa pc fn fd fb fp w b q p (varint o.kind.toNat ++ opt fn (varint o.n.toNat) ++ opt fd (hexRes o.digest)) wc) := hcut
  clear hcut fl0 st'
  have st' := st2
  clear st2
  have hf := st'.out.flds
  have fl0 : wc.cell? ⟨q, 2, none⟩ = some (.bool fb) := cell_of_row _ _ 2 _ _ _ hf
  clear hf
  go_upto_if 47 with fail
  go_cut [] (fun wx => Hid (ES o da dc pa pc fn fd fb fp w b q p (varint o.kind.toNat ++ opt fn (varint o.n.toNat) ++ opt fd (hexRes o.digest) ++ opt fb (textBytes (bstr o.data))) wx))
  case first =>
    cases fb with
    | true =>
      have cd := run_string_of 38 5 Try.underlying38 Try.underlying5 9 Try.underlying9 (hD.out.mono EU8.stable st'.out.bel)
      obtain ⟨x0, x1, x2, x3, x4⟩ := box5 st'.out.box
      go_wp2_with fail
      ((with_reducible refine (wire_Text (bstr o.data) _ (by have := hbs.out; omega)).mono ?_); rintro e wa ⟨va, rfl, oa, ba⟩)
      have st1 := hid (st'.out.below ba)
      have ra := hid (reads_u8 oa (by have := hbs.out; omega))
      clear oa ba x0 x1 x2 x3 x4
      go_wp2_with fail
      ((with_reducible refine (ord_add w.heap.size p _ (textBytes (bstr o.data)) va 0 wa st1.out.out ra.out st1.out.bel.size (by have := hbs.out; have := hxl; have := opt_len (c := fn) (l := varint o.n.toNat) hv6; simp only [List.length_append]; omega)).mono ?_); rintro e wb ⟨rfl, ob, kb, bb⟩)
      have st2 := hid (st1.out.add hbp hqp ob kb bb)
      clear ob kb bb ra st1
      go_wp2_with fail
      go_meet
      exact hid (by rw [opt_true]; exact st2.out)
    | false =>
      go_wp2_with fail
      go_meet
      exact hid (by rw [opt_false, List.append_nil]; exact st'.out)
  case rest =>
  have st2 : Hid (ES o da dc pa pc fn fd fb fp w b q p (varint o.kind.toNat ++ opt fn (varint o.n.toNat) ++ opt fd (hexRes o.digest) ++ opt fb (textBytes (bstr o.data))) wc) := hcut
  clear hcut fl0 st'
  have st' := st2
  clear st2
  have hf := st'.out.flds
  have fl0 : wc.cell? ⟨q, 3, none⟩ = some (.bool fp) := cell_of_row _ _ 3 _ _ _ hf
  clear hf
  go_upto_if 57 with fail
  go_cut [] (fun wx => Hid (ES o da dc pa pc fn fd fb fp w b q p (varint o.kind.toNat ++ opt fn (varint o.n.toNat) ++ opt fd (hexRes o.digest) ++ opt fb (textBytes (bstr o.data)) ++ opt fp (encParts o.parts)) wx))
  case first =>
    cases fp with
    | true =>
      obtain ⟨x0, x1, x2, x3, x4⟩ := box5 st'.out.box
      go_wp2_with fail
      ((with_reducible refine (hen.out _ (hP.out.mono EPart.stable st'.out.bel)).mono ?_); rintro e wa ⟨va, rfl, ra, ba⟩)
      have st1 := hid (st'.out.below ba)
      replace ra := hid ra
      clear  ba x0 x1 x2 x3 x4
      go_wp2_with fail
      ((with_reducible refine (ord_add w.heap.size p _ (encParts o.parts) va 0 wa st1.out.out ra.out st1.out.bel.size (by have := hbs.out; have := hxl; have := opt_len (c := fn) (l := varint o.n.toNat) hv6; have := opt_len (c := fb) (l := textBytes (bstr o.data)) htl; simp only [List.length_append]; omega)).mono ?_); rintro e wb ⟨rfl, ob, kb, bb⟩)
      have st2 := hid (st1.out.add hbp hqp ob kb bb)
      clear ob kb bb ra st1
      go_wp2_with fail
      go_meet
      exact hid (by rw [opt_true]; exact st2.out)
    | false =>
      go_wp2_with fail
      go_meet
      exact hid (by rw [opt_false, List.append_nil]; exact st'.out)
  case rest =>
  have st2 : Hid (ES o da dc pa pc fn fd fb fp w b q p (varint o.kind.toNat ++ opt fn (varint o.n.toNat) ++ opt fd (hexRes o.digest) ++ opt fb (textBytes (bstr o.data)) ++ opt fp (encParts o.parts)) wc) := hcut
  clear hcut fl0 st'
  rw [← hfin.out] at st2
  obtain ⟨⟨hBp, v, hbk, hown⟩, -, -, hbel⟩ := st2.out
  have hrl : res.length ≤ 2000 := by
    have := hbs.out
    have := opt_len (c := fn) (l := varint o.n.toNat) hv6
    have := opt_len (c := fb) (l := textBytes (bstr o.data)) htl
    have := opt_len (c := fp) (l := encParts o.parts) hel
    rw [hfin.out]
    simp only [List.length_append]
    omega
  have c0 : wc.cell? ⟨p, 0, none⟩ = some v := by rw [Lib.cell_of_heap hbk]; rfl
  have rp := hid (reads_u8 hown (by omega))
  replace hbel := hid hbel
  clear hbk hown st2
  go_wp2_with fail
  ((with_reducible refine (bytes_Clone v res wc rp.out).mono ?_); rintro e wz ⟨vz, rfl, oz, bz⟩)
  have rz := hid (reads_u8 oz (by omega))
  have hbz := hid (b_call hbel.out bz)
  clear oz bz
  go_wp2_with fail
  go_ret2
  exact ⟨_, rfl, rz.out, hbz.out⟩

set_option maxRecDepth 100000 in
theorem order_Encode (o : Order) (dv pv : Value) (w : World) (hd : RB w dv o.data) (hp : RP w pv o.parts) (hs : o.digest.size ≤ 140737488351232) :
    Calls Try.prog 35 #[.agg #[.int .i64 o.kind, .int .i64 o.n, .string o.digest, dv, pv]] w fun e w' => ∃ v', e = .returned (.tuple #[v', .int .i64 (ordFault o)]) ∧ RB w' v' (ordRes o) ∧ Below w.heap.size w w' := by
  by_cases hz : ordFault o = 0
  · unfold ordRes
    rw [if_pos hz, hz]
    exact order_Encode_ok o dv pv w hd hp hs hz
  · have ht : (ordFault o != 0) = true := by simp [hz]
    have hr : ordRes o = [] := by unfold ordRes; rw [if_neg hz]
    rw [hr]
    have hch := order_Check o dv pv _ (hd.mono EU8.stable (b_alloc (Below.refl w.heap.size w) (Obj.cells #[.int .i64 o.kind, .int .i64 o.n, .string o.digest, dv, pv] 41))) (hp.mono EPart.stable (b_alloc (Below.refl w.heap.size w) (Obj.cells #[.int .i64 o.kind, .int .i64 o.n, .string o.digest, dv, pv] 41))) hs
    generalize ordFault o = z at *
    clear hr
    replace hch := hid hch
    obtain ⟨da, dc, rfl, -⟩ := hd
    obtain ⟨pa, pc, rfl, -⟩ := hp
    go_enter Try.func35, Try.ntmps35
    go_wp2_with fail
    ((with_reducible refine hch.out.mono ?_); rintro e w1 ⟨rfl, b1⟩)
    have hb1 := hid (b_call (b_alloc (Below.refl w.heap.size w) _) b1)
    clear b1
    go_wp2_with fail
    go_ret2
    exact ⟨_, rfl, RS.nil, hb1.out⟩
end Go.Proofs.Ytaojfpgbpakmpaa

