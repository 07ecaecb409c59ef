/-
  The reference's OrderBytes: what it answers. Printed by gen_ordref.py.
-/
import Derived.Test.YtaojfpgbpakmpaaOrd8
namespace Go.Proofs.Ytaojfpgbpakmpaa
open Go.RowKit

/-- What is known between two appends: the bytes so far; the order's box; the world. -/
structure RE9 (o : Order) (da : Option Addr) (dc : Nat) (pa : Option Addr) (pc : Nat) (w0 : World) (b : Nat) (v : Value) (acc : List UInt8) (w : World) : Prop where
  os : OS 5 1 cU8 w w0.heap.size v acc
  box : w.heap[b]? = some (.cells #[.int .i64 o.kind, .int .i64 o.n, .string o.digest, .slice da o.data.length dc, .slice pa o.parts.length pc] 41 (0, 0))
  bel : Below w0.heap.size w0 w
theorem RE9.below {o : Order} {da : Option Addr} {dc : Nat} {pa : Option Addr} {pc : Nat} {w0 w w' : World} {b : Nat} {v : Value} {acc : List UInt8} (h : RE9 o da dc pa pc w0 b v acc w) (hb : Below w.heap.size w w') : RE9 o da dc pa pc w0 b v acc w' :=
  ⟨OS.below h.os hb, (hb.block b (Array.getElem?_eq_some_iff.1 h.box).1).trans h.box, b_call h.bel hb⟩
theorem RE9.grow {o : Order} {da : Option Addr} {dc : Nat} {pa : Option Addr} {pc : Nat} {w0 w w' : World} {b : Nat} {v v' : Value} {acc acc' : List UInt8} (h : RE9 o da dc pa pc w0 b v acc w) (ho : OS 5 1 cU8 w' w0.heap.size v' acc') (hg : w.grownBy w' v.ownBlock) : RE9 o da dc pa pc w0 b v' acc' w' := by
  refine ⟨ho, ?_, h.bel.grown hg h.bel.size (OS.block h.os)⟩
  rw [hg.block b (Array.getElem?_eq_some_iff.1 h.box).1 (fun e => Lib.ownBlock_ne h.os h.box (by decide) e.symm)]
  exact h.box

theorem os_one (w1 : World) (B : Nat) (n : Int) (x : UInt8) (h : n = (x.toNat : Int)) (hB : B ≤ w1.heap.size) : OS 5 1 cU8 (w1.alloc (.cells #[.int .u8 n] 5)) B (.slice (some ⟨w1.heap.size, 0, none⟩) 1 1) [x] := by
  subst h
  exact ⟨rfl, .inr ⟨w1.heap.size, 1, #[.int .u8 (x.toNat : Int)], rfl, hB, heap_alloc_new w1 _, Nat.le_refl _, by simp [maxLen], rfl, rfl⟩⟩
theorem kind_byte {k : Int} (h1 : 1 ≤ k) (h2 : k ≤ 14) : k = ((lastB k.toNat).toNat : Int) := by
  have key : ∀ j : Fin 15, (lastB j.val).toNat = j.val := by decide
  have := key ⟨k.toNat, by omega⟩
  simp only at this
  rw [this]
  omega

set_option maxRecDepth 100000 in
set_option maxHeartbeats 4000000 in
theorem ref_OrderBytes_ok (o : Order) (dv pv : Value) (w : World) (hd : RB w dv o.data) (hp : RP w pv o.parts) (hs : o.digest.size ≤ 140737488351232) (hz : ordFault o = 0) :
    Calls Try.prog 37 #[.agg #[.int .i64 o.kind, .int .i64 o.n, .string o.digest, dv, pv]] w fun e w' => ∃ v', e = .returned (.tuple #[v', .int .i64 0]) ∧ RB w' v' (ordBytes o) ∧ Below w.heap.size w w' := by
  obtain ⟨i0, ii0, hz0, hz1, hz2⟩ := info_parts info_u8
  have hch := fun w (g1 : RB w dv o.data) (g2 : RP w pv o.parts) => ref_OrderFault o dv pv w g1 g2 hs
  rw [hz] at hch
  obtain ⟨hik, hn0, hn1, hdd, hdl, hpf⟩ := ordFault_zero hz
  obtain ⟨hk1, hk2⟩ := isKind_range hik
  have hen := fun w (g : RP w pv o.parts) => ref_PartsBytes pv o.parts w g
  have her : encRes o.parts = encParts o.parts := by unfold encRes; rw [if_pos hpf]
  rw [hpf, her] at hen
  have hel := encParts_len' hpf
  have hbs := bstr_size o.data
  have htl := textBytes_len (bstr o.data) (by omega)
  have hv6 := varint_len5 o.n.toNat (by omega)
  have hxl : (opt (hasD o.kind) (hexRes o.digest)).length ≤ 32 := by
    unfold opt
    split
    · rename_i h; exact hexRes_le o.digest (hdd h)
    · simp
  have hw0 := hid fun w => ref_with_n o.kind w
  have hw1 := hid fun w => ref_with_d o.kind w
  have hw2 := hid fun w => ref_with_b o.kind w
  have hw3 := hid fun w => ref_with_p o.kind w
  replace hch := hid hch
  replace hen := hid hen
  replace hbs := hid hbs
  clear her hz hik hdd hpf
  have hfin : Hid (ordBytes o = [lastB o.kind.toNat] ++ opt (hasN o.kind) (varint o.n.toNat) ++ opt (hasD o.kind) (hexRes o.digest) ++ opt (hasB o.kind) (textBytes (bstr o.data)) ++ opt (hasP o.kind) (encParts o.parts)) := hid (by
    unfold ordBytes; rw [varint_small _ (by omega)])
  generalize ordBytes o = res at *
  have hD := hid hd
  have hP := hid hp
  obtain ⟨da, dc, rfl, -⟩ := hd
  obtain ⟨pa, pc, rfl, -⟩ := hp
  generalize hasN o.kind = fn at *
  generalize hasD o.kind = fd at *
  generalize hasB o.kind = fb at *
  generalize hasP o.kind = fp at *
  go_enter Try.func37, Try.ntmps37
  go_wp2_with fail
  ((with_reducible refine (hch.out _ (hD.out.mono EU8.stable (b_alloc (Below.refl _ _) _)) (hP.out.mono EPart.stable (b_alloc (Below.refl _ _) _))).mono ?_); rintro e w1 ⟨rfl, b1⟩)
  have hx1 := hid ((b1.block w.heap.size (by simp)).trans (heap_alloc_new w _))
  have hb1 := hid (b_call (b_alloc (Below.refl w.heap.size w) _) b1)
  obtain ⟨x0, x1, x2, x3, x4⟩ := box5 hx1.out
  have hs1 : w.heap.size < w1.heap.size := by have := b1.size; simp at this; omega
  clear b1
  go_upto_region 5 with fail
  obtain ⟨W2, hW2⟩ : ∃ W2, W2 = w1.alloc (Obj.cells #[.int .u8 o.kind] 5) := ⟨_, rfl⟩
  have st' : Hid (RE9 o da dc pa pc w w.heap.size (.slice (some ⟨w1.heap.size, 0, none⟩) 1 1) [lastB o.kind.toNat] W2) := hid (by
    rw [hW2]
    exact ⟨os_one w1 _ _ _ (kind_byte hk1 hk2) (by omega), (heap_alloc_old w1 _ hs1).trans hx1.out, b_alloc hb1.out _⟩)
  rw [← hW2]
  clear hW2 x0 x1 x2 x3 x4 hx1 hb1 hs1
  obtain ⟨b, hb⟩ : ∃ b, w.heap.size = b := ⟨_, rfl⟩
  rw [hb] at st' ⊢
  replace hb := hid hb
  generalize w1.heap.size = q at *
  obtain ⟨x0, x1, x2, x3, x4⟩ := box5 st'.out.box
  go_wp2_with fail
  ((with_reducible refine (hw0.out _).mono ?_); rintro e wq ⟨rfl, bq⟩)
  have st3 := hid (st'.out.below bq)
  clear x0 x1 x2 x3 x4 bq st'
  obtain ⟨x0, x1, x2, x3, x4⟩ := box5 st3.out.box
  go_upto_if 25 with fail
  go_cut [5] (fun vx wx => Hid (RE9 o da dc pa pc w b vx ([lastB o.kind.toNat] ++ opt fn (varint o.n.toNat)) wx))
  case first =>
    cases fn with
    | true =>
      go_wp2_with fail
      ((with_reducible refine (ref_WireNumber o.n _ (by omega) (by omega)).mono ?_); rintro e wa ⟨va, rfl, oa, ba⟩)
      have st4 := hid (st3.out.below ba)
      have ra := hid (reads_u8 oa (by have := hbs.out; omega))
      clear oa ba x0 x1 x2 x3 x4 st3
      go_wp2_with (at_builtin; go_must (refine wpL_append flat_u8 rfl (.tmp 32) (.tmp 33) 38 rfl 5 i0 (.int .u8 0) Try.underlying38 ii0 hz0 hz1 hz2 rfl w.heap.size _ ([lastB o.kind.toNat]) rfl st4.out.os _ (varint o.n.toNat) rfl ra.out ?cc0 ?cd0 st4.out.bel.size ?_))
      case cc0 => simp; omega
      case cd0 => (simp only [maxLen]; simp; omega)
      intro v9 w9 ho9 hg9
      have st5 := hid (st4.out.grow ho9 hg9)
      clear ho9 hg9 ra st4
      go_wp2_with fail
      go_meet
      exact hid (by have h9 := st5.out; rw [opt_true]; simpa only [List.append_assoc, List.cons_append, List.nil_append] using h9)
    | false =>
      go_wp2_with fail
      go_meet
      exact hid (by rw [opt_false, List.append_nil]; exact st3.out)
  case rest =>
  have st' : Hid (RE9 o da dc pa pc w b u5 ([lastB o.kind.toNat] ++ opt fn (varint o.n.toNat)) wc) := hcut
  clear hcut x0 x1 x2 x3 x4 st3
  obtain ⟨va0, na0, ca0, rfl⟩ : ∃ a n c, u5 = .slice a n c := by obtain ⟨a, c, h, -⟩ := OS.len_le st'.out.os; exact ⟨_, _, _, h⟩
  obtain ⟨x0, x1, x2, x3, x4⟩ := box5 st'.out.box
  go_wp2_with fail
  ((with_reducible refine (hw1.out _).mono ?_); rintro e wq ⟨rfl, bq⟩)
  have st3 := hid (st'.out.below bq)
  clear x0 x1 x2 x3 x4 bq st'
  obtain ⟨x0, x1, x2, x3, x4⟩ := box5 st3.out.box
  go_upto_if 37 with fail
  go_cut [5] (fun vx wx => Hid (RE9 o da dc pa pc w b vx ([lastB o.kind.toNat] ++ opt fn (varint o.n.toNat) ++ opt fd (hexRes o.digest)) wx))
  case first =>
    cases fd with
    | true =>
      go_wp2_with fail
      ((with_reducible refine (ref_HexBytes_any o.digest _ hs).mono ?_); rintro e wa ⟨va, rfl, ra, ba⟩)
      have st4 := hid (st3.out.below ba)
      replace ra := hid ra
      clear  ba x0 x1 x2 x3 x4 st3
      go_wp2_with (at_builtin; go_must (refine wpL_append flat_u8 rfl (.tmp 44) (.tmp 45) 38 rfl 5 i0 (.int .u8 0) Try.underlying38 ii0 hz0 hz1 hz2 rfl w.heap.size _ ([lastB o.kind.toNat] ++ opt fn (varint o.n.toNat)) rfl st4.out.os _ (hexRes o.digest) rfl ra.out ?cc1 ?cd1 st4.out.bel.size ?_))
      case cc1 => have : (hexRes o.digest).length ≤ 32 := (opt_true (hexRes o.digest)) ▸ hxl; have := opt_len (c := fn) (l := varint o.n.toNat) hv6; simp only [List.length_append, List.length_cons, List.length_nil]; omega
      case cd1 => (simp only [maxLen]; have : (hexRes o.digest).length ≤ 32 := (opt_true (hexRes o.digest)) ▸ hxl; have := opt_len (c := fn) (l := varint o.n.toNat) hv6; simp only [List.length_append, List.length_cons, List.length_nil]; omega)
      intro v9 w9 ho9 hg9
      have st5 := hid (st4.out.grow ho9 hg9)
      clear ho9 hg9 ra st4
      go_wp2_with fail
      go_meet
      exact hid (by have h9 := st5.out; rw [opt_true]; simpa only [List.append_assoc, List.cons_append, List.nil_append] using h9)
    | false =>
      go_wp2_with fail
      go_meet
      exact hid (by rw [opt_false, List.append_nil]; exact st3.out)
  case rest =>
  have st' : Hid (RE9 o da dc pa pc w b u5 ([lastB o.kind.toNat] ++ opt fn (varint o.n.toNat) ++ opt fd (hexRes o.digest)) wc) := hcut
  clear hcut x0 x1 x2 x3 x4 st3
  obtain ⟨va1, na1, ca1, rfl⟩ : ∃ a n c, u5 = .slice a n c := by obtain ⟨a, c, h, -⟩ := OS.len_le st'.out.os; exact ⟨_, _, _, h⟩
  obtain ⟨x0, x1, x2, x3, x4⟩ := box5 st'.out.box
  go_wp2_with fail
  ((with_reducible refine (hw2.out _).mono ?_); rintro e wq ⟨rfl, bq⟩)
  have st3 := hid (st'.out.below bq)
  clear x0 x1 x2 x3 x4 bq st'
  obtain ⟨x0, x1, x2, x3, x4⟩ := box5 st3.out.box
  go_upto_if 49 with fail
  go_cut [5] (fun vx wx => Hid (RE9 o da dc pa pc w b vx ([lastB o.kind.toNat] ++ opt fn (varint o.n.toNat) ++ opt fd (hexRes o.digest) ++ opt fb (textBytes (bstr o.data))) wx))
  case first =>
    cases fb with
    | true =>
      have cd := run_string_of 38 5 Try.underlying38 Try.underlying5 9 Try.underlying9 (hD.out.mono EU8.stable st3.out.bel)
      go_wp2_with fail
      ((with_reducible refine (ref_WireText (bstr o.data) _ (by have := hbs.out; omega)).mono ?_); rintro e wa ⟨va, rfl, oa, ba⟩)
      have st4 := hid (st3.out.below ba)
      have ra := hid (reads_u8 oa (by have := hbs.out; omega))
      clear oa ba x0 x1 x2 x3 x4 st3
      go_wp2_with (at_builtin; go_must (refine wpL_append flat_u8 rfl (.tmp 57) (.tmp 58) 38 rfl 5 i0 (.int .u8 0) Try.underlying38 ii0 hz0 hz1 hz2 rfl w.heap.size _ ([lastB o.kind.toNat] ++ opt fn (varint o.n.toNat) ++ opt fd (hexRes o.digest)) rfl st4.out.os _ (textBytes (bstr o.data)) rfl ra.out ?cc2 ?cd2 st4.out.bel.size ?_))
      case cc2 => have := hbs.out; have := opt_len (c := fn) (l := varint o.n.toNat) hv6; simp only [List.length_append, List.length_cons, List.length_nil]; omega
      case cd2 => (simp only [maxLen]; have := hbs.out; have := opt_len (c := fn) (l := varint o.n.toNat) hv6; simp only [List.length_append, List.length_cons, List.length_nil]; omega)
      intro v9 w9 ho9 hg9
      have st5 := hid (st4.out.grow ho9 hg9)
      clear ho9 hg9 ra st4
      go_wp2_with fail
      go_meet
      exact hid (by have h9 := st5.out; rw [opt_true]; simpa only [List.append_assoc, List.cons_append, List.nil_append] using h9)
    | false =>
      go_wp2_with fail
      go_meet
      exact hid (by rw [opt_false, List.append_nil]; exact st3.out)
  case rest =>
  have st' : Hid (RE9 o da dc pa pc w b u5 ([lastB o.kind.toNat] ++ opt fn (varint o.n.toNat) ++ opt fd (hexRes o.digest) ++ opt fb (textBytes (bstr o.data))) wc) := hcut
  clear hcut x0 x1 x2 x3 x4 st3
  obtain ⟨va2, na2, ca2, rfl⟩ : ∃ a n c, u5 = .slice a n c := by obtain ⟨a, c, h, -⟩ := OS.len_le st'.out.os; exact ⟨_, _, _, h⟩
  obtain ⟨x0, x1, x2, x3, x4⟩ := box5 st'.out.box
  go_wp2_with fail
  ((with_reducible refine (hw3.out _).mono ?_); rintro e wq ⟨rfl, bq⟩)
  have st3 := hid (st'.out.below bq)
  clear x0 x1 x2 x3 x4 bq st'
  obtain ⟨x0, x1, x2, x3, x4⟩ := box5 st3.out.box
  go_upto_if 62 with fail
  go_cut [5] (fun vx wx => Hid (RE9 o da dc pa pc w b vx ([lastB o.kind.toNat] ++ opt fn (varint o.n.toNat) ++ opt fd (hexRes o.digest) ++ opt fb (textBytes (bstr o.data)) ++ opt fp (encParts o.parts)) wx))
  case first =>
    cases fp with
    | true =>
      go_wp2_with fail
      ((with_reducible refine (hen.out _ (hP.out.mono EPart.stable st3.out.bel)).mono ?_); rintro e wa ⟨va, rfl, ra, ba⟩)
      have st4 := hid (st3.out.below ba)
      replace ra := hid ra
      clear  ba x0 x1 x2 x3 x4 st3
      go_wp2_with (at_builtin; go_must (refine wpL_append flat_u8 rfl (.tmp 69) (.tmp 70) 38 rfl 5 i0 (.int .u8 0) Try.underlying38 ii0 hz0 hz1 hz2 rfl w.heap.size _ ([lastB o.kind.toNat] ++ opt fn (varint o.n.toNat) ++ opt fd (hexRes o.digest) ++ opt fb (textBytes (bstr o.data))) rfl st4.out.os _ (encParts o.parts) rfl ra.out ?cc3 ?cd3 st4.out.bel.size ?_))
      case cc3 => have := hbs.out; have := opt_len (c := fn) (l := varint o.n.toNat) hv6; have := opt_len (c := fb) (l := textBytes (bstr o.data)) htl; simp only [List.length_append, List.length_cons, List.length_nil]; omega
      case cd3 => (simp only [maxLen]; have := hbs.out; have := opt_len (c := fn) (l := varint o.n.toNat) hv6; have := opt_len (c := fb) (l := textBytes (bstr o.data)) htl; simp only [List.length_append, List.length_cons, List.length_nil]; omega)
      intro v9 w9 ho9 hg9
      have st5 := hid (st4.out.grow ho9 hg9)
      clear ho9 hg9 ra st4
      go_wp2_with fail
      go_meet
      exact hid (by have h9 := st5.out; rw [opt_true]; simpa only [List.append_assoc, List.cons_append, List.nil_append] using h9)
    | false =>
      go_wp2_with fail
      go_meet
      exact hid (by rw [opt_false, List.append_nil]; exact st3.out)
  case rest =>
  have st' : Hid (RE9 o da dc pa pc w b u5 ([lastB o.kind.toNat] ++ opt fn (varint o.n.toNat) ++ opt fd (hexRes o.digest) ++ opt fb (textBytes (bstr o.data)) ++ opt fp (encParts o.parts)) wc) := hcut
  clear hcut x0 x1 x2 x3 x4 st3
  rw [← hfin.out] at st'
  have hrl : res.length ≤ 2000 := by
    have := hbs.out
    have := opt_len (c := fn) (l := varint o.n.toNat) hv6
    have := opt_len (c := fb) (l := textBytes (bstr o.data)) htl
    have := opt_len (c := fp) (l := encParts o.parts) hel
    rw [hfin.out]
    simp only [List.length_append, List.length_cons, List.length_nil]
    omega
  have rz := hid (reads_u8 st'.out.os (by omega))
  have hbz := hid st'.out.bel
  clear st'
  go_wp2_with fail
  go_ret2
  exact ⟨_, rfl, rz.out, hbz.out⟩

set_option maxRecDepth 100000 in
theorem ref_OrderBytes (o : Order) (dv pv : Value) (w : World) (hd : RB w dv o.data) (hp : RP w pv o.parts) (hs : o.digest.size ≤ 140737488351232) :
    Calls Try.prog 37 #[.agg #[.int .i64 o.kind, .int .i64 o.n, .string o.digest, dv, pv]] w fun e w' => ∃ v', e = .returned (.tuple #[v', .int .i64 (ordFault o)]) ∧ RB w' v' (ordRes o) ∧ Below w.heap.size w w' := by
  by_cases hz : ordFault o = 0
  · unfold ordRes
    rw [if_pos hz, hz]
    exact ref_OrderBytes_ok o dv pv w hd hp hs hz
  · have ht : (ordFault o != 0) = true := by simp [hz]
    have hr : ordRes o = [] := by unfold ordRes; rw [if_neg hz]
    rw [hr]
    have hch := ref_OrderFault o dv pv _ (hd.mono EU8.stable (b_alloc (Below.refl w.heap.size w) (Obj.cells #[.int .i64 o.kind, .int .i64 o.n, .string o.digest, dv, pv] 41))) (hp.mono EPart.stable (b_alloc (Below.refl w.heap.size w) (Obj.cells #[.int .i64 o.kind, .int .i64 o.n, .string o.digest, dv, pv] 41))) hs
    generalize ordFault o = z at *
    clear hr
    replace hch := hid hch
    obtain ⟨da, dc, rfl, -⟩ := hd
    obtain ⟨pa, pc, rfl, -⟩ := hp
    go_enter Try.func37, Try.ntmps37
    go_wp2_with fail
    ((with_reducible refine hch.out.mono ?_); rintro e w1 ⟨rfl, b1⟩)
    have hb1 := hid (b_call (b_alloc (Below.refl w.heap.size w) _) b1)
    clear b1
    go_wp2_with fail
    go_ret2
    exact ⟨_, rfl, RS.nil, hb1.out⟩
end Go.Proofs.Ytaojfpgbpakmpaa
