import Derived.Test.YtpkpgehiplhkpaaGreatTzKd
import Derived.Test.YtpkpgehiplhkpaaGreatTzDe
namespace Go.Proofs.YtpkpgehiplhkpaaGreat
open Go.RowKit
theorem qzkdd_4 {P : Prop} (h : P := by omega) : P := h
theorem qzkdd_3 {P : Prop} (h : P := by first | rfl | exact dig_el _ (by omega) _) : P := h
theorem qzkdd_2 {P : Prop} (h : P := by first | rfl | simp) : P := h
theorem qzkdd_1 {P : Prop} (h : P := by
 have hm0 : m ≠ 0 := by omega
 have hm1 : m ≠ -1 := by omega
 go_enter Tryz.func34, Tryz.ntmps34
 go_wp2_with fail
 go_ret
 exact ⟨by first | rfl | simp [*], rfl⟩) : P := h
theorem dec_take (q : List UInt8) (m : Nat) (h : 16 ≤ m) : (wordsDec q m).take 16 = wordsDec q 16 := by
 unfold wordsDec
 rw [← List.map_take, List.take_range, Nat.min_eq_left h]
theorem dec_drop (q : List UInt8) (m : Nat) : (wordsDec q m).drop 16 = wordsDec (q.drop 64) (m - 16) := by
 apply List.ext_getElem?
 intro k
 unfold wordsDec
 rw [List.getElem?_drop, List.getElem?_map, List.getElem?_map]
 by_cases hk : k < m - 16
 · rw [List.getElem?_range qzkdd_4, List.getElem?_range hk]
   simp only [Option.map_some, Option.some.injEq]
   have e : 4 * (16 + k) = 64 + 4 * k := by omega
   unfold wordAt
   by_cases h1 : 4 * (16 + k) + 3 < q.length
   · rw [dif_pos h1, dif_pos (by rw [List.length_drop]; omega)]
     simp only [e, List.getElem_drop, Nat.add_assoc]
   rw [dif_neg h1, dif_neg (by rw [List.length_drop]; omega)]
 rw [List.getElem?_eq_none (by simp; omega), List.getElem?_eq_none (by simp; omega)]
 rfl
def DigInv (R : List UInt32) (q : List UInt8) (h : List UInt32) : Prop := SumInv R (wordsDec q (q.length / 4)) h ∧ q.length % 64 = 0
theorem dig_next {R : List UInt32} {q : List UInt8} {h : List UInt32} (hi : DigInv R q h) (hn : 0 < q.length) : DigInv R (q.drop 64) (compress h (wordsDec q 16)) ∧ 64 ≤ q.length ∧ h.length = 8 := by
 obtain ⟨h1, h2⟩ := hi
 have h64 : 64 ≤ q.length := by omega
 obtain ⟨s1, -, -, s4, s5⟩ := sum_next h1 (by rw [wordsDec_len]; omega)
 rw [dec_take q _ qzkdd_4, dec_drop] at s1
 rw [dec_take q _ qzkdd_4] at s5
 rw [s5] at s1
 refine ⟨⟨?_, by rw [List.length_drop]; omega⟩, h64, s4⟩
 rw [List.length_drop, show (q.length - 64) / 4 = q.length / 4 - 16 by omega]
 exact s1
theorem dig_end {R : List UInt32} {q : List UInt8} {h : List UInt32} (hi : DigInv R q h) (hn : q.length = 0) : R = h := sum_end hi.1 (by rw [wordsDec_len, hn])
theorem hex_word (x : UInt32) : hexOf (bw x) = [hexDig (x.toNat / 268435456 % 16), hexDig (x.toNat / 16777216 % 16), hexDig (x.toNat / 1048576 % 16), hexDig (x.toNat / 65536 % 16), hexDig (x.toNat / 4096 % 16), hexDig (x.toNat / 256 % 16), hexDig (x.toNat / 16 % 16), hexDig (x.toNat % 16)] := by
 have hx := x.toNat_lt
 have e1 : (UInt8.ofNat (x.toNat / 16777216)).toNat / 16 = x.toNat / 268435456 % 16 := by rw [UInt8.toNat_ofNat']; omega
 have e2 : (UInt8.ofNat (x.toNat / 16777216)).toNat % 16 = x.toNat / 16777216 % 16 := by rw [UInt8.toNat_ofNat']; omega
 have e3 : (UInt8.ofNat (x.toNat / 65536)).toNat / 16 = x.toNat / 1048576 % 16 := by rw [UInt8.toNat_ofNat']; omega
 have e4 : (UInt8.ofNat (x.toNat / 65536)).toNat % 16 = x.toNat / 65536 % 16 := by rw [UInt8.toNat_ofNat']; omega
 have e5 : (UInt8.ofNat (x.toNat / 256)).toNat / 16 = x.toNat / 4096 % 16 := by rw [UInt8.toNat_ofNat']; omega
 have e6 : (UInt8.ofNat (x.toNat / 256)).toNat % 16 = x.toNat / 256 % 16 := by rw [UInt8.toNat_ofNat']; omega
 have e7 : (UInt8.ofNat x.toNat).toNat / 16 = x.toNat / 16 % 16 := by rw [UInt8.toNat_ofNat']; omega
 have e8 : (UInt8.ofNat x.toNat).toNat % 16 = x.toNat % 16 := by rw [UInt8.toNat_ofNat']; omega
 simp only [hexOf, bw, List.flatMap_cons, List.flatMap_nil, hexTwo, List.append_nil, List.cons_append, List.nil_append, e1, e2, e3, e4, e5, e6, e7, e8]
theorem list8 (l : List UInt32) (h : l.length = 8) : ∃ x0 x1 x2 x3 x4 x5 x6 x7, l = [x0, x1, x2, x3, x4, x5, x6, x7] := by
 match l, h with
 | [x0, x1, x2, x3, x4, x5, x6, x7], _ => exact ⟨x0, x1, x2, x3, x4, x5, x6, x7, rfl⟩
theorem grow1 {w w1 : World} {g o : Nat} {u : Value} (h : w.grownBy w1 (some g)) : w.grownBy (w1.setCell ⟨g, o, none⟩ u) (some g) :=
 ⟨h.os, h.tape, h.output, Nat.le_trans h.size (by simp [World.setCell]), fun i hi hn => (Below.heap_setCell _ _ _ _ (fun e => hn (by simp [e]))).trans (h.block i hi hn)⟩
theorem grow0 (w : World) (g : Nat) : w.grownBy w (some g) := ⟨rfl, rfl, rfl, Nat.le_refl _, fun _ _ _ => rfl⟩
theorem rb_w {w w' : World} {g : Nat} {t : TypeId} {xs : List UInt32} {v : Value} {l : List UInt8} (h : RB w v l) (hB : BW w g t xs) (hx : w.grownBy w' (some g)) : RB w' v l := by
 obtain ⟨a, c, rfl, h1, h2, hr, hn, h3⟩ := h
 refine ⟨a, c, rfl, h1, h2, hr, hn, fun k x hk => ?_⟩
 obtain ⟨b, off, rfl, hlt, he⟩ := h3 k x hk
 refine ⟨b, off, rfl, Nat.lt_of_lt_of_le hlt hx.size, hx.cell he (fun e => ?_)⟩
 simp only [Option.some.injEq] at e
 subst e
 have h4 : w.cell? ⟨b, off + k * 1, none⟩ = some (.int .u8 (x.toNat : Int)) := he
 rw [cell_of_row w b _ _ t _ hB, List.getElem?_toArray] at h4
 obtain ⟨y, -, hy⟩ := List.mem_flatMap.1 (List.mem_of_getElem? h4)
 simp [cU32] at hy
theorem rw_far {w w' : World} {g k n c : Nat} {l : List UInt32} (h : RW w (.slice (some ⟨k, 0, none⟩) n c) l) (hk : k ≠ g) (hx : w.grownBy w' (some g)) : RW w' (.slice (some ⟨k, 0, none⟩) n c) l := by
 obtain ⟨a, c, hv, h1, h2, hr, hn, h3⟩ := h
 refine ⟨a, c, hv, h1, h2, hr, hn, fun j x hj => ?_⟩
 obtain ⟨b, off, rfl, hlt, he⟩ := h3 j x hj
 simp only [Value.slice.injEq, Option.some.injEq, Addr.mk.injEq] at hv
 refine ⟨b, off, rfl, Nat.lt_of_lt_of_le hlt hx.size, hx.cell he (fun e => ?_)⟩
 simp only [Option.some.injEq] at e
 exact hk (by rw [hv.1.1]; exact e)
theorem and15w (m : Nat) (h : m < 4294967296) : bits .and .u32 (m : Int) 15 = ((m % 16 : Nat) : Int) := by
 have h1 := w_and (UInt32.ofNat m) 15
 have h2 : (UInt32.ofNat m).toNat = m := by rw [UInt32.toNat_ofNat']; omega
 have h3 : ((15 : UInt32).toNat : Int) = 15 := rfl
 rw [h2, h3] at h1
 rw [h1, UInt32.toNat_and, h2]
 congr 1
 exact Nat.and_two_pow_sub_one_eq_mod m 4
theorem dig32 (n : Int) (k : Nat) (hn : n = (k : Int)) (hk : k < 16) (w : World) : (Instr.index 9 (.string ⟨#[48, 49, 50, 51, 52, 53, 54, 55, 56, 57, 97, 98, 99, 100, 101, 102]⟩) (.int .u32 n)).run Tryz.prog w = .ok (.int .u8 ((hexDig k).toNat : Int)) w := by
 subst hn
 rw [run_index_string w 9 _ .u32 k Tryz.underlying9, dif_pos (by have : (ByteArray.mk #[48, 49, 50, 51, 52, 53, 54, 55, 56, 57, 97, 98, 99, 100, 101, 102]).size = 16 := rfl; omega)]
 have key : ∀ j : Fin 16, ((ByteArray.mk #[48, 49, 50, 51, 52, 53, 54, 55, 56, 57, 97, 98, 99, 100, 101, 102])[j.val]'j.isLt) = hexDig j.val := by decide
 have := key ⟨k, hk⟩
 simp only [Int.toNat_natCast]
 rw [← this]
theorem dig_el (k : Nat) (hk : k < 16) (h : k < (ByteArray.mk #[48, 49, 50, 51, 52, 53, 54, 55, 56, 57, 97, 98, 99, 100, 101, 102]).size) : ((((ByteArray.mk #[48, 49, 50, 51, 52, 53, 54, 55, 56, 57, 97, 98, 99, 100, 101, 102])[k]'h).toNat : Nat) : Int) = ((hexDig k).toNat : Int) := by
 have key : ∀ j : Fin 16, ((ByteArray.mk #[48, 49, 50, 51, 52, 53, 54, 55, 56, 57, 97, 98, 99, 100, 101, 102])[j.val]'j.isLt) = hexDig j.val := by decide
 exact congrArg (fun x : UInt8 => (x.toNat : Int)) (key ⟨k, hk⟩)
theorem arr_at (x0 x1 x2 x3 x4 x5 x6 x7 : UInt32) (n : Nat) (hn : n < 8) (w : World) : (Instr.index 99 (.agg #[.int .u32 (x0.toNat : Int), .int .u32 (x1.toNat : Int), .int .u32 (x2.toNat : Int), .int .u32 (x3.toNat : Int), .int .u32 (x4.toNat : Int), .int .u32 (x5.toNat : Int), .int .u32 (x6.toNat : Int), .int .u32 (x7.toNat : Int)]) (.int .i64 (n : Int))).run Tryz.prog w = .ok (.int .u32 (([x0, x1, x2, x3, x4, x5, x6, x7].getD n 0).toNat : Int)) w := by
 have hu : Tryz.prog.underlying 99 = some (.array 8 98) := by kernel_rfl
 match n, hn with
 | 0, _ => simp [Instr.index, run_underlying hu, asIntOf, go_sem]
 | 1, _ => simp [Instr.index, run_underlying hu, asIntOf, go_sem]
 | 2, _ => simp [Instr.index, run_underlying hu, asIntOf, go_sem]
 | 3, _ => simp [Instr.index, run_underlying hu, asIntOf, go_sem]
 | 4, _ => simp [Instr.index, run_underlying hu, asIntOf, go_sem]
 | 5, _ => simp [Instr.index, run_underlying hu, asIntOf, go_sem]
 | 6, _ => simp [Instr.index, run_underlying hu, asIntOf, go_sem]
 | 7, _ => simp [Instr.index, run_underlying hu, asIntOf, go_sem]
theorem hex_next (R : List UInt32) (n : Nat) (h : n < R.length) : hexOf (bytesW (R.take n)) ++ hexOf (bw (R.getD n 0)) = hexOf (bytesW (R.take (n + 1))) := by
 rw [List.take_succ_eq_append_getElem h, List.getD_eq_getElem?_getD, List.getElem?_eq_getElem h, Option.getD_some]
 unfold hexOf bytesW
 rw [List.flatMap_append, List.flatMap_append, List.flatMap_singleton]
theorem sumRest8 : ∀ (n : Nat) (ws h : List UInt32), h.length = 8 → (sumRest n ws h).length = 8
 | 0, _, _, h => h
 | n + 1, _, h, h8 => sumRest8 n _ _ (compress_len h _ h8)
theorem hashW8 (l : List UInt8) : (hashW l).length = 8 := sumRest8 _ _ _ rfl
theorem pad_eq (l : List UInt8) : padRes l = padZs l (padZ l.length) ++ [be (8 * l.length) 7, be (8 * l.length) 6, be (8 * l.length) 5, be (8 * l.length) 4, be (8 * l.length) 3, be (8 * l.length) 2, be (8 * l.length) 1, be (8 * l.length) 0] := rfl
def digS (l : List UInt8) : ByteArray := bstr (hexOf (bytesW (hashW l)))
theorem sum_dig (l : List UInt8) (h : l.length ≤ 2000) : sumStr l = digS l := by unfold sumStr digS; rw [if_neg qzkdd_4]
theorem dig_start (l : List UInt8) : DigInv (hashW l) (padRes l) startW := ⟨hash_inv l, by rw [padRes_len]; have := padZ_spec l.length; omega⟩
set_option maxRecDepth 100000 in
set_option maxHeartbeats 400000 in
theorem slices_Clone_u8 (v : Value) (l : List UInt8) (w : World) (h : RB w v l) :
 Calls Tryz.prog 38 #[v] w fun e w' => ∃ v', e = .returned v' ∧ OS 5 1 cU8 w' w.heap.size v' l ∧ Below w.heap.size w w' := by
 obtain ⟨i0, hi, hz0, hz1, hz2⟩ := info_parts info_u8
 have hh := h
 obtain ⟨a, c, rfl, hlc, hcm, hre, hno, hat⟩ := hh
 cases a with
 | none =>
   have hc0 := hno rfl
   subst hc0
   have hl0 : l = [] := List.eq_nil_of_length_eq_zero qzkdd_4
   subst hl0
   have he := fun w => Lib.run_eql_slice_nil (P := Tryz.prog) w 41 5 none 0 0 0 0 Tryz.underlying41
   go_enter Tryz.func38, Tryz.ntmps38
   go_wp2
   go_ret
   exact ⟨_, rfl, OS.nil, Below.refl _ _⟩
 | some ad =>
   have he := fun w => Lib.run_eql_slice_nil (P := Tryz.prog) w 41 5 (some ad) l.length c 0 0 Tryz.underlying41
   clear hat
   go_enter Tryz.func38, Tryz.ntmps38
   go_wp2_with (at_builtin; go_must (refine wpL_append flat_u8 rfl (.tmp 5) (.tmp 6) 41 rfl 5 i0 (.int .u8 0) Tryz.underlying41 hi hz0 hz1 hz2 rfl w.heap.size _ [] rfl (os_empty' _ _ _ _ (by simp) (by simp)) _ l rfl (h.mono EU8.stable (b_alloc (Below.refl _ _) _)) ?c1 ?c2 ?c3 ?_))
   case c1 => simp; omega
   case c2 => simp [maxLen]; omega
   case c3 => simp
   intro v' w1 hown hg
   have hb := b_grown (b_alloc (Below.refl _ w) (.cells #[] 5)) hg (fun k hk => by simp [Value.ownBlock] at hk; omega)
   clear hg
   go_wp2
   go_ret
   exact ⟨_, rfl, hown, hb⟩
theorem keep_hashed (h : List UInt32) (h8 : h.length = 8) (vb vk : Value) (l : List UInt8) (w : World) (hb : RB w vb l) (hk : RW w vk roundW) (h64 : 64 ≤ l.length) :
 Calls Tryz.prog 40 #[aggW h, vb, vk] w fun e w' => e = .returned (aggW (compress h (wordsDec l 16))) ∧ Below w.heap.size w w' := by
 match h, h8 with
 | [x0, x1, x2, x3, x4, x5, x6, x7], _ =>
   refine (keep_hashed' roundW (sched (wordsDec l 16)) (wordsDec l 16) (stepsN roundW (sched (wordsDec l 16)) 64 ⟨x0, x1, x2, x3, x4, x5, x6, x7⟩) x0 x1 x2 x3 x4 x5 x6 x7 vb vk l w hb hk h64 roundW_len (by unfold sched; rw [schedN_len, wordsDec_len]) rfl (pk_words l h64 16 (by decide)) (wordsDec_len l 16) (by unfold SchedInv; rw [wordsDec_len]; rfl)).mono ?_
   rintro e w' ⟨rfl, hb⟩
   refine ⟨?_, hb⟩
   unfold compress
   rw [show s8Of [x0, x1, x2, x3, x4, x5, x6, x7] = ⟨x0, x1, x2, x3, x4, x5, x6, x7⟩ from rfl]
   generalize stepsN roundW (sched (wordsDec l 16)) 64 ⟨x0, x1, x2, x3, x4, x5, x6, x7⟩ = R
   simp only [S8.list, List.zipWith_cons_cons, List.zipWith_nil_left, UInt32.add_comm]
set_option maxRecDepth 100000 in
set_option maxHeartbeats 4000000 in
theorem keep_Digest' (R : List UInt32) (P : List UInt8) (v : Value) (l : List UInt8) (w : World) (hl : RB w v l) (hlen : l.length ≤ 140737488351000) (hP : P = padRes l) (hPl : P.length = l.length + 9 + padZ l.length) (hR8 : R.length = 8) (hinv : DigInv R P startW) :
 Calls Tryz.prog 15 #[v] w fun e w' => e = .returned (.string (bstr (hexOf (bytesW R)))) ∧ Below w.heap.size w w' := by
 obtain ⟨i0, hi, hz0, hz1, hz2⟩ := info_parts info_u8
 have hlm : l.length ≤ 140737488351232 := by obtain ⟨_, _, _, _, _, hre, _⟩ := hl; omega
 have hpz := padZ_lt l.length
 have hpe := hid (pad_eq l)
 rw [← hP] at hpe
 replace hP := hid hP
 replace hPl := hid hPl
 replace hinv := hid hinv
 obtain ⟨a, c, rfl, -⟩ := id hl
 go_enter Tryz.func15, Tryz.ntmps15
 go_wp2_with fail
 ((with_reducible refine (slices_Clone_u8 _ l _ hl).mono ?_); rintro e w1 ⟨v1, rfl, own1, b1⟩)
 have s1 := b1.size
 obtain ⟨ad1, cp1, rfl, -⟩ := id (OS.len_le own1)
 clear hl
 go_wp2_with (at_builtin; go_must (refine wpL_append flat_u8 rfl (.tmp 13) (.tmp 14) 41 rfl 5 i0 (.int .u8 0) Tryz.underlying41 hi hz0 hz1 hz2 rfl w.heap.size _ (l) rfl (OS.alloc own1 _) _ [128] rfl (one_u8 _ _ _ _ _ qzkdd_2 rfl) ?c1 ?c2 ?c3 ?_))
 case c1 => simp; omega
 case c2 => simp [maxLen]; omega
 case c3 => simp; omega
 intro v2 w2 own2 hgr
 have b2 := b_grown (b_alloc b1 _) hgr (OS.block own1)
 have own2 : OS 5 1 cU8 w2 w.heap.size v2 (padZs l 0) := by simpa [padZs] using own2
 clear hgr own1 b1 s1
 go_wp2_with fail
 go_loopw [3] (fun v wr => ∃ z : Nat, z ≤ padZ l.length ∧ OS 5 1 cU8 wr w.heap.size v (padZs l z) ∧ Below w.heap.size w wr) (fun v _ => 140737488360000 - (match v with | .slice _ n _ => n | _ => 0))
 case atStart => exact ⟨0, by omega, own2, b2⟩
 obtain ⟨z, hz, hown, hb⟩ := hrel
 obtain ⟨ad, cp, rfl, hlcp, hcpm, hno2⟩ := OS.len_le hown
 have hlz := padZs_len l z
 unfold maxLen at hcpm
 have hs := hb.size
 by_cases hlt : z < padZ l.length
 · have hne := padZ_least l.length z hlt
   have q1 : ((((padZs l z).length : Int) % 64) != 56) = true := by rw [hlz]; simp; omega
   have hsn := hid (padZs_snoc l z)
   replace hlz := hid hlz
   clear hne
   have hln : (padZs l z).length ≤ 140737488351400 := by rw [hlz.out]; omega
   go_wp2_with (at_builtin; go_must (refine wpL_append flat_u8 rfl (.tmp 20) (.tmp 21) 41 rfl 5 i0 (.int .u8 0) Tryz.underlying41 hi hz0 hz1 hz2 rfl w.heap.size _ (padZs l z) rfl (OS.alloc hown _) _ [0] rfl (one_u8 _ _ _ _ _ qzkdd_2 rfl) ?c1 ?c2 ?c3 ?_))
   case c1 => simp; omega
   case c2 => simp [maxLen]; omega
   case c3 => simp; omega
   intro v' w3 hown1 hgr
   have hb2 := b_grown (b_alloc hb _) hgr (OS.block hown)
   rw [hsn.out] at hown1
   clear hgr hb hown
   obtain ⟨ad2, cp2, rfl, -⟩ := id (OS.len_le hown1)
   have hl2 := hid (padZs_len l (z + 1))
   go_wp2_with fail
   go_roundw
   case rel => exact ⟨z + 1, by omega, hown1, hb2⟩
   case measure => have := hl2.out; have := hlz.out; simp; omega
 obtain rfl : z = padZ l.length := by omega
 have hsp := padZ_spec l.length
 have q1 : ((((padZs l (padZ l.length)).length : Int) % 64) != 56) = false := by rw [hlz]; simp; omega
 have hln : (padZs l (padZ l.length)).length ≤ 140737488351400 := by omega
 clear hsp own2 b2
 replace hlz := hid hlz
 go_wp2_with fail
 refine wp_loop_rounds 9 ?_
 rw [rounds_succ]
 have e0 : Hid ((8 * (l.length : Int)) / 72057594037927936 % 256 = ((be (8 * l.length) 7).toNat : Int)) := by
  refine hid ?_
  rw [be_val]
  omega
 have g0 : Hid (((l.length : Int) * 8) / 72057594037927936 % 256 = ((be (8 * l.length) 7).toNat : Int)) := hid (by have := e0.out; omega)
 go_wp2_with (at_builtin; go_must (refine wpL_append flat_u8 rfl (.tmp 30) (.tmp 37) 41 rfl 5 i0 (.int .u8 0) Tryz.underlying41 hi hz0 hz1 hz2 rfl w.heap.size _ (padZs l (padZ l.length)) rfl (OS.alloc hown _) _ [be (8 * l.length) 7] rfl (one_u8 _ _ _ _ _ qzkdd_2 (by first | exact e0.out | exact g0.out | (have := e0.out; omega))) ?c1 ?c2 ?c3 ?_))
 case c1 => simp; omega
 case c2 => simp [maxLen]; omega
 case c3 => have := hb.size; simp; omega
 intro y1 W1 own11 hgr
 have bb1 := b_grown (b_alloc hb _) hgr (OS.block hown)
 clear hgr
 clear hown hb
 go_wp2_with fail
 rw [rounds_succ]
 have e1 : Hid ((8 * (l.length : Int)) / 281474976710656 % 256 = ((be (8 * l.length) 6).toNat : Int)) := by
  refine hid ?_
  rw [be_val]
  omega
 have g1 : Hid (((l.length : Int) * 8) / 281474976710656 % 256 = ((be (8 * l.length) 6).toNat : Int)) := hid (by have := e1.out; omega)
 go_wp2_with (at_builtin; go_must (refine wpL_append flat_u8 rfl (.tmp 30) (.tmp 37) 41 rfl 5 i0 (.int .u8 0) Tryz.underlying41 hi hz0 hz1 hz2 rfl w.heap.size _ (padZs l (padZ l.length) ++ [be (8 * l.length) 7]) rfl (OS.alloc own11 _) _ [be (8 * l.length) 6] rfl (one_u8 _ _ _ _ _ qzkdd_2 (by first | exact e1.out | exact g1.out | (have := e1.out; omega))) ?c1 ?c2 ?c3 ?_))
 case c1 => simp; omega
 case c2 => simp [maxLen]; omega
 case c3 => have := bb1.size; simp; omega
 intro y2 W2 own12 hgr
 have bb2 := b_grown (b_alloc bb1 _) hgr (OS.block own11)
 clear hgr
 clear own11 bb1
 go_wp2_with fail
 rw [rounds_succ]
 have e2 : Hid ((8 * (l.length : Int)) / 1099511627776 % 256 = ((be (8 * l.length) 5).toNat : Int)) := by
  refine hid ?_
  rw [be_val]
  omega
 have g2 : Hid (((l.length : Int) * 8) / 1099511627776 % 256 = ((be (8 * l.length) 5).toNat : Int)) := hid (by have := e2.out; omega)
 go_wp2_with (at_builtin; go_must (refine wpL_append flat_u8 rfl (.tmp 30) (.tmp 37) 41 rfl 5 i0 (.int .u8 0) Tryz.underlying41 hi hz0 hz1 hz2 rfl w.heap.size _ (padZs l (padZ l.length) ++ [be (8 * l.length) 7, be (8 * l.length) 6]) rfl (OS.alloc own12 _) _ [be (8 * l.length) 5] rfl (one_u8 _ _ _ _ _ qzkdd_2 (by first | exact e2.out | exact g2.out | (have := e2.out; omega))) ?c1 ?c2 ?c3 ?_))
 case c1 => simp; omega
 case c2 => simp [maxLen]; omega
 case c3 => have := bb2.size; simp; omega
 intro y3 W3 own13 hgr
 have bb3 := b_grown (b_alloc bb2 _) hgr (OS.block own12)
 clear hgr
 clear own12 bb2
 go_wp2_with fail
 rw [rounds_succ]
 have e3 : Hid ((8 * (l.length : Int)) / 4294967296 % 256 = ((be (8 * l.length) 4).toNat : Int)) := by
  refine hid ?_
  rw [be_val]
  omega
 have g3 : Hid (((l.length : Int) * 8) / 4294967296 % 256 = ((be (8 * l.length) 4).toNat : Int)) := hid (by have := e3.out; omega)
 go_wp2_with (at_builtin; go_must (refine wpL_append flat_u8 rfl (.tmp 30) (.tmp 37) 41 rfl 5 i0 (.int .u8 0) Tryz.underlying41 hi hz0 hz1 hz2 rfl w.heap.size _ (padZs l (padZ l.length) ++ [be (8 * l.length) 7, be (8 * l.length) 6, be (8 * l.length) 5]) rfl (OS.alloc own13 _) _ [be (8 * l.length) 4] rfl (one_u8 _ _ _ _ _ qzkdd_2 (by first | exact e3.out | exact g3.out | (have := e3.out; omega))) ?c1 ?c2 ?c3 ?_))
 case c1 => simp; omega
 case c2 => simp [maxLen]; omega
 case c3 => have := bb3.size; simp; omega
 intro y4 W4 own14 hgr
 have bb4 := b_grown (b_alloc bb3 _) hgr (OS.block own13)
 clear hgr
 clear own13 bb3
 go_wp2_with fail
 rw [rounds_succ]
 have e4 : Hid ((8 * (l.length : Int)) / 16777216 % 256 = ((be (8 * l.length) 3).toNat : Int)) := by
  refine hid ?_
  rw [be_val]
  omega
 have g4 : Hid (((l.length : Int) * 8) / 16777216 % 256 = ((be (8 * l.length) 3).toNat : Int)) := hid (by have := e4.out; omega)
 go_wp2_with (at_builtin; go_must (refine wpL_append flat_u8 rfl (.tmp 30) (.tmp 37) 41 rfl 5 i0 (.int .u8 0) Tryz.underlying41 hi hz0 hz1 hz2 rfl w.heap.size _ (padZs l (padZ l.length) ++ [be (8 * l.length) 7, be (8 * l.length) 6, be (8 * l.length) 5, be (8 * l.length) 4]) rfl (OS.alloc own14 _) _ [be (8 * l.length) 3] rfl (one_u8 _ _ _ _ _ qzkdd_2 (by first | exact e4.out | exact g4.out | (have := e4.out; omega))) ?c1 ?c2 ?c3 ?_))
 case c1 => simp; omega
 case c2 => simp [maxLen]; omega
 case c3 => have := bb4.size; simp; omega
 intro y5 W5 own15 hgr
 have bb5 := b_grown (b_alloc bb4 _) hgr (OS.block own14)
 clear hgr
 clear own14 bb4
 go_wp2_with fail
 rw [rounds_succ]
 have e5 : Hid ((8 * (l.length : Int)) / 65536 % 256 = ((be (8 * l.length) 2).toNat : Int)) := by
  refine hid ?_
  rw [be_val]
  omega
 have g5 : Hid (((l.length : Int) * 8) / 65536 % 256 = ((be (8 * l.length) 2).toNat : Int)) := hid (by have := e5.out; omega)
 go_wp2_with (at_builtin; go_must (refine wpL_append flat_u8 rfl (.tmp 30) (.tmp 37) 41 rfl 5 i0 (.int .u8 0) Tryz.underlying41 hi hz0 hz1 hz2 rfl w.heap.size _ (padZs l (padZ l.length) ++ [be (8 * l.length) 7, be (8 * l.length) 6, be (8 * l.length) 5, be (8 * l.length) 4, be (8 * l.length) 3]) rfl (OS.alloc own15 _) _ [be (8 * l.length) 2] rfl (one_u8 _ _ _ _ _ qzkdd_2 (by first | exact e5.out | exact g5.out | (have := e5.out; omega))) ?c1 ?c2 ?c3 ?_))
 case c1 => simp; omega
 case c2 => simp [maxLen]; omega
 case c3 => have := bb5.size; simp; omega
 intro y6 W6 own16 hgr
 have bb6 := b_grown (b_alloc bb5 _) hgr (OS.block own15)
 clear hgr
 clear own15 bb5
 go_wp2_with fail
 rw [rounds_succ]
 have e6 : Hid ((8 * (l.length : Int)) / 256 % 256 = ((be (8 * l.length) 1).toNat : Int)) := by
  refine hid ?_
  rw [be_val]
  omega
 have g6 : Hid (((l.length : Int) * 8) / 256 % 256 = ((be (8 * l.length) 1).toNat : Int)) := hid (by have := e6.out; omega)
 go_wp2_with (at_builtin; go_must (refine wpL_append flat_u8 rfl (.tmp 30) (.tmp 37) 41 rfl 5 i0 (.int .u8 0) Tryz.underlying41 hi hz0 hz1 hz2 rfl w.heap.size _ (padZs l (padZ l.length) ++ [be (8 * l.length) 7, be (8 * l.length) 6, be (8 * l.length) 5, be (8 * l.length) 4, be (8 * l.length) 3, be (8 * l.length) 2]) rfl (OS.alloc own16 _) _ [be (8 * l.length) 1] rfl (one_u8 _ _ _ _ _ qzkdd_2 (by first | exact e6.out | exact g6.out | (have := e6.out; omega))) ?c1 ?c2 ?c3 ?_))
 case c1 => simp; omega
 case c2 => simp [maxLen]; omega
 case c3 => have := bb6.size; simp; omega
 intro y7 W7 own17 hgr
 have bb7 := b_grown (b_alloc bb6 _) hgr (OS.block own16)
 clear hgr
 clear own16 bb6
 go_wp2_with fail
 rw [rounds_succ]
 have e7 : Hid ((8 * (l.length : Int)) / 1 % 256 = ((be (8 * l.length) 0).toNat : Int)) := by
  refine hid ?_
  rw [be_val]
  omega
 have g7 : Hid (((l.length : Int) * 8) / 1 % 256 = ((be (8 * l.length) 0).toNat : Int)) := hid (by have := e7.out; omega)
 go_wp2_with (at_builtin; go_must (refine wpL_append flat_u8 rfl (.tmp 30) (.tmp 37) 41 rfl 5 i0 (.int .u8 0) Tryz.underlying41 hi hz0 hz1 hz2 rfl w.heap.size _ (padZs l (padZ l.length) ++ [be (8 * l.length) 7, be (8 * l.length) 6, be (8 * l.length) 5, be (8 * l.length) 4, be (8 * l.length) 3, be (8 * l.length) 2, be (8 * l.length) 1]) rfl (OS.alloc own17 _) _ [be (8 * l.length) 0] rfl (one_u8 _ _ _ _ _ qzkdd_2 (by first | exact e7.out | exact g7.out | (have := e7.out; omega))) ?c1 ?c2 ?c3 ?_))
 case c1 => simp; omega
 case c2 => simp [maxLen]; omega
 case c3 => have := bb7.size; simp; omega
 intro y8 W8 own18 hgr
 have bb8 := b_grown (b_alloc bb7 _) hgr (OS.block own17)
 clear hgr
 clear own17 bb7
 go_wp2_with fail
 rw [rounds_succ]
 have hfin : OS 5 1 cU8 W8 w.heap.size y8 P := by
  have h1 := own18
  rw [hpe.out]
  simpa using h1
 clear own18
 have hPlen := hPl.out
 have hrd := reads_u8 hfin qzkdd_4
 obtain ⟨ad3, cp3, rfl, -⟩ := id (OS.len_le hfin)
 go_wp2_with fail
 ((with_reducible refine (keep_constants _).mono ?_); rintro e w9 ⟨kk, rfl, hkg, rk, b9⟩)
 have hH := hid ((bw_new W8 99 _ startW _ rfl rfl).below b9)
 have hq9 := hid (hrd.mono EU8.stable (b_call (b_alloc (Below.refl _ _) _) b9))
 have hb9 := hid (b_call (b_alloc bb8 _) b9)
 have hgB := bb8.size
 replace rk := hid rk
 have hkg : W8.heap.size + 1 ≤ kk := by simpa using hkg
 replace hPlen := hid hPlen
 clear hfin hrd b9 bb8 e0 e1 e2 e3 e4 e5 e6 e7 g0 g1 g2 g3 g4 g5 g6 g7 hlz hln q1 hs hno2 hz
 obtain ⟨g, hg⟩ : ∃ g, g = W8.heap.size := ⟨_, rfl⟩
 rw [← hg] at hH hgB hkg ⊢
 clear hg
 go_wp2_with fail
 go_loopw [3] (fun v3 wr => ∃ (q : List UInt8) (h : List UInt32), Hid (RB wr v3 q) ∧ Hid (DigInv R q h) ∧ Hid (BW wr g 99 h) ∧ Hid (RW wr (.slice (some ⟨kk, 0, none⟩) 64 64) roundW) ∧ Hid (Below w.heap.size w wr)) (fun v _ => match v with | .slice _ n _ => n | _ => 0)
 case atStart => exact ⟨P, startW, hq9, hinv, hH, rk, hb9⟩
 clear hq9 hinv hH rk hb9
 obtain ⟨q, h, rq, hinv, hH, rk, hb⟩ := hrel
 obtain ⟨aq, cq, rfl, hqc, hqm, hqe, hqn, -⟩ := id rq.out
 unfold maxLen at hqm
 by_cases hlt : 0 < q.length
 · obtain ⟨hnx, h64, h8⟩ := dig_next hinv.out hlt
   replace hnx := hid hnx
   have hN8 := compress_len h (wordsDec q 16) h8
   obtain ⟨bq, oq, cq', hvq, -⟩ := RB.block rq.out hlt
   simp only [Value.slice.injEq] at hvq
   obtain ⟨rfl, -, rfl⟩ := hvq
   obtain ⟨x0, x1, x2, x3, x4, x5, x6, x7, rfl⟩ := list8 h h8
   have hkh : Hid (∀ w, RB w (.slice (some ⟨bq, oq, none⟩) q.length cq) q → RW w (.slice (some ⟨kk, 0, none⟩) 64 64) roundW → Calls Tryz.prog 40 #[.agg #[.int .u32 (x0.toNat : Int), .int .u32 (x1.toNat : Int), .int .u32 (x2.toNat : Int), .int .u32 (x3.toNat : Int), .int .u32 (x4.toNat : Int), .int .u32 (x5.toNat : Int), .int .u32 (x6.toNat : Int), .int .u32 (x7.toNat : Int)], (.slice (some ⟨bq, oq, none⟩) q.length cq), .slice (some ⟨kk, 0, none⟩) 64 64] w fun e w' => e = .returned (aggW (compress [x0, x1, x2, x3, x4, x5, x6, x7] (wordsDec q 16))) ∧ Below w.heap.size w w') := hid (fun w a b => keep_hashed [x0, x1, x2, x3, x4, x5, x6, x7] rfl _ _ q w a b h64)
   generalize compress [x0, x1, x2, x3, x4, x5, x6, x7] (wordsDec q 16) = N at *
   obtain ⟨n0, n1, n2, n3, n4, n5, n6, n7, rfl⟩ := list8 N hN8
   have hag : aggW [n0, n1, n2, n3, n4, n5, n6, n7] = .agg #[.int .u32 (n0.toNat : Int), .int .u32 (n1.toNat : Int), .int .u32 (n2.toNat : Int), .int .u32 (n3.toNat : Int), .int .u32 (n4.toNat : Int), .int .u32 (n5.toNat : Int), .int .u32 (n6.toNat : Int), .int .u32 (n7.toNat : Int)] := rfl
   rw [hag] at hkh
   clear hag hN8 h8 hinv
   have e0 := hH.out.cell 0 x0 rfl
   have e1 := hH.out.cell 1 x1 rfl
   have e2 := hH.out.cell 2 x2 rfl
   have e3 := hH.out.cell 3 x3 rfl
   have e4 := hH.out.cell 4 x4 rfl
   have e5 := hH.out.cell 5 x5 rfl
   have e6 := hH.out.cell 6 x6 rfl
   have e7 := hH.out.cell 7 x7 rfl
   have h64' : (64 : Int) ≤ (q.length : Int) := by omega
   have h64c : 64 ≤ cq := by omega
   have hlt' : (0 : Int) < (q.length : Int) := by omega
   have hbr := behind_reads rq.out 64 h64
   rw [behind_slice] at hbr
   replace hbr := hid hbr
   go_wp2_with fail
   ((with_reducible refine (hkh.out _ rq.out rk.out).mono ?_); rintro e w5 ⟨rfl, b5⟩)
   have hH5 := hid (hH.out.below b5)
   have hbr5 := hid (hbr.out.mono EU8.stable b5)
   have hk5 := hid (rk.out.mono EU32.stable b5)
   have hb5 := hid (b_call hb.out b5)
   clear e0 e1 e2 e3 e4 e5 e6 e7
   clear hkh hH hbr rk hb rq b5
   have e0 := hH5.out.cell 0 x0 rfl
   have e1 := hH5.out.cell 1 x1 rfl
   have e2 := hH5.out.cell 2 x2 rfl
   have e3 := hH5.out.cell 3 x3 rfl
   have e4 := hH5.out.cell 4 x4 rfl
   have e5 := hH5.out.cell 5 x5 rfl
   have e6 := hH5.out.cell 6 x6 rfl
   have e7 := hH5.out.cell 7 x7 rfl
   have f0 := hH5.out.frozen 0
   have f1 := hH5.out.frozen 1
   have f2 := hH5.out.frozen 2
   have f3 := hH5.out.frozen 3
   have f4 := hH5.out.frozen 4
   have f5 := hH5.out.frozen 5
   have f6 := hH5.out.frozen 6
   have f7 := hH5.out.frozen 7
   have h9 := hid ((((((((hH5.out.set 0 n0).set 1 n1).set 2 n2).set 3 n3).set 4 n4).set 5 n5).set 6 n6).set 7 n7)
   have g9 := (grow1 (o := 7) (u := .int .u32 (n7.toNat : Int)) (grow1 (o := 6) (u := .int .u32 (n6.toNat : Int)) (grow1 (o := 5) (u := .int .u32 (n5.toNat : Int)) (grow1 (o := 4) (u := .int .u32 (n4.toNat : Int)) (grow1 (o := 3) (u := .int .u32 (n3.toNat : Int)) (grow1 (o := 2) (u := .int .u32 (n2.toNat : Int)) (grow1 (o := 1) (u := .int .u32 (n1.toNat : Int)) (grow1 (o := 0) (u := .int .u32 (n0.toNat : Int)) (grow0 w5 g)))))))))
   have rb9 := hid (rb_w hbr5.out hH5.out g9)
   have rk9 := hid (rw_far hk5.out (show kk ≠ g by omega) g9)
   have b9 := hid (b_set (p := ⟨g, 7, none⟩) (b_set (p := ⟨g, 6, none⟩) (b_set (p := ⟨g, 5, none⟩) (b_set (p := ⟨g, 4, none⟩) (b_set (p := ⟨g, 3, none⟩) (b_set (p := ⟨g, 2, none⟩) (b_set (p := ⟨g, 1, none⟩) (b_set (p := ⟨g, 0, none⟩) hb5.out hgB (.int .u32 (n0.toNat : Int))) hgB (.int .u32 (n1.toNat : Int))) hgB (.int .u32 (n2.toNat : Int))) hgB (.int .u32 (n3.toNat : Int))) hgB (.int .u32 (n4.toNat : Int))) hgB (.int .u32 (n5.toNat : Int))) hgB (.int .u32 (n6.toNat : Int))) hgB (.int .u32 (n7.toNat : Int)))
   clear g9 hbr5 hH5 hk5 hb5
   go_wp2_with fail
   go_roundw
   case rel => exact ⟨q.drop 64, [n0, n1, n2, n3, n4, n5, n6, n7], rb9, hnx, h9, rk9, b9⟩
   case measure => simp; omega
 have hq0 : q.length = 0 := by omega
 have hR : R = h := dig_end hinv.out hq0
 subst hR
 obtain ⟨x0, x1, x2, x3, x4, x5, x6, x7, rfl⟩ := list8 R hR8
 have hbB := hb.out.size
 clear hinv rq rk hlt
 have e0 := hH.out.cell 0 x0 rfl
 have e1 := hH.out.cell 1 x1 rfl
 have e2 := hH.out.cell 2 x2 rfl
 have e3 := hH.out.cell 3 x3 rfl
 have e4 := hH.out.cell 4 x4 rfl
 have e5 := hH.out.cell 5 x5 rfl
 have e6 := hH.out.cell 6 x6 rfl
 have e7 := hH.out.cell 7 x7 rfl
 have hq0' : ¬ ((0 : Int) < (q.length : Int)) := by omega
 have hAT := arr_at x0 x1 x2 x3 x4 x5 x6 x7
 replace hAT := hid hAT
 go_wp2_with fail
 go_loopw [8, 10, 11, 52] (fun v8 _ _ i wr => ∃ n : Nat, i = .int .i64 (n : Int) ∧ n ≤ 8 ∧ OS 5 1 cU8 wr w.heap.size v8 (hexOf (bytesW ([x0, x1, x2, x3, x4, x5, x6, x7].take n))) ∧ Hid (Below w.heap.size w wr)) (fun _ _ _ i _ => 8 - (intOf i).toNat)
 case atStart => exact ⟨0, rfl, by omega, OS.nil, hb⟩
 clear hb hH hbB e0 e1 e2 e3 e4 e5 e6 e7
 obtain ⟨n, rfl, hn, own, hb⟩ := hrel
 have hbB := hb.out.size
 by_cases hlt : n < 8
 · have hx := hAT.out n hlt
   have hhx := hid (hex_next [x0, x1, x2, x3, x4, x5, x6, x7] n hlt)
   have hlen : (hexOf (bytesW ([x0, x1, x2, x3, x4, x5, x6, x7].take n))).length ≤ 64 := by rw [hexOf_len, bytesW_len, List.length_take]; show 2 * (4 * min n 8) ≤ 64; omega
   generalize [x0, x1, x2, x3, x4, x5, x6, x7].getD n 0 = x at *
   rw [hex_word] at hhx
   generalize hexOf (bytesW ([x0, x1, x2, x3, x4, x5, x6, x7].take n)) = pre at *
   have hxl := x.toNat_lt
   replace hlt := hid hlt
   have n0 : (n : Int) < 8 := by have := hlt.out; omega
   go_wp2_with fail
   refine wp_loop_rounds 9 ?_
   rw [rounds_succ]
   have a0 : bits .and .u32 ((x.toNat : Int) / 268435456) 15 = ((x.toNat / 268435456 % 16 : Nat) : Int) := by
    have := and15w (x.toNat / 268435456) qzkdd_4
    rw [← this]
    congr 1
   have d0 := dig32 ((x.toNat / 268435456 % 16 : Nat) : Int) (x.toNat / 268435456 % 16) rfl qzkdd_4
   go_wp2_with (at_builtin; go_must (refine wpL_append flat_u8 rfl (.tmp 58) (.tmp 66) 41 rfl 5 i0 (.int .u8 0) Tryz.underlying41 hi hz0 hz1 hz2 rfl w.heap.size _ (pre) rfl (OS.alloc own _) _ [hexDig (x.toNat / 268435456 % 16)] rfl (one_u8 _ _ _ _ _ qzkdd_2 qzkdd_3) ?c1 ?c2 ?c3 ?_))
   case c1 => simp; omega
   case c2 => simp [maxLen]; omega
   case c3 => have := Below.size (hb.out); simp; omega
   intro y1 W1 own1 hgr
   have bb1 := b_grown (b_alloc (hb.out) _) hgr (OS.block own)
   clear hgr a0 d0 own
   go_wp2_with fail
   rw [rounds_succ]
   have a1 : bits .and .u32 ((x.toNat : Int) / 16777216) 15 = ((x.toNat / 16777216 % 16 : Nat) : Int) := by
    have := and15w (x.toNat / 16777216) qzkdd_4
    rw [← this]
    congr 1
   have d1 := dig32 ((x.toNat / 16777216 % 16 : Nat) : Int) (x.toNat / 16777216 % 16) rfl qzkdd_4
   go_wp2_with (at_builtin; go_must (refine wpL_append flat_u8 rfl (.tmp 58) (.tmp 66) 41 rfl 5 i0 (.int .u8 0) Tryz.underlying41 hi hz0 hz1 hz2 rfl w.heap.size _ (pre ++ [hexDig (x.toNat / 268435456 % 16)]) rfl (OS.alloc own1 _) _ [hexDig (x.toNat / 16777216 % 16)] rfl (one_u8 _ _ _ _ _ qzkdd_2 qzkdd_3) ?c1 ?c2 ?c3 ?_))
   case c1 => simp; omega
   case c2 => simp [maxLen]; omega
   case c3 => have := Below.size (bb1); simp; omega
   intro y2 W2 own2 hgr
   have bb2 := b_grown (b_alloc (bb1) _) hgr (OS.block own1)
   clear hgr a1 d1 own1
   go_wp2_with fail
   rw [rounds_succ]
   have a2 : bits .and .u32 ((x.toNat : Int) / 1048576) 15 = ((x.toNat / 1048576 % 16 : Nat) : Int) := by
    have := and15w (x.toNat / 1048576) qzkdd_4
    rw [← this]
    congr 1
   have d2 := dig32 ((x.toNat / 1048576 % 16 : Nat) : Int) (x.toNat / 1048576 % 16) rfl qzkdd_4
   go_wp2_with (at_builtin; go_must (refine wpL_append flat_u8 rfl (.tmp 58) (.tmp 66) 41 rfl 5 i0 (.int .u8 0) Tryz.underlying41 hi hz0 hz1 hz2 rfl w.heap.size _ (pre ++ [hexDig (x.toNat / 268435456 % 16), hexDig (x.toNat / 16777216 % 16)]) rfl (OS.alloc own2 _) _ [hexDig (x.toNat / 1048576 % 16)] rfl (one_u8 _ _ _ _ _ qzkdd_2 qzkdd_3) ?c1 ?c2 ?c3 ?_))
   case c1 => simp; omega
   case c2 => simp [maxLen]; omega
   case c3 => have := Below.size (bb2); simp; omega
   intro y3 W3 own3 hgr
   have bb3 := b_grown (b_alloc (bb2) _) hgr (OS.block own2)
   clear hgr a2 d2 own2
   go_wp2_with fail
   rw [rounds_succ]
   have a3 : bits .and .u32 ((x.toNat : Int) / 65536) 15 = ((x.toNat / 65536 % 16 : Nat) : Int) := by
    have := and15w (x.toNat / 65536) qzkdd_4
    rw [← this]
    congr 1
   have d3 := dig32 ((x.toNat / 65536 % 16 : Nat) : Int) (x.toNat / 65536 % 16) rfl qzkdd_4
   go_wp2_with (at_builtin; go_must (refine wpL_append flat_u8 rfl (.tmp 58) (.tmp 66) 41 rfl 5 i0 (.int .u8 0) Tryz.underlying41 hi hz0 hz1 hz2 rfl w.heap.size _ (pre ++ [hexDig (x.toNat / 268435456 % 16), hexDig (x.toNat / 16777216 % 16), hexDig (x.toNat / 1048576 % 16)]) rfl (OS.alloc own3 _) _ [hexDig (x.toNat / 65536 % 16)] rfl (one_u8 _ _ _ _ _ qzkdd_2 qzkdd_3) ?c1 ?c2 ?c3 ?_))
   case c1 => simp; omega
   case c2 => simp [maxLen]; omega
   case c3 => have := Below.size (bb3); simp; omega
   intro y4 W4 own4 hgr
   have bb4 := b_grown (b_alloc (bb3) _) hgr (OS.block own3)
   clear hgr a3 d3 own3
   go_wp2_with fail
   rw [rounds_succ]
   have a4 : bits .and .u32 ((x.toNat : Int) / 4096) 15 = ((x.toNat / 4096 % 16 : Nat) : Int) := by
    have := and15w (x.toNat / 4096) qzkdd_4
    rw [← this]
    congr 1
   have d4 := dig32 ((x.toNat / 4096 % 16 : Nat) : Int) (x.toNat / 4096 % 16) rfl qzkdd_4
   go_wp2_with (at_builtin; go_must (refine wpL_append flat_u8 rfl (.tmp 58) (.tmp 66) 41 rfl 5 i0 (.int .u8 0) Tryz.underlying41 hi hz0 hz1 hz2 rfl w.heap.size _ (pre ++ [hexDig (x.toNat / 268435456 % 16), hexDig (x.toNat / 16777216 % 16), hexDig (x.toNat / 1048576 % 16), hexDig (x.toNat / 65536 % 16)]) rfl (OS.alloc own4 _) _ [hexDig (x.toNat / 4096 % 16)] rfl (one_u8 _ _ _ _ _ qzkdd_2 qzkdd_3) ?c1 ?c2 ?c3 ?_))
   case c1 => simp; omega
   case c2 => simp [maxLen]; omega
   case c3 => have := Below.size (bb4); simp; omega
   intro y5 W5 own5 hgr
   have bb5 := b_grown (b_alloc (bb4) _) hgr (OS.block own4)
   clear hgr a4 d4 own4
   go_wp2_with fail
   rw [rounds_succ]
   have a5 : bits .and .u32 ((x.toNat : Int) / 256) 15 = ((x.toNat / 256 % 16 : Nat) : Int) := by
    have := and15w (x.toNat / 256) qzkdd_4
    rw [← this]
    congr 1
   have d5 := dig32 ((x.toNat / 256 % 16 : Nat) : Int) (x.toNat / 256 % 16) rfl qzkdd_4
   go_wp2_with (at_builtin; go_must (refine wpL_append flat_u8 rfl (.tmp 58) (.tmp 66) 41 rfl 5 i0 (.int .u8 0) Tryz.underlying41 hi hz0 hz1 hz2 rfl w.heap.size _ (pre ++ [hexDig (x.toNat / 268435456 % 16), hexDig (x.toNat / 16777216 % 16), hexDig (x.toNat / 1048576 % 16), hexDig (x.toNat / 65536 % 16), hexDig (x.toNat / 4096 % 16)]) rfl (OS.alloc own5 _) _ [hexDig (x.toNat / 256 % 16)] rfl (one_u8 _ _ _ _ _ qzkdd_2 qzkdd_3) ?c1 ?c2 ?c3 ?_))
   case c1 => simp; omega
   case c2 => simp [maxLen]; omega
   case c3 => have := Below.size (bb5); simp; omega
   intro y6 W6 own6 hgr
   have bb6 := b_grown (b_alloc (bb5) _) hgr (OS.block own5)
   clear hgr a5 d5 own5
   go_wp2_with fail
   rw [rounds_succ]
   have a6 : bits .and .u32 ((x.toNat : Int) / 16) 15 = ((x.toNat / 16 % 16 : Nat) : Int) := by
    have := and15w (x.toNat / 16) qzkdd_4
    rw [← this]
    congr 1
   have d6 := dig32 ((x.toNat / 16 % 16 : Nat) : Int) (x.toNat / 16 % 16) rfl qzkdd_4
   go_wp2_with (at_builtin; go_must (refine wpL_append flat_u8 rfl (.tmp 58) (.tmp 66) 41 rfl 5 i0 (.int .u8 0) Tryz.underlying41 hi hz0 hz1 hz2 rfl w.heap.size _ (pre ++ [hexDig (x.toNat / 268435456 % 16), hexDig (x.toNat / 16777216 % 16), hexDig (x.toNat / 1048576 % 16), hexDig (x.toNat / 65536 % 16), hexDig (x.toNat / 4096 % 16), hexDig (x.toNat / 256 % 16)]) rfl (OS.alloc own6 _) _ [hexDig (x.toNat / 16 % 16)] rfl (one_u8 _ _ _ _ _ qzkdd_2 qzkdd_3) ?c1 ?c2 ?c3 ?_))
   case c1 => simp; omega
   case c2 => simp [maxLen]; omega
   case c3 => have := Below.size (bb6); simp; omega
   intro y7 W7 own7 hgr
   have bb7 := b_grown (b_alloc (bb6) _) hgr (OS.block own6)
   clear hgr a6 d6 own6
   go_wp2_with fail
   rw [rounds_succ]
   have a7 := and15w x.toNat qzkdd_4
   have d7 := dig32 ((x.toNat % 16 : Nat) : Int) (x.toNat % 16) rfl qzkdd_4
   go_wp2_with (at_builtin; go_must (refine wpL_append flat_u8 rfl (.tmp 58) (.tmp 66) 41 rfl 5 i0 (.int .u8 0) Tryz.underlying41 hi hz0 hz1 hz2 rfl w.heap.size _ (pre ++ [hexDig (x.toNat / 268435456 % 16), hexDig (x.toNat / 16777216 % 16), hexDig (x.toNat / 1048576 % 16), hexDig (x.toNat / 65536 % 16), hexDig (x.toNat / 4096 % 16), hexDig (x.toNat / 256 % 16), hexDig (x.toNat / 16 % 16)]) rfl (OS.alloc own7 _) _ [hexDig (x.toNat % 16)] rfl (one_u8 _ _ _ _ _ qzkdd_2 qzkdd_3) ?c1 ?c2 ?c3 ?_))
   case c1 => simp; omega
   case c2 => simp [maxLen]; omega
   case c3 => have := Below.size (bb7); simp; omega
   intro y8 W8 own8 hgr
   have bb8 := b_grown (b_alloc (bb7) _) hgr (OS.block own7)
   clear hgr a7 d7 own7
   go_wp2_with fail
   rw [rounds_succ]
   rw [hhx.out] at own8
   clear hhx
   (try go_wp2_with fail)
   go_roundw
   case rel => exact ⟨n + 1, by go_num, by have := hlt.out; omega, own8, hid bb8⟩
   case measure => have := hlt.out; simp [intOf]; omega
 obtain rfl : n = 8 := by omega
 have own9 : OS 5 1 cU8 wr w.heap.size _ (hexOf (bytesW [x0, x1, x2, x3, x4, x5, x6, x7])) := own
 have r9 := reads_u8 own9 (by rw [hexOf_len, bytesW_len]; show 2 * (4 * 8) ≤ _; decide)
 have cd := run_string_of 41 5 Tryz.underlying41 Tryz.underlying5 9 Tryz.underlying9 r9
 clear own own9 hAT
 go_wp2_with fail
 go_ret
 exact ⟨rfl, hb.out⟩
theorem keep_Digest (v : Value) (l : List UInt8) (w : World) (hl : RB w v l) (hlen : l.length ≤ 140737488351000) :
 Calls Tryz.prog 15 #[v] w fun e w' => e = .returned (.string (digS l)) ∧ Below w.heap.size w w' :=
 keep_Digest' (hashW l) (padRes l) v l w hl hlen rfl (padRes_len l) (hashW8 l) (dig_start l)
theorem wf_i64 {n : Int} (h : (Lit.int .i64 n).wf = true) : -9223372036854775808 ≤ n ∧ n ≤ 9223372036854775807 := by
 simpa [Lit.wf, IntKind.min, IntKind.max, IntKind.signed, IntKind.bits] using h
def pick (n m : Int) : Int := if n < 0 then (-(n + 1)) % m else n % m
set_option maxRecDepth 100000 in
theorem keep_picked (n m : Int) (w : World) (hwf : (Lit.int .i64 n).wf = true) (hm : 0 < m) (hm2 : m ≤ 1000000) :
 Calls Tryz.prog 34 #[.int .i64 n, .int .i64 m] w fun e w' => e = .returned (.int .i64 (pick n m)) ∧ w' = w := by
 have hb := wf_i64 hwf
 unfold pick
 by_cases h : n < 0
 · rw [if_pos h]
   have h1 : (-(n + 1)).tmod m = (-(n + 1)) % m := Int.tmod_eq_emod_of_nonneg qzkdd_4
   have h2 := Int.emod_nonneg (-(n + 1)) (show m ≠ 0 by omega)
   have h3 := Int.emod_lt_of_pos (-(n + 1)) hm
   exact qzkdd_1
 rw [if_neg h]
 have h1 : n.tmod m = n % m := Int.tmod_eq_emod_of_nonneg qzkdd_4
 have h2 := Int.emod_nonneg n (show m ≠ 0 by omega)
 have h3 := Int.emod_lt_of_pos n hm
 exact qzkdd_1
theorem pick_range (n m : Int) (hm : 0 < m) : 0 ≤ pick n m ∧ pick n m < m := by
 unfold pick
 split
 · exact ⟨Int.emod_nonneg _ qzkdd_4, Int.emod_lt_of_pos _ hm⟩
 exact ⟨Int.emod_nonneg _ qzkdd_4, Int.emod_lt_of_pos _ hm⟩
set_option maxRecDepth 100000 in
theorem keep_Picked (n m : Int) (w : World) (hwf : (Lit.int .i64 n).wf = true) (hm : 0 < m) (hm2 : m ≤ 1000000) :
 Calls Tryz.prog 13 #[.int .i64 n, .int .i64 m] w fun e w' => e = .returned (.int .i64 (pick n m)) ∧ w' = w := by
 have hk := hid fun w => keep_picked n m w hwf hm hm2
 generalize pick n m = r at *
 go_enter Tryz.func13, Tryz.ntmps13
 go_wp2_with fail
 ((with_reducible refine (hk.out _).mono ?_); rintro e w1 ⟨rfl, rfl⟩)
 go_wp2_with fail
 go_ret
 exact ⟨rfl, rfl⟩
def keyS (n : Int) : ByteArray := digS [107, UInt8.ofNat (pick n 7).toNat]
set_option maxRecDepth 100000 in
theorem keep_Key (n : Int) (w : World) (hwf : (Lit.int .i64 n).wf = true) :
 Calls Tryz.prog 17 #[.int .i64 n] w fun e w' => e = .returned (.string (keyS n)) ∧ Below w.heap.size w w' := by
 have hk := hid fun w => keep_picked n 7 w hwf (by decide) (by decide)
 have hr := pick_range n 7 (by decide)
 unfold keyS
 generalize pick n 7 = r at *
 obtain ⟨k, rfl⟩ : ∃ k : Nat, r = (k : Int) := ⟨r.toNat, by omega⟩
 have hk7 : k < 7 := by omega
 have hv : ((UInt8.ofNat k).toNat : Int) = (k : Int) := by rw [UInt8.toNat_ofNat']; omega
 have hd := hid fun v w h => keep_Digest v [107, UInt8.ofNat k] w h (by simp)
 rw [Int.toNat_natCast]
 generalize digS [107, UInt8.ofNat k] = S at *
 go_enter Tryz.func17, Tryz.ntmps17
 go_wp2_with fail
 ((with_reducible refine (hk.out _).mono ?_); rintro e w1 ⟨rfl, rfl⟩)
 go_wp2_with fail
 ((with_reducible refine (hd.out _ _ ?_).mono ?_))
 · exact lit8 _ _ _ [107, UInt8.ofNat k] _ 2 rfl (by simp [cU8]; omega) rfl (by simp)
 rintro e w2 ⟨rfl, b2⟩
 go_wp2_with fail
 go_ret
 exact ⟨rfl, b_call (b_alloc (Below.refl _ _) _) b2⟩
end Go.Proofs.YtpkpgehiplhkpaaGreat
