/-
  sha.Sum and the reference's ShaSum: what each answers; the law ShaSums: its walk.
-/
import Derived.Test.YtojebioolflbkaaGreatCmp
import Derived.Test.YtojebioolflbkaaGreatHx
import Derived.Test.YtojebioolflbkaaGreatWrd
namespace Go.Proofs.YtojebioolflbkaaGreat
open Go.RowKit

def sumRest : Nat → List UInt32 → List UInt32 → List UInt32
  | 0, _, h => h
  | n + 1, ws, h => sumRest n (ws.drop 16) (compress h (ws.take 16))
/-- What is reckoned so far comes out as all. -/
def SumInv (R ws h : List UInt32) : Prop := R = sumRest (ws.length / 16) ws h ∧ ws.length % 16 = 0 ∧ h.length = 8
theorem sum_next {R ws h : List UInt32} (hi : SumInv R ws h) (hn : 0 < ws.length) : SumInv R (ws.drop 16) (stepOut h (ws.take 16)) ∧ 16 ≤ ws.length ∧ (ws.take 16).length = 16 ∧ h.length = 8 ∧ stepOut h (ws.take 16) = compress h (ws.take 16) := by
  obtain ⟨h1, h2, h3⟩ := hi
  have h16 : 16 ≤ ws.length := by omega
  have ht : (ws.take 16).length = 16 := by rw [List.length_take]; omega
  have ho : stepOut h (ws.take 16) = compress h (ws.take 16) := by unfold stepOut; rw [if_pos ⟨h3, ht⟩]
  refine ⟨⟨?_, by rw [List.length_drop]; omega, by rw [ho]; exact compress_len _ _ h3⟩, h16, ht, h3, ho⟩
  obtain ⟨q, hq⟩ : ∃ q, ws.length / 16 = q + 1 := ⟨ws.length / 16 - 1, by omega⟩
  rw [h1, hq, sumRest, List.length_drop, show (ws.length - 16) / 16 = q by omega, ho]
theorem sum_end {R ws h : List UInt32} (hi : SumInv R ws h) (hn : ws.length = 0) : R = h := by
  obtain ⟨h1, _, _⟩ := hi
  rw [h1, hn]; rfl
theorem sum_hlen {R ws h : List UInt32} (hi : SumInv R ws h) : h.length = 8 := hi.2.2
/-- The eight words of the digest of bytes. -/
def hashW (l : List UInt8) : List UInt32 := sumRest ((wordsDec (padRes l) ((padRes l).length / 4)).length / 16) (wordsDec (padRes l) ((padRes l).length / 4)) startW
/-- The digest of bytes, as a text. -/
def sumStr (l : List UInt8) : ByteArray := if 2000 < l.length then ⟨#[]⟩ else bstr (hexOf (bytesW (hashW l)))
theorem hash_inv (l : List UInt8) : SumInv (hashW l) (wordsDec (padRes l) ((padRes l).length / 4)) startW := by
  refine ⟨rfl, ?_, rfl⟩
  rw [wordsDec_len, padRes_len]
  have := padZ_spec l.length
  omega

theorem rw_cut {w : World} {b off c : Nat} {l : List UInt32} (h : RW w (.slice (some ⟨b, off, none⟩) l.length c) l) (m k n c' : Nat) (hm : m + k ≤ l.length) (hn : n = k) (hk : k ≤ c') (hc : c' ≤ maxLen) : RW w (.slice (some ⟨b, off + m, none⟩) n c') ((l.drop m).take k) := by
  subst hn
  obtain ⟨a0, c0, hv, -, -, hr, -, hat⟩ := h
  simp only [Value.slice.injEq] at hv
  obtain ⟨rfl, -, -⟩ := hv
  have hlen : ((l.drop m).take n).length = n := by rw [List.length_take, List.length_drop]; omega
  refine ⟨_, c', by rw [hlen], by omega, hc, by rw [hlen]; omega, (fun h => by simp at h), fun j x hj => ?_⟩
  have hjn : j < n := by have := (List.getElem?_eq_some_iff.1 hj).1; omega
  rw [List.getElem?_take, if_pos hjn, List.getElem?_drop] at hj
  obtain ⟨b1, o1, hb1, hlt, he⟩ := hat (m + j) x hj
  simp only [Option.some.injEq, Addr.mk.injEq, and_true] at hb1
  obtain ⟨rfl, rfl⟩ := hb1
  exact ⟨b, off + m, rfl, hlt, by rw [show off + m + j * 1 = off + (m + j) * 1 by omega]; exact he⟩

set_option maxRecDepth 100000 in
theorem sha_Sum_no (v : Value) (l : List UInt8) (w : World) (hl : RB w v l) (h : 2000 < l.length) :
    Calls Tryz.prog 169 #[v] w fun e w' => e = .returned (.tuple #[.string ⟨#[]⟩, .int .i64 1]) ∧ Below w.heap.size w w' := by
  go_enter Tryz.func169, Tryz.ntmps169
  go_wp2_with fail
  refine (sha_Pad_no _ _ _ hl h).mono ?_
  rintro e w1 ⟨rfl, rfl⟩
  go_wp2_with fail
  go_ret2
  exact ⟨rfl, Below.refl _ _⟩
set_option maxRecDepth 100000 in
theorem ref_ShaSum_no (v : Value) (l : List UInt8) (w : World) (hl : RB w v l) (h : 2000 < l.length) :
    Calls Tryz.prog 178 #[v] w fun e w' => e = .returned (.tuple #[.string ⟨#[]⟩, .int .i64 1]) ∧ Below w.heap.size w w' := by
  obtain ⟨a, c, rfl, -⟩ := hl
  go_enter Tryz.func178, Tryz.ntmps178
  go_wp2_with fail
  go_ret2
  exact ⟨rfl, Below.refl _ _⟩

set_option maxRecDepth 100000 in
set_option maxHeartbeats 2000000 in
theorem sha_Sum_ok (R ST : List UInt32) (P : List UInt8) (v : Value) (l : List UInt8) (w : World) (hl : RB w v l) (h : l.length ≤ 2000)
    (hP : P = padRes l) (hPl : P.length ≤ 2072) (hP4 : P.length % 4 = 0) (hinv : SumInv R (wordsDec P (P.length / 4)) ST)
    (hst : ∀ w, Calls Tryz.prog 189 #[] w fun e w' => ∃ v, e = .returned v ∧ RW w' v ST ∧ Below w.heap.size w w') :
    Calls Tryz.prog 169 #[v] w fun e w' => e = .returned (.tuple #[.string (bstr (hexOf (bytesW R))), .int .i64 0]) ∧ Below w.heap.size w w' := by
  replace hst := hid hst
  have hpad := fun w (g : RB w v l) => sha_Pad_ok v l w g h
  rw [← hP] at hpad
  replace hpad := hid hpad
  clear hP
  go_enter Tryz.func169, Tryz.ntmps169
  go_wp2_with fail
  ((with_reducible refine (hpad.out _ hl).mono ?_); rintro e w1 ⟨v1, rfl, o1, b1⟩)
  have r1 := reads_u8 o1 (by omega)
  go_wp2_with fail
  ((with_reducible refine (word_Words _ _ _ r1 hPl hP4).mono ?_); rintro e w2 ⟨v2, rfl, o2, b2⟩)
  have hwl := wordsDec_len P (P.length / 4)
  have r2 := reads_u32 o2 (by omega)
  generalize hW : wordsDec P (P.length / 4) = WL at *
  clear hW
  go_wp2_with fail
  ((with_reducible refine (hst.out _).mono ?_); rintro e w3 ⟨v3, rfl, r3, b3⟩)
  have b4 := hid (b_call b1 (b_call b2 b3))
  have r2' := hid (r2.mono EU32.stable b3)
  replace r3 := hid r3
  replace hinv := hid hinv
  have hwl2 : WL.length ≤ 518 := by omega
  clear o1 o2 r1 r2 b1 b2 b3 hwl hpad hst
  obtain ⟨aw, cw, rfl, hlw, hcw, -, -, -⟩ := id r2'.out
  unfold maxLen at hcw
  go_wp2_with fail
  go_loopw [8, 9] (fun vh i wr => ∃ (m : Nat) (hh : List UInt32), i = .int .i64 (m : Int) ∧ m ≤ WL.length ∧ Hid (SumInv R (WL.drop m) hh) ∧ Hid (RW wr vh hh) ∧ Hid (RW wr (.slice aw WL.length cw) WL) ∧ Hid (Below w.heap.size w wr)) (fun _ i _ => WL.length - (intOf i).toNat)
  case atStart => exact ⟨0, ST, rfl, by omega, hinv, r3, r2', b4⟩
  case round =>
    clear hinv r3 r2' b4
    obtain ⟨m, hh, rfl, hm, hinv, rh, rwl, hb⟩ := hrel
    by_cases hlt : m < WL.length
    · obtain ⟨hnx, h16, ht16, h8, hso⟩ := sum_next hinv.out (by rw [List.length_drop]; omega)
      rw [List.length_drop] at h16
      obtain ⟨bw, ow, c', hv, hbl, hl', hc', -⟩ := RW.block rwl.out (by omega)
      simp only [Value.slice.injEq] at hv
      obtain ⟨rfl, -, rfl⟩ := hv
      have hcut := hid (rw_cut rwl.out m 16 16 (cw - m) (by omega) rfl (by omega) (by unfold maxLen; omega))
      have hne : ¬ cw = m := by omega
      have hd : Hid ((WL.drop m).drop 16 = WL.drop (m + 16)) := hid (by rw [List.drop_drop])
      rw [hd.out] at hnx
      replace hnx := hid hnx
      obtain ⟨ah, chh, rfl, -⟩ := id rh.out
      have hm16 : m + 16 ≤ WL.length := by omega
      have hmc : m + 16 ≤ cw := by omega
      clear h16 ht16 h8 hso hd hinv
      go_wp2_with fail
      generalize hB16 : (WL.drop m).take 16 = B16 at *
      ((with_reducible refine (sha_Step _ _ hh B16 _ rh.out hcut.out).mono ?_); rintro e w4 ⟨v4, rfl, r4, b4⟩)
      have rwl4 := hid (rwl.out.mono EU32.stable b4)
      have hb4 := hid (b_call hb.out b4)
      replace r4 := hid r4
      generalize stepErr hh B16 = se at *
      generalize stepOut hh B16 = nh at *
      clear hB16 hcut b4 rh rwl hb
      obtain ⟨a4, c4, rfl, -⟩ := id r4.out
      go_wp2_with fail
      go_roundw
      case rel => exact ⟨m + 16, nh, by go_num, by omega, hnx, r4, rwl4, hb4⟩
      case measure => simp [intOf]; omega
    · obtain rfl : m = WL.length := by omega
      have hR : R = hh := sum_end hinv.out (by rw [List.length_drop]; omega)
      have h8 : hh.length = 8 := sum_hlen hinv.out
      subst hR
      have rh2 := rh.out
      obtain ⟨ah, chh, rfl, -⟩ := id rh2
      have hbl := bytesW_len R
      clear hinv rwl hlt
      replace rh := hid rh2
      replace h8 := hid h8
      replace hbl := hid hbl
      clear rh2
      go_wp2_with fail
      ((with_reducible refine (word_Bytes _ _ _ rh.out (by have := h8.out; omega)).mono ?_); rintro e w5 ⟨v5, rfl, o5, b5⟩)
      have r5 := reads_u8 o5 (by have := h8.out; have := hbl.out; omega)
      have hb5 := hid (b_call hb.out b5)
      clear o5
      go_wp2_with fail
      ((with_reducible refine (hex_Text _ _ _ r5 (by have := h8.out; have := hbl.out; omega)).mono ?_); rintro e w6 ⟨rfl, b6⟩)
      go_wp2_with fail
      go_ret2
      exact ⟨rfl, b_call hb5.out b6⟩

theorem sha_Sum (v : Value) (l : List UInt8) (w : World) (hl : RB w v l) :
    Calls Tryz.prog 169 #[v] w fun e w' => e = .returned (.tuple #[.string (sumStr l), .int .i64 (padErr l)]) ∧ Below w.heap.size w w' := by
  by_cases h : 2000 < l.length
  · rw [sumStr, padErr, if_pos h, if_pos h]
    exact sha_Sum_no v l w hl h
  · rw [sumStr, padErr, if_neg h, if_neg h]
    have hs := padOut_short (l := l) (by omega)
    rw [hs.2.2] at hs
    exact sha_Sum_ok (hashW l) startW (padRes l) v l w hl (by omega) rfl hs.1 (by omega) (hash_inv l) sha_Start

set_option maxRecDepth 100000 in
set_option maxHeartbeats 1000000 in
theorem ref_rounds (w : World) : Calls Tryz.prog 195 #[] w fun e w' => ∃ v, e = .returned v ∧ RW w' v roundW ∧ Below w.heap.size w w' := by
  go_enter Tryz.func195, Tryz.ntmps195
  go_wp2_with fail
  go_ret
  exact ⟨_, rfl, lit32 _ _ _ _ _ _ rfl rfl rfl (by decide), b_alloc (Below.refl _ _) _⟩

set_option maxRecDepth 100000 in
set_option maxHeartbeats 2000000 in
theorem ref_ShaSum_ok (R ST KL : List UInt32) (P : List UInt8) (v : Value) (l : List UInt8) (w : World) (hl : RB w v l) (h : l.length ≤ 2000)
    (hP : P = padRes l) (hPl : P.length ≤ 2072) (hP4 : P.length % 4 = 0) (hinv : SumInv R (wordsDec P (P.length / 4)) ST) (hST : ST = startW)
    (hrd : ∀ w, Calls Tryz.prog 195 #[] w fun e w' => ∃ v, e = .returned v ∧ RW w' v KL ∧ Below w.heap.size w w')
    (hcm : ∀ (v1 v2 v3 : Value) (hh b : List UInt32) w, RW w v1 hh → RW w v2 b → RW w v3 KL → hh.length = 8 → b.length = 16 → Calls Tryz.prog 196 #[v1, v2, v3] w fun e w' => ∃ v', e = .returned v' ∧ RW w' v' (stepOut hh b) ∧ Below w.heap.size w w') :
    Calls Tryz.prog 178 #[v] w fun e w' => e = .returned (.tuple #[.string (bstr (hexOf (bytesW R))), .int .i64 0]) ∧ Below w.heap.size w w' := by
  replace hrd := hid hrd
  replace hcm := hid hcm
  have hpad := fun w (g : RB w v l) => ref_ShaPad_ok v l w g h
  rw [← hP] at hpad
  replace hpad := hid hpad
  have hlit := fun (W : World) => lit32 W 161 #[.int .u32 1779033703, .int .u32 3144134277, .int .u32 1013904242, .int .u32 2773480762, .int .u32 1359893119, .int .u32 2600822924, .int .u32 528734635, .int .u32 1541459225] ST W.heap.size 8 rfl (by rw [hST]; rfl) (by rw [hST]; rfl) (by rw [hST]; decide)
  replace hlit := hid hlit
  clear hP hST
  obtain ⟨av, cv, rfl, -⟩ := id hl
  go_enter Tryz.func178, Tryz.ntmps178
  go_wp2_with fail
  ((with_reducible refine (hpad.out _ hl).mono ?_); rintro e w1 ⟨v1, rfl, o1, b1⟩)
  have r1 := reads_u8 o1 (by omega)
  go_wp2_with fail
  ((with_reducible refine (ref_WordsOf _ _ _ r1 hPl hP4).mono ?_); rintro e w2 ⟨v2, rfl, o2, b2⟩)
  have hwl := wordsDec_len P (P.length / 4)
  have r2 := reads_u32 o2 (by omega)
  generalize hW : wordsDec P (P.length / 4) = WL at *
  clear hW
  have hwl2 : WL.length ≤ 518 := by omega
  replace hinv := hid hinv
  clear o1 o2 r1 hwl hpad
  have r3 := hlit.out w2
  have b3 : Below w2.heap.size w2 (w2.alloc (.cells #[.int .u32 1779033703, .int .u32 3144134277, .int .u32 1013904242, .int .u32 2773480762, .int .u32 1359893119, .int .u32 2600822924, .int .u32 528734635, .int .u32 1541459225] 161)) := b_alloc (Below.refl _ _) _
  go_wp2_with fail
  ((with_reducible refine (hrd.out _).mono ?_); rintro e w4 ⟨v4, rfl, r4, b4⟩)
  have bb := hid (b_call b1 (b_call b2 (b_call b3 b4)))
  have r2' := hid (r2.mono EU32.stable (b_call b3 b4))
  have r3' := hid (r3.mono EU32.stable b4)
  replace r4 := hid r4
  clear r2 r3 b1 b2 b3 b4 hlit hrd
  obtain ⟨aw, cw, rfl, -⟩ := id r2'.out
  go_wp2_with fail
  go_loopw [6, 8] (fun vw vh wr => ∃ (ws hh : List UInt32), ws.length ≤ 518 ∧ Hid (SumInv R ws hh) ∧ Hid (RW wr vh hh) ∧ Hid (RW wr vw ws) ∧ Hid (RW wr v4 KL) ∧ Hid (Below w.heap.size w wr)) (fun vw _ _ => lenOf vw)
  case atStart => exact ⟨WL, ST, hwl2, hinv, r3', r2', r4, bb⟩
  case round =>
    clear hinv r3' r2' r4 bb
    obtain ⟨ws, hh, hws, hinv, rh, rwl, rk, hb⟩ := hrel
    by_cases hlt : 0 < ws.length
    · obtain ⟨hnx, h16, ht16, h8, hso⟩ := sum_next hinv.out hlt
      obtain ⟨bw, ow, c', rfl, hbl, hl', hc', -⟩ := RW.block rwl.out (by omega)
      have hup := hid (RS.upto rwl.out 16 (by omega))
      have hfr := RS.from rwl.out 16 (by omega)
      have hdl : (ws.drop 16).length = ws.length - 16 := List.length_drop
      obtain ⟨ah, chh, rfl, -⟩ := id rh.out
      generalize hB16 : ws.take 16 = B16 at *
      generalize hD16 : ws.drop 16 = D16 at *
      clear hB16 hD16
      unfold maxLen at hc'
      have hc16 : 16 ≤ c' := by omega
      replace hnx := hid hnx
      replace hfr := hid hfr
      replace hdl := hid hdl
      replace h8 := hid h8
      replace ht16 := hid ht16
      clear hso hinv
      go_wp2_with fail
      ((with_reducible refine (hcm.out _ _ _ hh B16 _ rh.out hup.out rk.out h8.out ht16.out).mono ?_); rintro e w5 ⟨v5, rfl, r5, b5⟩)
      have rk5 := hid (rk.out.mono EU32.stable b5)
      have hb5 := hid (b_call hb.out b5)
      have hfr5 := hid (hfr.out.mono EU32.stable b5)
      replace r5 := hid r5
      generalize stepOut hh B16 = nh at *
      clear hup b5 rh rwl hb rk hfr
      by_cases hc : c' = 16
      · rw [if_pos hc] at hfr5
        subst hc
        rw [show ws.length - 16 = 0 by omega, Nat.sub_self] at hfr5
        go_wp2_with fail
        go_roundw
        case rel => exact ⟨D16, nh, by have := hdl.out; omega, hnx, r5, hfr5, rk5, hb5⟩
        case measure => simp [lenOf]; omega
      · rw [if_neg hc] at hfr5
        go_wp2_with fail
        go_roundw
        case rel => exact ⟨D16, nh, by have := hdl.out; omega, hnx, r5, hfr5, rk5, hb5⟩
        case measure => simp [lenOf]; omega
    · have hR : R = hh := sum_end hinv.out (by omega)
      have h8 : hh.length = 8 := sum_hlen hinv.out
      subst hR
      have rh2 := rh.out
      obtain ⟨ah, chh, rfl, -⟩ := id rh2
      obtain ⟨aw2, cw2, rfl, -⟩ := id rwl.out
      have h0 : ws.length = 0 := by omega
      have hbl := bytesW_len R
      clear hinv rwl hlt
      replace rh := hid rh2
      replace h8 := hid h8
      replace hbl := hid hbl
      clear rh2
      go_wp2_with fail
      ((with_reducible refine (ref_WordBytes _ _ _ rh.out (by have := h8.out; omega)).mono ?_); rintro e w5 ⟨v5, rfl, o5, b5⟩)
      have r5 := reads_u8 o5 (by have := h8.out; have := hbl.out; omega)
      have hb5 := hid (b_call hb.out b5)
      clear o5
      go_wp2_with fail
      ((with_reducible refine (ref_HexText _ _ _ r5 (by have := h8.out; have := hbl.out; omega)).mono ?_); rintro e w6 ⟨rfl, b6⟩)
      go_wp2_with fail
      go_ret2
      exact ⟨rfl, b_call hb5.out b6⟩

theorem ref_ShaSum (v : Value) (l : List UInt8) (w : World) (hl : RB w v l) :
    Calls Tryz.prog 178 #[v] w fun e w' => e = .returned (.tuple #[.string (sumStr l), .int .i64 (padErr l)]) ∧ Below w.heap.size w w' := by
  by_cases h : 2000 < l.length
  · rw [sumStr, padErr, if_pos h, if_pos h]
    exact ref_ShaSum_no v l w hl h
  · rw [sumStr, padErr, if_neg h, if_neg h]
    have hs := padOut_short (l := l) (by omega)
    rw [hs.2.2] at hs
    refine ref_ShaSum_ok (hashW l) startW roundW (padRes l) v l w hl (by omega) rfl hs.1 (by omega) (hash_inv l) rfl ref_rounds ?_
    intro v1 v2 v3 hh b w g1 g2 g3 g4 g5
    rw [stepOut, if_pos ⟨g4, g5⟩]
    exact ref_compressed v1 v2 v3 hh b w g1 g2 g3 g4 g5

end Go.Proofs.YtojebioolflbkaaGreat
