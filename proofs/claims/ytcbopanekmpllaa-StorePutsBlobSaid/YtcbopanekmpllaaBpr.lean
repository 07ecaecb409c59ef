/-
  The reference's BlobsPut: what it answers. Printed by gen_bpr.py.
-/
import Derived.Test.YtcbopanekmpllaaBpL
import Derived.OwnWalk
namespace Go.Proofs.Ytcbopanekmpllaa
open Go.RowKit

set_option maxRecDepth 100000 in
set_option maxHeartbeats 1000000 in
theorem ref_BlobsPut' (v u : Value) (l : List Blob) (data : List UInt8) (d : ByteArray) (se : Int) (w : World) (h : RBl w v l) (g : RB w u data) (hds : d.size ≤ 140737488351232) (z : Int)
    (hch : ∀ w, RBl w v l → Calls Try.prog 105 #[v] w fun e w' => e = .returned (.int .i64 z) ∧ Below w.heap.size w w')
    (hsum : ∀ w, RB w u data → Calls Try.prog 106 #[u] w fun e w' => e = .returned (.tuple #[.string d, .int .i64 se]) ∧ Below w.heap.size w w')
    (hris : z = 0 → Rising (fun x : Blob => x.digest) l ∧ l.length ≤ 24) :
    Calls Try.prog 25 #[v, u] w (BlRes (bputE z d data l) d (bputL d data l) w) := by
  obtain ⟨i0, ii0, hz0, hz1, hz2⟩ := info_parts info_B
  obtain ⟨j0, hj, jz0, jz1, jz2⟩ := info_parts info_u8
  replace hch := hid hch
  replace hsum := hid hsum
  have hR := hid h
  have hD := hid g
  have hfit := hid (fit_B h)
  obtain ⟨a, c, rfl, hlc, hcm, hre, hno, hat⟩ := h
  obtain ⟨da, dc, rfl, -, -, hrd, -, -⟩ := g
  unfold maxLen at hcm
  replace hat := hid hat
  clear hno
  by_cases hz : z = 0
  · subst hz
    obtain ⟨hri, h24⟩ := hris rfl
    by_cases hlg : 300 < data.length
    · have hd := hid (bputE_long (d := d) (l := l) hlg)
      have q : decide (300 < (data.length : Int)) = true := by simp; omega
      clear hris hri hat
      go_enter Try.func25, Try.ntmps25
      go_wp2_with fail
      ((with_reducible refine (hch.out _ hR.out).mono ?_); rintro e1 w1 ⟨rfl, b1⟩)
      have hb1 := hid (b_call (Below.refl w.heap.size w) b1)
      have r_R_1 := hid (hR.out.mono EBlob.stable (b_call (Below.refl w.heap.size w) b1))
      have r_D_1 := hid (hD.out.mono EU8.stable (b_call (Below.refl w.heap.size w) b1))
      clear b1
      go_wp2_with fail
      go_ret3
      exact bl_no hd.out (by decide) hb1.out
    · have q : decide (300 < (data.length : Int)) = false := by simp; omega
      have hAt := hid (fun w (g : RBl w (.slice a l.length c) l) => ref_BlobAt (.slice a l.length c) l d w g)
      rw [atKey_rising hri] at hAt
      have e1 := hid (fun h => bputE_has (d := d) (l := l) hlg h)
      have e2 := hid (fun h h2 => bputE_full (d := d) (l := l) hlg h h2)
      have e3 := hid (fun h h2 => bputE_new (d := d) (l := l) hlg h h2)
      have l1 := hid (fun h => bputL_has (d := d) (data := data) (l := l) h)
      have l2 := hid (fun h => bputL_new (d := d) (data := data) (l := l) h)
      have hle := lowAt_le (fun x : Blob => x.digest) d l
      have hbef := hid (fun j x (h : j < lowAt (fun x : Blob => x.digest) d l) (hx : l[j]? = some x) => lowAt_before h hx)
      have hher := hid (fun x (hx : l[lowAt (fun x : Blob => x.digest) d l]? = some x) => lowAt_at hx)
      have hsome := hid (fun h : hasKey (fun x : Blob => x.digest) d l = true => hasKey_at h)
      generalize bputE 0 d data l = err at *
      generalize bputL d data l = L at *
      generalize lowAt (fun x : Blob => x.digest) d l = i at *
      generalize hasKey (fun x : Blob => x.digest) d l = fin at *
      clear hris hri
      cases fin with
      | true =>
        have hd := hid (e1.out rfl)
        have hL := hid (l1.out rfl)
        obtain ⟨x, hx, -⟩ := hsome.out rfl
        have hil := (List.getElem?_eq_some_iff.1 hx).1
        have q2 : decide ((i : Int) < (l.length : Int)) = true := by simp; omega
        rw [if_pos rfl] at hAt
        clear e1 e2 e3 l1 l2 hx hsome hbef hher hat
        go_enter Try.func25, Try.ntmps25
        go_wp2_with fail
        ((with_reducible refine (hch.out _ hR.out).mono ?_); rintro e1 w1 ⟨rfl, b1⟩)
        have hb1 := hid (b_call (Below.refl w.heap.size w) b1)
        have r_R_1 := hid (hR.out.mono EBlob.stable (b_call (Below.refl w.heap.size w) b1))
        have r_D_1 := hid (hD.out.mono EU8.stable (b_call (Below.refl w.heap.size w) b1))
        clear b1
        go_wp2_with fail
        ((with_reducible refine (hsum.out _ r_D_1.out).mono ?_); rintro e2 w2 ⟨rfl, b2⟩)
        have hb2 := hid (b_call hb1.out b2)
        have r_R_2 := hid (r_R_1.out.mono EBlob.stable (b_call (Below.refl w1.heap.size w1) b2))
        have r_D_2 := hid (r_D_1.out.mono EU8.stable (b_call (Below.refl w1.heap.size w1) b2))
        clear hb1 r_R_1 r_D_1 b2
        go_wp2_with fail
        ((with_reducible refine (hAt.out _ r_R_2.out).mono ?_); rintro e3 w3 ⟨rfl, hw3⟩)
        subst hw3
        have hb3 := hid hb2.out
        have r_R_3 := hid r_R_2.out
        have r_D_3 := hid r_D_2.out
        clear hb2 r_R_2 r_D_2
        go_wp2_with fail
        ((with_reducible refine (ref_BlobsCopy _ l _ r_R_3.out).mono ?_); rintro e4 w4 ⟨v4, rfl, o4, b4⟩)
        have hb4 := hid (b_call hb3.out b4)
        have r_R_4 := hid (r_R_3.out.mono EBlob.stable (b_call (Below.refl w2.heap.size w2) b4))
        have r4 := hid (show RBl w4 _ L by rw [hL.out]; exact o4.toR hre hfit.out)
        clear hb3 r_R_3 b4
        go_wp2_with fail
        go_ret3
        exact bl_ok hd.out r4.out hb4.out
      | false =>
        rw [if_neg (by decide)] at hAt
        by_cases hfu : 24 ≤ l.length
        · have hd := hid (e2.out rfl hfu)
          have q2 : decide (23 < (l.length : Int)) = true := by simp; omega
          clear e1 e2 e3 l1 l2 hsome hbef hher hat
          go_enter Try.func25, Try.ntmps25
          go_wp2_with fail
          ((with_reducible refine (hch.out _ hR.out).mono ?_); rintro e1 w1 ⟨rfl, b1⟩)
          have hb1 := hid (b_call (Below.refl w.heap.size w) b1)
          have r_R_1 := hid (hR.out.mono EBlob.stable (b_call (Below.refl w.heap.size w) b1))
          have r_D_1 := hid (hD.out.mono EU8.stable (b_call (Below.refl w.heap.size w) b1))
          clear b1
          go_wp2_with fail
          ((with_reducible refine (hsum.out _ r_D_1.out).mono ?_); rintro e2 w2 ⟨rfl, b2⟩)
          have hb2 := hid (b_call hb1.out b2)
          have r_R_2 := hid (r_R_1.out.mono EBlob.stable (b_call (Below.refl w1.heap.size w1) b2))
          have r_D_2 := hid (r_D_1.out.mono EU8.stable (b_call (Below.refl w1.heap.size w1) b2))
          clear hb1 r_R_1 r_D_1 b2
          go_wp2_with fail
          ((with_reducible refine (hAt.out _ r_R_2.out).mono ?_); rintro e3 w3 ⟨rfl, hw3⟩)
          subst hw3
          have hb3 := hid hb2.out
          have r_R_3 := hid r_R_2.out
          have r_D_3 := hid r_D_2.out
          clear hb2 r_R_2 r_D_2
          go_wp2_with fail
          go_ret3
          exact bl_no hd.out (by decide) hb3.out
        · have hd := hid (e3.out rfl (by omega))
          have hL := hid (l2.out rfl)
          have q2 : decide (23 < (l.length : Int)) = false := by simp; omega
          clear e1 e2 e3 l1 l2 hsome
          go_enter Try.func25, Try.ntmps25
          go_wp2_with fail
          ((with_reducible refine (hch.out _ hR.out).mono ?_); rintro e1 w1 ⟨rfl, b1⟩)
          have hb1 := hid (b_call (Below.refl w.heap.size w) b1)
          have r_R_1 := hid (hR.out.mono EBlob.stable (b_call (Below.refl w.heap.size w) b1))
          have r_D_1 := hid (hD.out.mono EU8.stable (b_call (Below.refl w.heap.size w) b1))
          clear b1
          go_wp2_with fail
          ((with_reducible refine (hsum.out _ r_D_1.out).mono ?_); rintro e2 w2 ⟨rfl, b2⟩)
          have hb2 := hid (b_call hb1.out b2)
          have r_R_2 := hid (r_R_1.out.mono EBlob.stable (b_call (Below.refl w1.heap.size w1) b2))
          have r_D_2 := hid (r_D_1.out.mono EU8.stable (b_call (Below.refl w1.heap.size w1) b2))
          clear hb1 r_R_1 r_D_1 b2
          go_wp2_with fail
          ((with_reducible refine (hAt.out _ r_R_2.out).mono ?_); rintro e3 w3 ⟨rfl, hw3⟩)
          subst hw3
          have hb3 := hid hb2.out
          have r_R_3 := hid r_R_2.out
          have r_D_3 := hid r_D_2.out
          clear hb2 r_R_2 r_D_2
          go_wp2_with fail
          go_loopw [10] (fun kk wr => ∃ k : Nat, k ≤ i ∧ kk = .int .i64 k ∧ wr = w2) (fun kk _ => i - (intOf kk).toNat)
          case atStart => exact ⟨0, by omega, rfl, rfl⟩
          case round =>
            obtain ⟨k, hk, rfl, rfl⟩ := hrel
            by_cases hlt : k < i
            · have hx : l[k]? = some l[k] := List.getElem?_eq_getElem (by omega)
              generalize l[k] = x at hx
              obtain ⟨bb, off, rfl, hbb, he⟩ := hat.out k _ hx
              obtain ⟨dv, c0, c1, c2, c3, -, -⟩ := EBlob.stable _ _ _ _ _ hb3.out hbb he
              have qs : Op.bytesLess x.digest.toList d.toList = true := hbef.out k x hlt hx
              have hkl : k < l.length := by omega
              clear hx he
              go_wp2_with fail
              go_roundw
              case rel => exact ⟨k + 1, by omega, by go_num, trivial⟩
              case measure => simp [intOf]; omega
            · obtain rfl : k = i := by omega
              have hup := hid (RS.upto r_R_3.out k hle)
              have hfr := RS.from r_R_3.out k hle
              obtain ⟨A, hA⟩ : ∃ A, (if c = k then a else a.map (·.add (k * 4))) = A := ⟨_, rfl⟩
              rw [hA] at hfr
              replace hfr := hid hfr
              have g0 : (0 : Int) ≤ (k : Int) := by omega
              have g1 : (k : Int) ≤ (l.length : Int) := by omega
              have g2 : k ≤ c := by omega
              by_cases hkl : k < l.length
              · have hx : l[k]? = some l[k] := List.getElem?_eq_getElem hkl
                generalize l[k] = x at hx
                obtain ⟨bb, off, rfl, hbb, he⟩ := hat.out k _ hx
                obtain ⟨dv, c0, c1, c2, c3, -, -⟩ := EBlob.stable _ _ _ _ _ hb3.out hbb he
                have qs : Op.bytesLess x.digest.toList d.toList = false := hher.out x hx
                have hA2 : (if c = k then (some ⟨bb, off, none⟩ : Option Addr) else some ⟨bb, off + k * 4, none⟩) = A := by rw [← hA]; simp [Addr.add_lit]
                obtain rfl : A = some ⟨bb, off + k * 4, none⟩ := by rw [← hA2, if_neg (by omega)]
                clear hx he hA hA2 hbef hher hat
                have hs3 := hb3.out.size
                go_wp2_with fail
                ((with_reducible refine (ref_BlobsCopy (.slice (some ⟨bb, off, none⟩) k c) (l.take k) wr hup.out).mono ?_); rintro e4 w4 ⟨v4, rfl, o4, b4⟩)
                obtain ⟨ra, hra, oa, ca4⟩ := o4
                have hlra : ra.length ≤ k := by have := congrArg List.length hra; simp at this; omega
                have h34 := b4.size
                have hb4 := hid (b_call hb3.out b4)
                have rD4 := hid (r_D_3.out.mono EU8.stable b4)
                have hB4 := b_call (Below.refl wr.heap.size wr) b4
                replace oa := hid oa
                replace ca4 := hid ca4
                clear b4 hup c0 c1 c2 c3
                go_wp2_with (at_builtin; go_must (refine wpL_append flat_u8 (by rfl) (.const (.slice none 0 0)) (.tmp 57) 36 (by rfl) 5 j0 _ Try.underlying36 hj jz0 jz1 jz2 rfl w4.heap.size _ [] (by rfl) OS.nil _ data (by rfl) rD4.out (by simp; omega) (by simp [maxLen]; omega) (Nat.le_refl _) ?_))
                intro v5 w5 o5 hg5
                obtain ⟨ca, cc, rfl, -⟩ := id (OS.len_le o5)
                have hb45 := (Below.refl w4.heap.size w4).grown hg5 (Nat.le_refl _) (fun k hk => by simp [Value.ownBlock] at hk)
                have h45 := hb45.size
                have hb5 := hid (b_call hb4.out hb45)
                have oa5 := hid (OS.below oa.out hb45)
                have ca5 := hid (fun q hq => CO.below hb45 _ _ (ca4.out q hq))
                have hB5 := b_call hB4 hb45
                have hcr := hid (OS.alloc (OS.mono o5 h34) (Obj.cells #[.string d, .slice ca data.length cc, .int .i64 0, .bool false] 127))
                have hown := hid (OS.alloc oa5.out (Obj.cells #[.string d, .slice ca data.length cc, .int .i64 0, .bool false] 127))
                have hcs := hid (fun q hq => OS.alloc (show OS 5 1 cU8 w5 wr.heap.size _ _ from ca5.out q hq) (Obj.cells #[.string d, .slice ca data.length cc, .int .i64 0, .bool false] 127))
                have hrow := hid (row_one (s := 4) (bs := 56) (cells := xc cBlob (·.data)) w5 127 ⟨⟨d, data, 0, false⟩, ca, cc⟩ #[.string d, .slice ca data.length cc, .int .i64 0, .bool false] w5.heap.size rfl rfl (by decide))
                have hba := hid (b_alloc hb5.out (Obj.cells #[.string d, .slice ca data.length cc, .int .i64 0, .bool false] 127))
                have hB6 := hid (b_alloc hB5 (Obj.cells #[.string d, .slice ca data.length cc, .int .i64 0, .bool false] 127))
                have hsz : wr.heap.size ≤ (w5.alloc (Obj.cells #[.string d, .slice ca data.length cc, .int .i64 0, .bool false] 127)).heap.size := by simp; omega
                clear o5 hg5 hb45 hb4 hb5 oa oa5 ca4 ca5 rD4 hB4 hB5
                go_wp2_with (at_builtin; go_must (refine wpL_append flat_cBlob (by rfl) (.tmp 55) (.tmp 60) 43 (by rfl) 127 i0 _ Try.underlying43 ii0 hz0 hz1 hz2 rfl wr.heap.size _ ra (by rfl) hown.out _ [⟨⟨d, data, 0, false⟩, ca, cc⟩] (by rfl) hrow.out (by simp; omega) (by simp [maxLen]; omega) hsz ?_))
                intro v6 w6 hO6 hg6
                have hX6 := OX.grow (e' := 5) hO6 hg6 hown.out (by decide) hcs.out hcr.out
                rw [hra] at hX6
                have hb6 := hid (hba.out.grown hg6 (Nat.le_trans hs3 hsz) (fun k hk => Nat.le_trans hs3 (OS.block hown.out k hk)))
                have h56 := Nat.le_trans hsz hg6.size
                have hr6 := hid (hfr.out.mono EBlob.stable (hB6.out.grown hg6 hsz (fun k hk => OS.block hown.out k hk)))
                obtain ⟨r6, hm6, o6, c6⟩ := hX6
                have hl6 : r6.length ≤ k + 1 := by have := congrArg List.length hm6; simp at this; omega
                obtain ⟨a6, k6, rfl, -⟩ := id (OS.len_le o6)
                replace o6 := hid o6
                replace c6 := hid c6
                clear hO6 hg6 hown hcs hcr hrow hba hsz hB6 hfr hra
                go_wp2_with fail
                ((with_reducible refine (ref_BlobsCopy (.slice (some ⟨bb, off + k * 4, none⟩) (l.length - k) (c - k)) (l.drop k) w6 hr6.out).mono ?_); rintro e7 w7 ⟨v7, rfl, o7, b7⟩)
                obtain ⟨rb, hrb, ob, cb⟩ := o7
                have hlb : rb.length ≤ l.length - k := by have := congrArg List.length hrb; simp at this; omega
                have hb7 := hid (b_call hb6.out b7)
                have h67 := b7.size
                have hob := hid (OS.reads (cells := xc cBlob (·.data)) (bs := 56) (E := ERaw (xc cBlob (·.data))) xcBlob_len (by decide) (fun b o r _ hc j u hj => by
                  have hlt := (List.getElem?_eq_some_iff.1 hj).1
                  rw [hc j (by rw [xcBlob_len] at hlt; exact hlt), hj]) ob (by omega))
                have o67 := hid (OS.below o6.out b7)
                have c67 := hid (fun q hq => CO.below b7 _ _ (c6.out q hq))
                have hs7 : wr.heap.size ≤ w7.heap.size := by omega
                have hcb := hid (fun q hq => (OS.mono (cb q hq) (by omega) : OS 5 1 cU8 w7 wr.heap.size _ _))
                obtain ⟨ab, kb, rfl, -⟩ := id (OS.len_le ob)
                clear b7 hr6 hb6 o6 c6 ob cb
                go_wp2_with (at_builtin; go_must (refine wpL_append flat_cBlob (by rfl) (.tmp 62) (.tmp 66) 43 (by rfl) 127 i0 _ Try.underlying43 ii0 hz0 hz1 hz2 rfl wr.heap.size _ r6 (by rfl) o67.out _ rb (by rfl) hob.out (by omega) (by simp [maxLen]; omega) hs7 ?_))
                intro v8 w8 hO8 hg8
                have hX8 := OX.join (e' := 5) hO8 hg8 o67.out (by decide) c67.out hcb.out
                rw [hm6, hrb] at hX8
                have hb8 := hid (hb7.out.grown hg8 (Nat.le_trans hs3 hs7) (fun k hk => Nat.le_trans hs3 (OS.block o67.out k hk)))
                have rd := hid (show RBl w8 v8 L by
                  rw [hL.out]
                  rw [show l.take k ++ [(⟨d, data, 0, false⟩ : Blob)] ++ l.drop k = l.take k ++ (⟨d, data, 0, false⟩ : Blob) :: l.drop k by simp] at hX8
                  exact OBlob.toR hX8 (by rw [insB_len hle]; omega) (insB_all hfit.out (fit_new hds hrd)))
                clear hO8 hg8 hX8 o67 c67 hcb hob hb7 hm6 hrb
                go_wp2_with fail
                go_ret3
                exact bl_ok hd.out rd.out hb8.out
              · have qk : decide ((k : Int) < (l.length : Int)) = false := by simp; omega
                clear hbef hher hat
                have hs3 := hb3.out.size
                go_wp2_with fail
                ((with_reducible refine (ref_BlobsCopy (.slice a k c) (l.take k) wr hup.out).mono ?_); rintro e4 w4 ⟨v4, rfl, o4, b4⟩)
                obtain ⟨ra, hra, oa, ca4⟩ := o4
                have hlra : ra.length ≤ k := by have := congrArg List.length hra; simp at this; omega
                have h34 := b4.size
                have hb4 := hid (b_call hb3.out b4)
                have rD4 := hid (r_D_3.out.mono EU8.stable b4)
                have hB4 := b_call (Below.refl wr.heap.size wr) b4
                replace oa := hid oa
                replace ca4 := hid ca4
                clear b4 hup 
                go_wp2_with (at_builtin; go_must (refine wpL_append flat_u8 (by rfl) (.const (.slice none 0 0)) (.tmp 57) 36 (by rfl) 5 j0 _ Try.underlying36 hj jz0 jz1 jz2 rfl w4.heap.size _ [] (by rfl) OS.nil _ data (by rfl) rD4.out (by simp; omega) (by simp [maxLen]; omega) (Nat.le_refl _) ?_))
                intro v5 w5 o5 hg5
                obtain ⟨ca, cc, rfl, -⟩ := id (OS.len_le o5)
                have hb45 := (Below.refl w4.heap.size w4).grown hg5 (Nat.le_refl _) (fun k hk => by simp [Value.ownBlock] at hk)
                have h45 := hb45.size
                have hb5 := hid (b_call hb4.out hb45)
                have oa5 := hid (OS.below oa.out hb45)
                have ca5 := hid (fun q hq => CO.below hb45 _ _ (ca4.out q hq))
                have hB5 := b_call hB4 hb45
                have hcr := hid (OS.alloc (OS.mono o5 h34) (Obj.cells #[.string d, .slice ca data.length cc, .int .i64 0, .bool false] 127))
                have hown := hid (OS.alloc oa5.out (Obj.cells #[.string d, .slice ca data.length cc, .int .i64 0, .bool false] 127))
                have hcs := hid (fun q hq => OS.alloc (show OS 5 1 cU8 w5 wr.heap.size _ _ from ca5.out q hq) (Obj.cells #[.string d, .slice ca data.length cc, .int .i64 0, .bool false] 127))
                have hrow := hid (row_one (s := 4) (bs := 56) (cells := xc cBlob (·.data)) w5 127 ⟨⟨d, data, 0, false⟩, ca, cc⟩ #[.string d, .slice ca data.length cc, .int .i64 0, .bool false] w5.heap.size rfl rfl (by decide))
                have hba := hid (b_alloc hb5.out (Obj.cells #[.string d, .slice ca data.length cc, .int .i64 0, .bool false] 127))
                have hB6 := hid (b_alloc hB5 (Obj.cells #[.string d, .slice ca data.length cc, .int .i64 0, .bool false] 127))
                have hsz : wr.heap.size ≤ (w5.alloc (Obj.cells #[.string d, .slice ca data.length cc, .int .i64 0, .bool false] 127)).heap.size := by simp; omega
                clear o5 hg5 hb45 hb4 hb5 oa oa5 ca4 ca5 rD4 hB4 hB5
                go_wp2_with (at_builtin; go_must (refine wpL_append flat_cBlob (by rfl) (.tmp 55) (.tmp 60) 43 (by rfl) 127 i0 _ Try.underlying43 ii0 hz0 hz1 hz2 rfl wr.heap.size _ ra (by rfl) hown.out _ [⟨⟨d, data, 0, false⟩, ca, cc⟩] (by rfl) hrow.out (by simp; omega) (by simp [maxLen]; omega) hsz ?_))
                intro v6 w6 hO6 hg6
                have hX6 := OX.grow (e' := 5) hO6 hg6 hown.out (by decide) hcs.out hcr.out
                rw [hra] at hX6
                have hb6 := hid (hba.out.grown hg6 (Nat.le_trans hs3 hsz) (fun k hk => Nat.le_trans hs3 (OS.block hown.out k hk)))
                have h56 := Nat.le_trans hsz hg6.size
                have hr6 := hid (hfr.out.mono EBlob.stable (hB6.out.grown hg6 hsz (fun k hk => OS.block hown.out k hk)))
                obtain ⟨r6, hm6, o6, c6⟩ := hX6
                have hl6 : r6.length ≤ k + 1 := by have := congrArg List.length hm6; simp at this; omega
                obtain ⟨a6, k6, rfl, -⟩ := id (OS.len_le o6)
                replace o6 := hid o6
                replace c6 := hid c6
                clear hO6 hg6 hown hcs hcr hrow hba hsz hB6 hfr hra
                go_wp2_with fail
                ((with_reducible refine (ref_BlobsCopy (.slice A (l.length - k) (c - k)) (l.drop k) w6 hr6.out).mono ?_); rintro e7 w7 ⟨v7, rfl, o7, b7⟩)
                obtain ⟨rb, hrb, ob, cb⟩ := o7
                have hlb : rb.length ≤ l.length - k := by have := congrArg List.length hrb; simp at this; omega
                have hb7 := hid (b_call hb6.out b7)
                have h67 := b7.size
                have hob := hid (OS.reads (cells := xc cBlob (·.data)) (bs := 56) (E := ERaw (xc cBlob (·.data))) xcBlob_len (by decide) (fun b o r _ hc j u hj => by
                  have hlt := (List.getElem?_eq_some_iff.1 hj).1
                  rw [hc j (by rw [xcBlob_len] at hlt; exact hlt), hj]) ob (by omega))
                have o67 := hid (OS.below o6.out b7)
                have c67 := hid (fun q hq => CO.below b7 _ _ (c6.out q hq))
                have hs7 : wr.heap.size ≤ w7.heap.size := by omega
                have hcb := hid (fun q hq => (OS.mono (cb q hq) (by omega) : OS 5 1 cU8 w7 wr.heap.size _ _))
                obtain ⟨ab, kb, rfl, -⟩ := id (OS.len_le ob)
                clear b7 hr6 hb6 o6 c6 ob cb
                go_wp2_with (at_builtin; go_must (refine wpL_append flat_cBlob (by rfl) (.tmp 62) (.tmp 66) 43 (by rfl) 127 i0 _ Try.underlying43 ii0 hz0 hz1 hz2 rfl wr.heap.size _ r6 (by rfl) o67.out _ rb (by rfl) hob.out (by omega) (by simp [maxLen]; omega) hs7 ?_))
                intro v8 w8 hO8 hg8
                have hX8 := OX.join (e' := 5) hO8 hg8 o67.out (by decide) c67.out hcb.out
                rw [hm6, hrb] at hX8
                have hb8 := hid (hb7.out.grown hg8 (Nat.le_trans hs3 hs7) (fun k hk => Nat.le_trans hs3 (OS.block o67.out k hk)))
                have rd := hid (show RBl w8 v8 L by
                  rw [hL.out]
                  rw [show l.take k ++ [(⟨d, data, 0, false⟩ : Blob)] ++ l.drop k = l.take k ++ (⟨d, data, 0, false⟩ : Blob) :: l.drop k by simp] at hX8
                  exact OBlob.toR hX8 (by rw [insB_len hle]; omega) (insB_all hfit.out (fit_new hds hrd)))
                clear hO8 hg8 hX8 o67 c67 hcb hob hb7 hm6 hrb
                go_wp2_with fail
                go_ret3
                exact bl_ok hd.out rd.out hb8.out
  · have ht : (z != 0) = true := by simp [hz]
    have hd := hid (bputE_bad (d := d) (data := data) (l := l) hz)
    replace hz := hid hz
    clear hris hat
    go_enter Try.func25, Try.ntmps25
    go_wp2_with fail
    ((with_reducible refine (hch.out _ hR.out).mono ?_); rintro e1 w1 ⟨rfl, b1⟩)
    have hb1 := hid (b_call (Below.refl w.heap.size w) b1)
    have r_R_1 := hid (hR.out.mono EBlob.stable (b_call (Below.refl w.heap.size w) b1))
    have r_D_1 := hid (hD.out.mono EU8.stable (b_call (Below.refl w.heap.size w) b1))
    clear b1
    go_wp2_with fail
    go_ret3
    exact bl_no hd.out hz.out hb1.out
end Go.Proofs.Ytcbopanekmpllaa
