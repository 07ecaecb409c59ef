import Derived.Test.YtpkpgehiplhkpaaGreatTzPbx
namespace Go.Proofs.YtpkpgehiplhkpaaGreat
open Go.RowKit
theorem qzspx_4 {P : Prop} (h : P := by omega) : P := h
theorem qzspx_3 {P : Prop} (h : P := by decide) : P := h
theorem qzspx_2 {P : Prop} (h : P := by simp [results, Tryz.results252, go_sem, m0, m1, m2, m3]; try rfl) : P := h
theorem qzspx_1 {P : Prop} (h : P := by
 have hp9 := box4_same (u0 := .slice none 0 0) (u1 := .slice none 0 0) (u2 := .int .i64 0) (u3 := .int .i64 0) hp5.out
 have hb9 := b_box4 hb5.out (q := w.heap.size + 1) (Nat.le_succ _) (.slice none 0 0) (.slice none 0 0) (.int .i64 0) (.int .i64 0)
 obtain ⟨m0, m1, m2, m3⟩ := box4f hp9
 unfold World.box4 at m0 m1 m2 m3 hb9
 (try simp only [Exit.inBlock, Exit.then])
 refine bodyPost_ret qzspx_2 rfl ?_
 exact st_no hd.out hz.out hb9) : P := h
set_option maxRecDepth 100000 in
set_option maxHeartbeats 400000 in
theorem put1_E (x : Entry) (a : Option Addr) (n c : Nat) (s : ByteArray) (w : World) :
 Calls Tryz.prog 304 #[.agg #[.string x.key, .slice a n c, .int .i64 x.pins, .int .i64 x.stamp], .string s] w fun e w' => e = .returned (.int .i64 (cmpB x.key s)) ∧ Below w.heap.size w w' := by
 have h := fun W => Tryz.strings_Compare x.key s W
 rw [cmpB_eq] at h
 replace h := hid h
 go_enter Tryz.func304, Tryz.ntmps304
 go_wp2_with fail
 ((with_reducible refine (h.out _).mono ?_); rintro e w1 ⟨rfl, rfl⟩)
 go_wp2_with fail
 go_ret
 exact ⟨rfl, b_alloc (Below.refl _ _) _⟩
set_option maxRecDepth 100000 in
set_option maxHeartbeats 1000000 in
theorem bin_E (v : Value) (l : List Entry) (s : ByteArray) (w : World) (h : RE w v l) (hr : Rising (fun x : Entry => x.key) l) :
 Calls Tryz.prog 303 #[v, .string s, .func (.func 304) #[] #[]] w fun e w' =>
  e = .returned (.tuple #[.int .i64 (lowAt (fun x : Entry => x.key) s l : Nat), .bool (hasKey (fun x : Entry => x.key) s l)]) ∧ Below w.heap.size w w' := by
 obtain ⟨a, c, rfl, hlc, hcm, hre, hno, hat⟩ := h
 unfold maxLen at hcm
 replace hat := hid hat
 have eg := enters_of Tryz.func304 (by kernel_rfl) rfl
 have hput := hid (fun x a n c W => put1_E x a n c s W)
 have honly := hid (fun i (hi : i ≤ l.length) h1 h2 => lowAt_only (key := fun x : Entry => x.key) (s := s) hi h1 h2)
 have hhas := hid (fun x (hx : l[lowAt (fun x : Entry => x.key) s l]? = some x) => hasKey_some hx)
 have hnot := hid (fun (hx : l[lowAt (fun x : Entry => x.key) s l]? = none) => hasKey_none hx)
 replace hr := hid hr
 generalize lowAt (fun x : Entry => x.key) s l = cnt at *
 generalize hasKey (fun x : Entry => x.key) s l = fin at *
 clear hno
 go_enter Tryz.func303, Tryz.ntmps303
 go_wp2_with fail
 go_loopg [9, 10] l.length (fun kx s9 s10 wr => ∃ lo hi : Nat, s9 = .int .i64 lo ∧ s10 = .int .i64 hi ∧ lo ≤ hi ∧ hi ≤ l.length ∧ hi - lo ≤ kx ∧ Hid (Below w.heap.size w wr) ∧
  Hid ((∀ j x, j < lo → l[j]? = some x → slt x.key s = true) ∧ (∀ j x, hi ≤ j → l[j]? = some x → slt x.key s = false)))
 case atStart => exact ⟨0, l.length, rfl, rfl, Nat.zero_le _, Nat.le_refl _, by omega, hid (Below.refl _ _), hid ⟨fun j x hj => absurd hj (Nat.not_lt_zero _), fun j x h1 h2 => by rw [List.getElem?_eq_none h1] at h2; cases h2⟩⟩
 obtain ⟨lo, hi, rfl, rfl, hlh, hin, hg, hb, I⟩ := hrel
 by_cases hlt : lo < hi
 · have hm : (lo + hi) / 2 < l.length := by omega
   have hx : l[(lo + hi) / 2]? = some l[(lo + hi) / 2] := List.getElem?_eq_getElem hm
   generalize l[(lo + hi) / 2] = x at hx
   obtain ⟨bb, off, rfl, hbb, he⟩ := hat.out _ x hx
   obtain ⟨dv, c0, c1, c2, c3, rdv, okx⟩ := EEntry.stable _ _ _ _ _ hb.out hbb he
   obtain ⟨da, dc, rfl, -⟩ := id rdv
   have hcall := hput.out x da x.parts.length dc wr
   have hx' := hid hx
   clear he hx rdv okx
   cases hk : slt x.key s with
   | true =>
     rw [cmpB_lt hk] at hcall
     have I2 := hid (show (∀ j x, j < (lo + hi) / 2 + 1 → l[j]? = some x → slt x.key s = true) ∧ (∀ j x, hi ≤ j → l[j]? = some x → slt x.key s = false) from ⟨fun j y hj hy => rising_low hr.out hx'.out hk qzspx_4 hy, I.out.2⟩)
     replace hcall := hid hcall
     clear hk
     go_wp2_with fail
     ((with_reducible refine hcall.out.mono ?_); rintro e w1 ⟨rfl, b1⟩)
     have hb1 := hid (b_call hb.out b1)
     clear b1
     go_wp2_with fail
     go_roundg (hi - ((lo + hi) / 2 + 1))
     case measure => omega
     case rel => exact ⟨(lo + hi) / 2 + 1, hi, by rw [show ((lo : Int) + (hi : Int)) / 2 + 1 = (((lo + hi) / 2 + 1 : Nat) : Int) by omega], rfl, by omega, hin, Nat.le_refl _, hb1, I2⟩
   | false =>
     have I2 := hid (show (∀ j x, j < lo → l[j]? = some x → slt x.key s = true) ∧ (∀ j x, (lo + hi) / 2 ≤ j → l[j]? = some x → slt x.key s = false) from ⟨I.out.1, fun j y hj hy => rising_high hr.out hx'.out hk hj hy⟩)
     obtain ⟨z, hz, hz0⟩ := cmpB_ge hk
     rw [hz] at hcall
     have q : decide (z < 0) = false := by simp; omega
     replace hcall := hid hcall
     replace hz := hid hz
     clear hk hz0
     go_wp2_with fail
     ((with_reducible refine hcall.out.mono ?_); rintro e w1 ⟨rfl, b1⟩)
     have hb1 := hid (b_call hb.out b1)
     clear b1
     go_wp2_with fail
     go_roundg ((lo + hi) / 2 - lo)
     case measure => omega
     case rel => exact ⟨lo, (lo + hi) / 2, rfl, by rw [show ((lo : Int) + (hi : Int)) / 2 = (((lo + hi) / 2 : Nat) : Int) by omega], by omega, by omega, Nat.le_refl _, hb1, I2⟩
 obtain rfl : hi = lo := by omega
 have ecnt := honly.out hi hin I.out.1 (fun x hx => I.out.2 hi x (Nat.le_refl _) hx)
 subst ecnt
 by_cases hn : cnt < l.length
 · have hx : l[cnt]? = some l[cnt] := List.getElem?_eq_getElem hn
   generalize l[cnt] = x at hx
   obtain ⟨bb, off, rfl, hbb, he⟩ := hat.out _ x hx
   obtain ⟨dv, c0, c1, c2, c3, rdv, okx⟩ := EEntry.stable _ _ _ _ _ hb.out hbb he
   obtain ⟨da, dc, rfl, -⟩ := id rdv
   have hcall := hput.out x da x.parts.length dc wr
   have hfin : Hid (fin = (x.key.toList == s.toList)) := hid (hhas.out x hx)
   clear he hx rdv okx
   have hz := cmpB_zero x.key s
   generalize cmpB x.key s = z at *
   have q : (z == 0) = fin := by rw [hfin.out, hz]
   replace hcall := hid hcall
   replace hz := hid hz
   go_wp2_with fail
   ((with_reducible refine hcall.out.mono ?_); rintro e w1 ⟨rfl, b1⟩)
   have hb1 := hid (b_call hb.out b1)
   clear b1
   go_wp2_with fail
   go_ret2
   exact ⟨rfl, hb1.out⟩
 have hfin : Hid (fin = false) := hid (hnot.out (List.getElem?_eq_none qzspx_4))
 go_wp2_with fail
 go_ret2
 rw [hfin.out]
 exact ⟨rfl, hb.out⟩
def OwnedEntry (l : List Entry) (B : Nat) (w : World) (e : Ending) (w' : World) : Prop := ∃ v', e = .returned v' ∧ OEntry w' B v' l ∧ Below B w w'
set_option maxRecDepth 100000 in
set_option maxHeartbeats 1000000 in
theorem slices_Insert_E (l : List Entry) (i B g : Nat) (x : Entry) (ca : Option Addr) (cc q : Nat) (w : World) (h : OEntry w B (.slice (some ⟨g, 0, none⟩) l.length l.length) l) (hi : i ≤ l.length) (hB : B ≤ w.heap.size)
 (hbs : (l.length + 1) * 56 ≤ 140737488351232) (hrow : RS 4 56 (ERaw (xc cEntry (·.parts))) w (.slice (some ⟨q, 0, none⟩) 1 1) [⟨x, ca, cc⟩]) (hcr : CO 67 3 cPart B w (.slice ca x.parts.length cc) x.parts) :
 Calls Tryz.prog 306 #[.slice (some ⟨g, 0, none⟩) l.length l.length, .int .i64 i, .slice (some ⟨q, 0, none⟩) 1 1] w (OwnedEntry (l.take i ++ x :: l.drop i) B w) := by
 obtain ⟨i0, hi0, hz0, hz1, hz2⟩ := info_parts info_E
 obtain ⟨rs, rfl, hown, hcs⟩ := h
 simp only [List.length_map] at hi hbs hown ⊢
 unfold OwnedEntry
 have hn := (show rs.length ≤ 140737488351232 by omega)
 have hgw := (World.ownsRow.lt hown g (by simp [Value.ownBlock])).2
 have hgB := (World.ownsRow.lt hown g (by simp [Value.ownBlock])).1
 have hown0 := hid hown
 replace hrow := hid hrow
 replace hcs := hid hcs
 replace hcr := hid hcr
 by_cases hin : i = rs.length
 · subst hin
   have hl : (rs.map (·.x)).take rs.length ++ x :: (rs.map (·.x)).drop rs.length = rs.map (·.x) ++ [x] := by
    rw [List.take_of_length_le (by simp), List.drop_eq_nil_of_le (by simp)]
   rw [hl]
   clear hl hown hgw hgB
   go_enter Tryz.func306, Tryz.ntmps306
   go_wp2_with (at_builtin; go_must (refine wpL_append flat_cEntry (by rfl) (.tmp 23) (.tmp 24) 27 (by rfl) 62 i0 _ Tryz.underlying27 hi0 hz0 hz1 hz2 rfl B _ rs (by rfl) hown0.out _ [⟨x, ca, cc⟩] (by rfl) hrow.out (by simp; omega) (by simp [maxLen]; omega) hB ?_))
   intro v' w1 hown1 hg
   have hO := hid (OX.grow (e' := 67) hown1 hg hown0.out qzspx_3 hcs.out hcr.out)
   have hb := hid ((Below.refl B w).grown hg hB (fun k hk => OS.block hown0.out k hk))
   clear hown1 hg hown0 hcs hcr hrow
   go_wp2_with fail
   go_ret
   exact ⟨_, rfl, hO.out, hb.out⟩
 have hlt : i < rs.length := by omega
 have hsz : (Tryz.prog.info? 62).map (·.size) = some 4 := by rw [hi0]; simp [hz1]
 have hap : rs.flatMap (xc cEntry (·.parts)) = (rs.take i).flatMap (xc cEntry (·.parts)) ++ (rs.drop i).flatMap (xc cEntry (·.parts)) := by rw [← List.flatMap_append, List.take_append_drop]
 have hAl : ((rs.take i).flatMap (xc cEntry (·.parts))).length = i * 4 := by rw [flat_len xcEntry_len, List.length_take]; rw [Nat.min_eq_left hi]
 have hTl : ((rs.drop i).flatMap (xc cEntry (·.parts))).length = (rs.length - i) * 4 := by rw [flat_len xcEntry_len, List.length_drop]
 have hca := OS.cellsAt hown
 have hone : ∀ m : List (XR Entry), ∀ u ∈ m.flatMap (xc cEntry (·.parts)), u.oneCell' = true := fun m u hu => by
  obtain ⟨r, _, hr⟩ := List.mem_flatMap.1 hu
  exact xcEntry_one r u hr
 have hRl : (xc cEntry (·.parts) (⟨x, ca, cc⟩ : XR Entry)).length = 4 := rfl
 have hR1 : ∀ u ∈ xc cEntry (·.parts) (⟨x, ca, cc⟩ : XR Entry), u.oneCell' = true := fun u hu => xcEntry_one _ u hu
 have hqw : q < w.heap.size ∧ ∀ j u, (xc cEntry (·.parts) (⟨x, ca, cc⟩ : XR Entry))[j]? = some u → w.cell? ⟨q, j, none⟩ = some u := by
  obtain ⟨_, _, hv, -, -, -, -, hat⟩ := hrow.out
  obtain ⟨b, off, hb, hbl, he⟩ := hat 0 _ rfl
  simp only [List.length_cons, List.length_nil, Value.slice.injEq] at hv
  rw [← hv.1] at hb
  simp only [Option.some.injEq, Addr.mk.injEq, and_true] at hb
  obtain ⟨rfl, rfl⟩ := hb
  exact ⟨hbl, fun j u hj => by have := he j u hj; simpa using this⟩
 have hfl : (rs.take i ++ ⟨x, ca, cc⟩ :: rs.drop i).flatMap (xc cEntry (·.parts)) = (rs.take i).flatMap (xc cEntry (·.parts)) ++ xc cEntry (·.parts) (⟨x, ca, cc⟩ : XR Entry) ++ (rs.drop i).flatMap (xc cEntry (·.parts)) := by
  rw [List.flatMap_append, List.flatMap_cons, List.append_assoc]
 rw [hap] at hca
 have ho1 := hone (rs.take i)
 have ho2 := hone (rs.drop i)
 clear hap hone
 generalize hA : (rs.take i).flatMap (xc cEntry (·.parts)) = A at *
 generalize hT : (rs.drop i).flatMap (xc cEntry (·.parts)) = T at *
 generalize hR : xc cEntry (·.parts) (⟨x, ca, cc⟩ : XR Entry) = R at *
 have hhold : (Builtin.firstCells i0.size i (.slice (some ⟨g, 0, none⟩) i rs.length)).run Tryz.prog w.drew = .ok A.toArray w.drew := by
  rw [hz1]
  exact run_firstCells_some (w := w.drew) 4 i ⟨g, 0, none⟩ i rs.length A hAl (fun j u hj => by
   rw [Addr.add_lit, Nat.zero_add]
   exact hca j u (by rw [List.getElem?_append_left (List.getElem?_eq_some_iff.1 hj).1]; exact hj))
 obtain ⟨G, hG⟩ : ∃ G, G = grownCap w (rs.length + 1) rs.length 62 := ⟨_, rfl⟩
 have hGn : rs.length + 1 ≤ G := by rw [hG]; exact grownCap_ge w _ _ _
 have hGm : G ≤ maxLen := by rw [hG]; exact grownCap_le_maxLen w _ _ _ (by simp [maxLen]; omega)
 obtain ⟨Z1, hZ1⟩ : ∃ Z1, Z1 = (Builtin.zeroCells (Value.agg #[.string ⟨#[]⟩, .slice none 0 0, .int .i64 0, .int .i64 0]).cells (rs.length + 1 - i)).toList := ⟨_, rfl⟩
 obtain ⟨Z2, hZ2⟩ : ∃ Z2, Z2 = (Builtin.zeroCells (Value.agg #[.string ⟨#[]⟩, .slice none 0 0, .int .i64 0, .int .i64 0]).cells (G - (rs.length + 1))).toList := ⟨_, rfl⟩
 have hik : i + (rs.length + 1 - i) = rs.length + 1 := by omega
 have hkk : (rs.length : Int) + 1 - (i : Int) = ((rs.length + 1 - i : Nat) : Int) := by omega
 have hrz : ∀ ty, (Builtin.append_ #[27, 3] ty #[.slice (some ⟨g, 0, none⟩) i rs.length, .int .i64 ((rs.length : Int) + 1 - (i : Int))]).run Tryz.prog w =
  .ok (.slice (some ⟨w.heap.size, 0, none⟩) (rs.length + 1) G) (w.drew.alloc (.cells (A ++ Z1 ++ Z2).toArray 62)) := fun ty => by
  have h := Lib.run_append_grow_zeros (P := Tryz.prog) w 27 3 ty 62 i0 _ .i64 .i64 Tryz.underlying27 Tryz.underlying3 hi0 hz0 (some ⟨g, 0, none⟩) i rs.length A hhold (rs.length + 1 - i) qzspx_4 qzspx_4 qzspx_4 qzspx_4 (by rw [hz2]; omega) (by rw [hz2, hik]; exact growslice_fits qzspx_4 qzspx_4)
  rw [hik] at h
  rw [hkk, h, hG, hZ1, hZ2, hG]
  congr 4
  simp
 have hZl : Z1.length = R.length + T.length := by
  rw [hZ1, Array.length_toList, size_zeroCells, hRl, hTl]
  show (rs.length + 1 - i) * 4 = 4 + (rs.length - i) * 4
  omega
 have hZ2l : Z2.length = (G - (rs.length + 1)) * 4 := by
  rw [hZ2, Array.length_toList, size_zeroCells]
  rfl
 obtain ⟨W1, hrz', hh1, hb1⟩ : ∃ W1, (∀ ty, (Builtin.append_ #[27, 3] ty #[.slice (some ⟨g, 0, none⟩) i rs.length, .int .i64 ((rs.length : Int) + 1 - (i : Int))]).run Tryz.prog w =
  .ok (.slice (some ⟨w.heap.size, 0, none⟩) (rs.length + 1) G) W1) ∧ W1.heap[w.heap.size]? = some (.cells (A ++ Z1 ++ Z2).toArray 62 (0, 0)) ∧ Below w.heap.size w W1 :=
  ⟨_, hrz, heap_alloc_new w.drew _, b_alloc (Below.refl _ w).drew _⟩
 obtain ⟨L0, hL0⟩ : ∃ L0, L0 = A ++ Z1 ++ Z2 := ⟨_, rfl⟩
 rw [← hL0] at hh1
 have hL0l : L0.length = G * 4 := by rw [hL0, List.length_append, List.length_append, hAl, hZl, hRl, hTl, hZ2l]; omega
 have hq1 := hid (fun j u (hj : R[j]? = some u) => show W1.cell? ((⟨q, 0, none⟩ : Addr).add j) = some u by rw [Addr.add_lit, Nat.zero_add, (bcell hb1).1 q j hqw.1]; exact hqw.2 j u hj)
 have hnR := hid (show R.length = Nat.min 1 (rs.length + 1 - i) * 4 by rw [hRl, show Nat.min 1 (rs.length + 1 - i) = 1 from Nat.min_eq_left qzspx_4])
 have hfR := hid (show i * 4 + R.length ≤ L0.length by omega)
 have hA1 := hid (fun j u (hj : T[j]? = some u) => show W1.cell? ((⟨g, i * 4, none⟩ : Addr).add j) = some u by rw [Addr.add_lit, (bcell hb1).1 g _ hgw]; exact hca (i * 4 + j) u (by rw [List.getElem?_append_right qzspx_4, hAl, Nat.add_sub_cancel_left]; exact hj))
 replace hh1 := hid hh1
 replace hb1 := hid hb1
 replace hL0 := hid hL0
 have hs1 : w.heap.size < W1.heap.size := heap_lt hh1.out
 have hGi : ¬ (G = i) := by omega
 have hGi1 : ¬ (G = i + 1) := by omega
 have hni : ¬ (rs.length = i) := by omega
 have q1 : ((i : Int) == (rs.length : Int)) = false := by simp; omega
 have g1 : (0 : Int) ≤ (i : Int) := by omega
 have g2 : (i : Int) ≤ (rs.length : Int) := by omega
 have g3 : (i : Int) + 1 ≤ (rs.length : Int) + 1 := by omega
 have g4 : IntKind.i64.wrap ((i : Int) + 1) = (i : Int) + 1 := IntWalk.i64_in _ qzspx_4
 have g5 : ((i : Int) + 1).toNat = i + 1 := by omega
 have g6 : i ≤ rs.length := hi
 have hg0 : (0 : Int) ≤ (i : Int) + 1 := by omega
 have ho2' := hid ho2
 have hR1' := hid hR1
 have hfl' := hid hfl
 have hG' := hid hGm
 have hAl' := hid hAl
 have hTl' := hid hTl
 have hZl' := hid hZl
 have hRl' := hid hRl
 have hZ2l' := hid hZ2l
 have hL0l' := hid hL0l
 clear hrz hca hqw hhold hkk hik hZ1 hZ2 hown hA hT hR hG ho1 ho2 hR1 hfl hGm hAl hTl hZl hRl hZ2l hL0l hn
 go_enter Tryz.func306, Tryz.ntmps306
 go_wp2_with (first
  | (at_builtin; refine Lib.wpList_append_run _ (by rfl) (.tmp 34) (.tmp 39) 27 3 (by rfl) _ _ (by rfl) (by rfl) _ _ (hrz' _) ?_)
  | (with_reducible refine wpList_copy_s rfl (.tmp 43) (.tmp 44) 27 27 rfl 62 4 Tryz.underlying27 hsz w.heap.size (i * 4) (rs.length + 1 - i) (G - i) ⟨q, 0, none⟩ 1 1 rfl rfl L0 62 hh1.out R hnR.out hq1.out hfR.out hR1'.out ?_))
 intro W2 hh2 hg2
 have hA2 := hid (fun j u (hj : T[j]? = some u) => show W2.cell? ((⟨g, i * 4, none⟩ : Addr).add j) = some u by
  have h1 := hA1.out j u hj
  rw [Addr.add_lit] at h1 ⊢
  rw [hg2.cell_far _ (by simp; omega) (fun e => by simp at e; omega)]
  exact h1)
 have hs2 := hg2.size
 have hL1l := hid (show (splice L0 (i * 4) R).length = G * 4 by rw [length_splice _ _ _ hfR.out, hL0l'.out])
 have hnT := hid (show T.length = Nat.min (rs.length - i) (rs.length - i) * 4 by rw [hTl'.out, show Nat.min (rs.length - i) (rs.length - i) = rs.length - i from Nat.min_self _])
 have hfT := hid (show (i + 1) * 4 + T.length ≤ (splice L0 (i * 4) R).length by rw [hL1l.out, hTl'.out]; omega)
 have hb2 := hid (hb1.out.grown hg2 qzspx_4 (fun k hk => by simp at hk; omega))
 clear hA1 hq1 hnR hfR hg2 hh1 hb1
 go_wp2_with fail
 go_still_tail 8, (by kernel_rfl)
 change wpList _ _ _ _ _ W2.drew
 have hh2d : Hid (W2.drew.heap[w.heap.size]? = some (.cells (splice L0 (i * 4) R).toArray 62 (0, 0))) := hh2
 have hA2d : Hid (∀ j u, T[j]? = some u → W2.drew.cell? ((⟨g, i * 4, none⟩ : Addr).add j) = some u) := hA2
 clear hh2 hA2
 go_wp2_with (with_reducible refine wpList_copy_s rfl (.tmp 50) (.tmp 53) 27 27 rfl 62 4 Tryz.underlying27 hsz w.heap.size ((i + 1) * 4) (rs.length - i) (G - (i + 1)) ⟨g, i * 4, none⟩ (rs.length - i) (rs.length - i) rfl rfl (splice L0 (i * 4) R) 62 hh2d.out T hnT.out hA2d.out hfT.out ho2'.out ?_)
 intro W3 hh3 hg3
 have hb3 : Hid (Below w.heap.size w W3) := hid (hb2.out.drew.grown hg3 (by show w.heap.size ≤ W2.heap.size; omega) (fun k hk => by simp at hk; omega))
 have hrl : (rs.take i ++ (⟨x, ca, cc⟩ : XR Entry) :: rs.drop i).length = rs.length + 1 := by
  rw [List.length_append, List.length_take, List.length_cons, List.length_drop, Nat.min_eq_left g6]; omega
 have hsp := splice2 A R T Z2 Z1
 have hspl := splice2_len A R T Z2 Z1 hZl'.out
 rw [← hL0.out, show A.length = i * 4 from hAl'.out, show i * 4 + R.length = (i + 1) * 4 by rw [hRl'.out]; omega, show (i + 1) * 4 + T.length = (rs.length + 1) * 4 by rw [hTl'.out]; omega] at hsp
 rw [← hL0.out, show A.length = i * 4 from hAl'.out, show i * 4 + R.length = (i + 1) * 4 by rw [hRl'.out]; omega, hZl'.out, hZ2l'.out, hRl'.out, hTl'.out] at hspl
 have hO : Hid (OEntry W3 B (.slice (some ⟨w.heap.size, 0, none⟩) (rs.length + 1) G) ((rs.map (·.x)).take i ++ x :: (rs.map (·.x)).drop i)) := hid ⟨rs.take i ++ ⟨x, ca, cc⟩ :: rs.drop i, by simp,
  ⟨by rw [flat_len xcEntry_len], .inr ⟨w.heap.size, G, _, by rw [hrl], hB, hh3.out, by rw [hrl]; exact hGn, hG'.out, by simp only [List.size_toArray]; rw [hspl]; omega, by
   rw [hrl, hfl'.out, List.append_assoc]
   rw [List.append_assoc] at hsp
   exact hsp⟩⟩, fun q hq => by
   have h1 : CO 67 3 cPart B w (q.v (·.parts)) q.x.parts := by
    rcases List.mem_append.1 hq with hq | hq
    · exact hcs.out q (List.mem_of_mem_take hq)
    · rcases List.mem_cons.1 hq with rfl | hq
      · exact hcr.out
      · exact hcs.out q (List.mem_of_mem_drop hq)
   exact CO.below hb3.out _ _ h1⟩
 have hb4 := hid (hb3.out.mono hB)
 clear hb3 hrl hsp hspl hh3 hg3 hcs hcr hrow hown0
 go_wp2_with fail
 go_ret
 exact ⟨_, rfl, hO.out, hb4.out⟩
set_option maxRecDepth 100000 in
set_option maxHeartbeats 1000000 in
theorem slices_Clone_E (v : Value) (l : List Entry) (B : Nat) (w : World) (h : OEntry w B v l) (hB : B ≤ w.heap.size) (hbs : l.length * 56 ≤ 140737488351232) :
 Calls Tryz.prog 305 #[v] w (OwnedEntry l B w) := by
 obtain ⟨i0, hi, hz0, hz1, hz2⟩ := info_parts info_E
 obtain ⟨rs, rfl, hown, hcs⟩ := h
 rw [List.length_map] at hbs
 have hrd : RS 4 56 (ERaw (xc cEntry (·.parts))) w v rs := OS.reads (cells := xc cEntry (·.parts)) xcEntry_len qzspx_3 (fun b o r _ hc j u hj => by
  have hlt := (List.getElem?_eq_some_iff.1 hj).1
  rw [hc j (by rw [xcEntry_len] at hlt; exact hlt), hj]) hown hbs
 have hh := hrd
 obtain ⟨a, c, rfl, hlc, hcm, hre, hno, hat⟩ := hh
 replace hcs := hid hcs
 clear hat hown
 cases a with
 | none =>
   have hc0 := hno rfl
   subst hc0
   have hl0 : rs = [] := List.eq_nil_of_length_eq_zero qzspx_4
   subst hl0
   have he := fun w => Lib.run_eql_slice_nil (P := Tryz.prog) w 27 62 none 0 0 0 0 Tryz.underlying27
   clear hrd
   go_enter Tryz.func305, Tryz.ntmps305
   go_wp2
   go_ret
   exact ⟨_, rfl, OX.nil, Below.refl _ _⟩
 | some ad =>
   have he := fun w => Lib.run_eql_slice_nil (P := Tryz.prog) w 27 62 (some ad) rs.length c 0 0 Tryz.underlying27
   clear hno
   replace hrd := hid hrd
   go_enter Tryz.func305, Tryz.ntmps305
   go_wp2_with (at_builtin; go_must (refine wpL_append flat_cEntry rfl (.tmp 5) (.tmp 6) 27 rfl 62 i0 _ Tryz.underlying27 hi hz0 hz1 hz2 rfl w.heap.size _ [] rfl (os_empty' _ _ _ _ (by simp) (by simp)) _ rs rfl (hrd.out.mono ERaw.stable (b_alloc (Below.refl _ _) _)) (by simp; omega) (by simp [maxLen]; omega) (by simp) ?_))
   intro v' w1 hown hg
   have hb := b_grown (b_alloc (Below.refl _ w) (.cells #[] 62)) hg (fun k hk => by simp [Value.ownBlock] at hk; omega)
   have hO : Hid (OEntry w1 B v' (rs.map (·.x))) := hid ⟨rs, rfl, OS.mono (by simpa using hown) hB, fun q hq => CO.below hb _ _ (hcs.out q hq)⟩
   replace hb := hid (hb.mono hB)
   clear hg hown hcs hrd
   go_wp2
   go_ret
   exact ⟨_, rfl, hO.out, hb.out⟩
theorem rising_entries {l : List Entry} (h : entriesFault l = 0) : Rising (fun x : Entry => x.key) l ∧ l.length ≤ 10 := by
 unfold entriesFault at h
 split at h
 · cases h
 rename_i h1
 exact ⟨(rising_of (fun p x h => (entryFault_zero h).2.1) h).1, by omega⟩
def putL (x : Entry) (l : List Entry) : List Entry :=
 if hasKey (fun x : Entry => x.key) x.key l = true then (match l[lowAt (fun x : Entry => x.key) x.key l]? with | some y => l.set (lowAt (fun x : Entry => x.key) x.key l) { x with pins := y.pins } | none => [])
 else l.take (lowAt (fun x : Entry => x.key) x.key l) ++ x :: l.drop (lowAt (fun x : Entry => x.key) x.key l)
theorem putL_has {x y : Entry} {l : List Entry} (h : hasKey (fun x : Entry => x.key) x.key l = true) (hy : l[lowAt (fun x : Entry => x.key) x.key l]? = some y) : putL x l = l.set (lowAt (fun x : Entry => x.key) x.key l) { x with pins := y.pins } := by
 unfold putL; rw [if_pos h, hy]
theorem putL_no {x : Entry} {l : List Entry} (h : hasKey (fun x : Entry => x.key) x.key l = false) : putL x l = l.take (lowAt (fun x : Entry => x.key) x.key l) ++ x :: l.drop (lowAt (fun x : Entry => x.key) x.key l) := by
 unfold putL; rw [if_neg (by rw [h]; decide)]
def EnRes (err : Int) (L : List Entry) (w : World) (e : Ending) (w' : World) : Prop := ∃ v', e = .returned (.tuple #[v', .int .i64 err]) ∧ RE w' v' (if err = 0 then L else []) ∧ Below w.heap.size w w'
theorem en_no {err n : Int} {L : List Entry} {w w' : World} (h : err = n) (hn : n ≠ 0) (hb : Below w.heap.size w w') : EnRes err L w (.returned (.tuple #[.slice none 0 0, .int .i64 n])) w' := by
 subst h
 exact ⟨_, rfl, by rw [if_neg hn]; exact RS.nil, hb⟩
theorem en_ok {err : Int} {L : List Entry} {w w' : World} {v' : Value} (h : err = 0) (hr : RE w' v' L) (hb : Below w.heap.size w w') : EnRes err L w (.returned (.tuple #[v', .int .i64 0])) w' := by
 subst h
 exact ⟨_, rfl, hr, hb⟩
def putErr (z z2 : Int) : Int := if z ≠ 0 then z else z2
theorem putErr_bad {z z2 : Int} (h : z ≠ 0) : putErr z z2 = z := if_pos h
theorem putErr_rest (z2 : Int) : putErr 0 z2 = z2 := rfl
theorem ins_all {α : Type} {Q : α → Prop} {l : List α} {i : Nat} {y : α} (h : ∀ x ∈ l, Q x) (hy : Q y) : ∀ x ∈ l.take i ++ y :: l.drop i, Q x := by
 intro x hx
 rcases List.mem_append.1 hx with hx | hx
 · exact h x (List.mem_of_mem_take hx)
 rcases List.mem_cons.1 hx with rfl | hx
 · exact hy
 exact h x (List.mem_of_mem_drop hx)
theorem ins_len {α : Type} {l : List α} {i : Nat} {y : α} (hi : i ≤ l.length) : (l.take i ++ y :: l.drop i).length = l.length + 1 := by
 rw [List.length_append, List.length_take, List.length_cons, List.length_drop, Nat.min_eq_left hi]; omega
theorem OEntry.put {w : World} {B g n cap i : Nat} {l : List Entry} {x y : Entry} {ca : Option Addr} {cc : Nat} (h : OEntry w B (.slice (some ⟨g, 0, none⟩) n cap) l) (hy : l[i]? = some y)
 (hcr : CO 67 3 cPart B w (.slice ca x.parts.length cc) x.parts) :
 OEntry ((((w.setCell ⟨g, i * 4, none⟩ (.string x.key)).setCell ⟨g, i * 4 + 1, none⟩ (.slice ca x.parts.length cc)).setCell ⟨g, i * 4 + 2, none⟩ (.int .i64 x.pins)).setCell ⟨g, i * 4 + 3, none⟩ (.int .i64 x.stamp)) B
  (.slice (some ⟨g, 0, none⟩) n cap) (l.set i x) := by
 obtain ⟨rs, rfl, h2, h3⟩ := h
 rw [List.getElem?_map] at hy
 obtain ⟨r, hr, rfl⟩ := Option.map_eq_some_iff.1 hy
 obtain ⟨cur, hcur⟩ := OS.owns h2
 have hil := (List.getElem?_eq_some_iff.1 hr).1
 have p1 := OS.put (o := 0) (x' := ⟨{ r.x with key := x.key }, r.a, r.c⟩) (u := .string x.key) h2 xcEntry_len hr qzspx_3 rfl
 have p2 := OS.put (o := 1) (x' := ⟨{ r.x with key := x.key, parts := x.parts }, ca, cc⟩) (u := .slice ca x.parts.length cc) p1 xcEntry_len (List.getElem?_set_self hil) qzspx_3 rfl
 have p3 := OS.put (o := 2) (x' := ⟨{ r.x with key := x.key, parts := x.parts, pins := x.pins }, ca, cc⟩) (u := .int .i64 x.pins) p2 xcEntry_len (List.getElem?_set_self (by rw [List.length_set]; exact hil)) qzspx_3 rfl
 have p4 := OS.put (o := 3) (x' := ⟨x, ca, cc⟩) (u := .int .i64 x.stamp) p3 xcEntry_len (List.getElem?_set_self (by rw [List.length_set, List.length_set]; exact hil)) qzspx_3 rfl
 rw [List.set_set, List.set_set, List.set_set] at p4
 rw [Nat.add_zero] at p4
 have kept : ∀ (W : World) (cs : Array Value) o u v l, W.heap[g]? = some (.cells cs 62 (0, 0)) → CO 67 3 cPart B W v l → CO 67 3 cPart B (W.setCell ⟨g, o, none⟩ u) v l :=
  fun W cs o u v l hc hC => World.ownsRow.kept (row := some g) hC ⟨rfl, rfl, rfl, by simp [World.setCell], fun k _ hk => Below.heap_setCell _ _ _ _ (fun e => hk (by simp [e]))⟩ (Or.inr (OS.block_ne hC hc qzspx_3))
 obtain ⟨c1, hc1⟩ := OS.owns p1
 obtain ⟨c2, hc2⟩ := OS.owns p2
 obtain ⟨c3, hc3⟩ := OS.owns p3
 have all : ∀ v l, CO 67 3 cPart B w v l → CO 67 3 cPart B ((((w.setCell ⟨g, i * 4 + 0, none⟩ (.string x.key)).setCell ⟨g, i * 4 + 1, none⟩ (.slice ca x.parts.length cc)).setCell ⟨g, i * 4 + 2, none⟩ (.int .i64 x.pins)).setCell ⟨g, i * 4 + 3, none⟩ (.int .i64 x.stamp)) v l :=
  fun v l hC => kept _ _ _ _ _ _ hc3 (kept _ _ _ _ _ _ hc2 (kept _ _ _ _ _ _ hc1 (kept _ _ _ _ _ _ hcur hC)))
 refine ⟨rs.set i ⟨x, ca, cc⟩, by rw [List.map_set], p4, fun q hq => ?_⟩
 rcases List.mem_or_eq_of_mem_set hq with hq | rfl
 · exact all _ _ (h3 q hq)
 exact all _ _ hcr
set_option maxRecDepth 100000 in
set_option maxHeartbeats 1000000 in
theorem index_Put' (v dv : Value) (l : List Entry) (x : Entry) (w : World) (h : RE w v l) (g : RP w dv x.parts) (hx : FitEntry x) (z z2 : Int)
 (hch : ∀ w, RE w v l → Calls Tryz.prog 104 #[v] w fun e w' => e = .returned (.int .i64 z) ∧ Below w.heap.size w w')
 (hch2 : ∀ v w, RE w v (putL x l) → Calls Tryz.prog 104 #[v] w fun e w' => e = .returned (.int .i64 z2) ∧ Below w.heap.size w w')
 (hris : z = 0 → Rising (fun x : Entry => x.key) l ∧ l.length ≤ 10) :
 Calls Tryz.prog 277 #[v, .agg #[.string x.key, dv, .int .i64 x.pins, .int .i64 x.stamp]] w (EnRes (putErr z z2) (putL x l) w) := by
 replace hch := hid hch
 replace hch2 := hid hch2
 have hR := hid h
 have hP := hid g
 have hfit := hid (fit_E h)
 obtain ⟨a, c, rfl, hlc, hcm, hre, hno, hat⟩ := h
 obtain ⟨da, dc, rfl, -⟩ := g
 unfold maxLen at hcm
 replace hat := hid hat
 clear hno
 by_cases hz : z = 0
 · subst hz
   have hd := hid (putErr_rest z2)
   obtain ⟨hri, h10⟩ := hris rfl
   have hbin := hid (fun w (g : RE w (.slice a l.length c) l) => bin_E (.slice a l.length c) l x.key w g hri)
   have hhas := hid (fun y h (hy : l[lowAt (fun x : Entry => x.key) x.key l]? = some y) => putL_has (x := x) h hy)
   have hnot := hid (fun h => putL_no (x := x) (l := l) h)
   have hsome := hid (fun h : hasKey (fun x : Entry => x.key) x.key l = true => hasKey_at h)
   have hle := lowAt_le (fun x : Entry => x.key) x.key l
   generalize putErr 0 z2 = err at *
   generalize putL x l = L at *
   generalize lowAt (fun x : Entry => x.key) x.key l = i at *
   generalize hasKey (fun x : Entry => x.key) x.key l = fin at *
   clear hris hri
   replace hx := hid hx
   cases fin with
   | true =>
     obtain ⟨y, hy, -⟩ := hsome.out rfl
     have hL := hid (hhas.out y rfl hy)
     obtain ⟨bb, off, rfl, hbb, he⟩ := hat.out _ _ hy
     have hyf := hid (hfit.out y (List.mem_of_getElem? hy))
     have hil := (List.getElem?_eq_some_iff.1 hy).1
     have hi0 : (0 : Int) ≤ (i : Int) := by omega
     have hi1 : (i : Int) < (l.length : Int) := by omega
     replace he := hid he
     replace hy := hid hy
     clear hsome hhas hnot hat
     go_enter Tryz.func277, Tryz.ntmps277
     go_wp2_with fail
     ((with_reducible refine (hch.out _ (hR.out.mono EEntry.stable (b_alloc (Below.refl _ w) _))).mono ?_); rintro e1 w1 ⟨rfl, b1⟩)
     have hq_q_1 := hid (stays b1 (heap_alloc_new w _))
     have hb1 := hid (b_call (b_alloc (Below.refl _ w) _) b1)
     have r_R_1 := hid (hR.out.mono EEntry.stable (b_call (b_alloc (Below.refl _ w) _) b1))
     have r_P_1 := hid (hP.out.mono EPart.stable (b_call (b_alloc (Below.refl _ w) _) b1))
     clear b1
     obtain ⟨x_q_0, x_q_1, x_q_2, x_q_3⟩ := box4f hq_q_1.out
     go_wp2_with fail
     ((with_reducible refine (hbin.out _ r_R_1.out).mono ?_); rintro e2 w2 ⟨rfl, b2⟩)
     clear x_q_0 x_q_1 x_q_2 x_q_3
     have hq_q_2 := hid (stays b2 hq_q_1.out)
     have hb2 := hid (b_call hb1.out b2)
     have r_R_2 := hid (r_R_1.out.mono EEntry.stable (b_call (Below.refl w1.heap.size w1) b2))
     have r_P_2 := hid (r_P_1.out.mono EPart.stable (b_call (Below.refl w1.heap.size w1) b2))
     clear hq_q_1 hb1 r_R_1 r_P_1 b2
     go_wp2_with fail
     have hs2 := hb2.out.size
     ((with_reducible refine (index_Copy _ l _ r_R_2.out).mono ?_); rintro e3 w3 ⟨rfl, o3, b3⟩)
     have hq_q_3 := hid (stays b3 hq_q_2.out)
     have hb3 := hid (b_call hb2.out b3)
     have r_R_3 := hid (r_R_2.out.mono EEntry.stable (b_call (Below.refl w2.heap.size w2) b3))
     have r_P_3 := hid (r_P_2.out.mono EPart.stable (b_call (Below.refl w2.heap.size w2) b3))
     have h23 := b3.size
     have hq2l := heap_lt hq_q_2.out
     replace o3 := hid o3
     clear hq_q_2 hb2 r_R_2 r_P_2 b3
     obtain ⟨x_q_0, x_q_1, x_q_2, x_q_3⟩ := box4f hq_q_3.out
     go_wp2_with fail
     ((with_reducible refine (slices_Clone_part _ x.parts _ r_P_3.out).mono ?_); rintro e4 w4 ⟨v4, rfl, o4, b4⟩)
     clear x_q_0 x_q_1 x_q_2 x_q_3
     have hq_q_4 := hid (stays b4 hq_q_3.out)
     have hb4 := hid (b_call hb3.out b4)
     have r_R_4 := hid (r_R_3.out.mono EEntry.stable (b_call (Below.refl w3.heap.size w3) b4))
     have r_P_4 := hid (r_P_3.out.mono EPart.stable (b_call (Below.refl w3.heap.size w3) b4))
     have o34 := hid (OEntry.after o3.out b4)
     have h34 := b4.size
     have hcr := hid (show CO 67 3 cPart w2.heap.size w4 _ _ from OS.mono o4 h23)
     clear o3
     clear hq_q_3 hb3 r_R_3 r_P_3 b4
     have hq4l := heap_lt hq_q_4.out
     obtain ⟨dvy, c0, c1, c2, c3, -, -⟩ := EEntry.stable _ _ _ _ _ hb4.out hbb he.out
     obtain ⟨ca, cc, rfl, -⟩ := id (OS.len_le o4)
     obtain ⟨x0, x1, x2, x3⟩ := box4f hq_q_4.out
     have g0 := frozen_heap hq_q_4.out 0
     have g1 := frozen_heap hq_q_4.out 1
     have g2 := frozen_heap hq_q_4.out 2
     have g3 := frozen_heap hq_q_4.out 3
     obtain ⟨_, _, hv0, -, hgl, ⟨u0, hu0⟩, hf0⟩ := OX.spot o34.out (i := i) (o := 0) hil qzspx_3
     obtain ⟨_, _, hv1, -, -, ⟨u1, hu1⟩, hf1⟩ := OX.spot o34.out (i := i) (o := 1) hil qzspx_3
     obtain ⟨_, _, hv2, -, -, ⟨u2, hu2⟩, hf2⟩ := OX.spot o34.out (i := i) (o := 2) hil qzspx_3
     obtain ⟨_, _, hv3, -, -, ⟨u3, hu3⟩, hf3⟩ := OX.spot o34.out (i := i) (o := 3) hil qzspx_3
     simp only [Value.slice.injEq, Option.some.injEq, Addr.mk.injEq, and_true] at hv0 hv1 hv2 hv3
     obtain ⟨rfl, -, -⟩ := hv0
     obtain ⟨rfl, -, -⟩ := hv1
     obtain ⟨rfl, -, -⟩ := hv2
     obtain ⟨rfl, -, -⟩ := hv3
     rw [Nat.add_zero] at hu0 hf0
     have hbq : bb ≠ w.heap.size := by omega
     have hgq : w2.heap.size ≠ w.heap.size := by omega
     clear o4
     go_wp2_with fail
     have oW := OEntry.put (x := { x with pins := y.pins }) ((o34.out.set (q := w.heap.size) (o := 1) (u := .slice ca x.parts.length cc) hq2l).set (q := w.heap.size) (o := 2) (u := .int .i64 y.pins) hq2l) hy.out (OS.setOld (OS.setOld hcr.out hq2l) hq2l)
     have hb5 := b_set (b_set (b_set (b_set (b_set (b_set hb4.out (p := ⟨w.heap.size, 1, none⟩) (Nat.le_refl _) (.slice ca x.parts.length cc)) (p := ⟨w.heap.size, 2, none⟩) (Nat.le_refl _) (.int .i64 y.pins)) (p := ⟨w2.heap.size, i * 4, none⟩) hs2 (.string x.key)) (p := ⟨w2.heap.size, i * 4 + 1, none⟩) hs2 (.slice ca x.parts.length cc)) (p := ⟨w2.heap.size, i * 4 + 2, none⟩) hs2 (.int .i64 y.pins)) (p := ⟨w2.heap.size, i * 4 + 3, none⟩) hs2 (.int .i64 x.stamp)
     replace oW := hid oW
     replace hb5 := hid hb5
     generalize (((((w4.setCell ⟨w.heap.size, 1, none⟩ (.slice ca x.parts.length cc)).setCell ⟨w.heap.size, 2, none⟩ (.int .i64 y.pins)).setCell ⟨w2.heap.size, i * 4, none⟩ (.string x.key)).setCell ⟨w2.heap.size, i * 4 + 1, none⟩ (.slice ca x.parts.length cc)).setCell ⟨w2.heap.size, i * 4 + 2, none⟩ (.int .i64 y.pins)).setCell ⟨w2.heap.size, i * 4 + 3, none⟩ (.int .i64 x.stamp) = w5 at *
     have rd := hid (show RE w5 _ L by rw [hL.out]; exact oW.out.toR (by rw [List.length_set]; exact hre) (set_all hfit.out (FitEntry.pins hx.out hyf.out.1.2.1)))
     clear oW o34 hcr hq_q_4 x0 x1 x2 x3 g0 g1 g2 g3 c0 c1 c2 c3 hu0 hu1 hu2 hu3 hf0 hf1 hf2 hf3
     ((with_reducible refine (hch2.out _ _ rd.out).mono ?_); rintro e w6 ⟨rfl, b6⟩)
     have r6 := hid (rd.out.mono EEntry.stable b6)
     have hb6 := hid (b_call hb5.out b6)
     clear b6
     by_cases hz2 : z2 = 0
     · subst hz2
       go_wp2_with fail
       go_ret2
       exact en_ok hd.out r6.out hb6.out
     have ht : (z2 != 0) = true := by simp [hz2]
     replace hz2 := hid hz2
     go_wp2_with fail
     go_ret2
     exact en_no hd.out hz2.out hb6.out
   | false =>
     have hL := hid (hnot.out rfl)
     clear hsome hhas hnot hat
     go_enter Tryz.func277, Tryz.ntmps277
     go_wp2_with fail
     ((with_reducible refine (hch.out _ (hR.out.mono EEntry.stable (b_alloc (Below.refl _ w) _))).mono ?_); rintro e1 w1 ⟨rfl, b1⟩)
     have hq_q_1 := hid (stays b1 (heap_alloc_new w _))
     have hb1 := hid (b_call (b_alloc (Below.refl _ w) _) b1)
     have r_R_1 := hid (hR.out.mono EEntry.stable (b_call (b_alloc (Below.refl _ w) _) b1))
     have r_P_1 := hid (hP.out.mono EPart.stable (b_call (b_alloc (Below.refl _ w) _) b1))
     clear b1
     obtain ⟨x_q_0, x_q_1, x_q_2, x_q_3⟩ := box4f hq_q_1.out
     go_wp2_with fail
     ((with_reducible refine (hbin.out _ r_R_1.out).mono ?_); rintro e2 w2 ⟨rfl, b2⟩)
     clear x_q_0 x_q_1 x_q_2 x_q_3
     have hq_q_2 := hid (stays b2 hq_q_1.out)
     have hb2 := hid (b_call hb1.out b2)
     have r_R_2 := hid (r_R_1.out.mono EEntry.stable (b_call (Below.refl w1.heap.size w1) b2))
     have r_P_2 := hid (r_P_1.out.mono EPart.stable (b_call (Below.refl w1.heap.size w1) b2))
     clear hq_q_1 hb1 r_R_1 r_P_1 b2
     go_wp2_with fail
     have hs2 := hb2.out.size
     ((with_reducible refine (index_Copy _ l _ r_R_2.out).mono ?_); rintro e3 w3 ⟨rfl, o3, b3⟩)
     have hq_q_3 := hid (stays b3 hq_q_2.out)
     have hb3 := hid (b_call hb2.out b3)
     have r_R_3 := hid (r_R_2.out.mono EEntry.stable (b_call (Below.refl w2.heap.size w2) b3))
     have r_P_3 := hid (r_P_2.out.mono EPart.stable (b_call (Below.refl w2.heap.size w2) b3))
     have h23 := b3.size
     have hq2l := heap_lt hq_q_2.out
     replace o3 := hid o3
     clear hq_q_2 hb2 r_R_2 r_P_2 b3
     obtain ⟨x_q_0, x_q_1, x_q_2, x_q_3⟩ := box4f hq_q_3.out
     go_wp2_with fail
     ((with_reducible refine (slices_Clone_part _ x.parts _ r_P_3.out).mono ?_); rintro e4 w4 ⟨v4, rfl, o4, b4⟩)
     clear x_q_0 x_q_1 x_q_2 x_q_3
     have hq_q_4 := hid (stays b4 hq_q_3.out)
     have hb4 := hid (b_call hb3.out b4)
     have r_R_4 := hid (r_R_3.out.mono EEntry.stable (b_call (Below.refl w3.heap.size w3) b4))
     have r_P_4 := hid (r_P_3.out.mono EPart.stable (b_call (Below.refl w3.heap.size w3) b4))
     have o34 := hid (OEntry.after o3.out b4)
     have h34 := b4.size
     have hcr := hid (show CO 67 3 cPart w2.heap.size w4 _ _ from OS.mono o4 h23)
     clear o3
     clear hq_q_3 hb3 r_R_3 r_P_3 b4
     obtain ⟨ca, cc, rfl, -⟩ := id (OS.len_le o4)
     obtain ⟨x0, x1, x2, x3⟩ := box4f hq_q_4.out
     have g0 := frozen_heap hq_q_4.out 0
     have g1 := frozen_heap hq_q_4.out 1
     have g2 := frozen_heap hq_q_4.out 2
     have g3 := frozen_heap hq_q_4.out 3
     clear o4
     go_wp2_with fail
     have hs4 := hb4.out.size
     have o5 := hid (OEntry.alloc (o34.out.set (q := w.heap.size) (o := 1) (u := .slice ca x.parts.length cc) hq2l) (Obj.cells #[.string x.key, .slice ca x.parts.length cc, .int .i64 x.pins, .int .i64 x.stamp] 62))
     have hcr5 := hid (OS.alloc (OS.setOld (q := w.heap.size) (o := 1) (u := .slice ca x.parts.length cc) hcr.out hq2l) (Obj.cells #[.string x.key, .slice ca x.parts.length cc, .int .i64 x.pins, .int .i64 x.stamp] 62))
     have hrow := hid (row_one (s := 4) (bs := 56) (cells := xc cEntry (·.parts)) (w4.setCell ⟨w.heap.size, 1, none⟩ (.slice ca x.parts.length cc)) 62 ⟨x, ca, cc⟩ #[.string x.key, .slice ca x.parts.length cc, .int .i64 x.pins, .int .i64 x.stamp] w4.heap.size (by simp [World.setCell]) rfl qzspx_3)
     have hb5 := hid (b_alloc (b_set hb4.out (p := ⟨w.heap.size, 1, none⟩) (Nat.le_refl _) (.slice ca x.parts.length cc)) (Obj.cells #[.string x.key, .slice ca x.parts.length cc, .int .i64 x.pins, .int .i64 x.stamp] 62))
     have hs5 : w2.heap.size ≤ ((w4.setCell ⟨w.heap.size, 1, none⟩ (.slice ca x.parts.length cc)).alloc (Obj.cells #[.string x.key, .slice ca x.parts.length cc, .int .i64 x.pins, .int .i64 x.stamp] 62)).heap.size := by simp [World.setCell]; omega
     generalize (w4.setCell ⟨w.heap.size, 1, none⟩ (.slice ca x.parts.length cc)).alloc (Obj.cells #[.string x.key, .slice ca x.parts.length cc, .int .i64 x.pins, .int .i64 x.stamp] 62) = w5 at *
     have hcr6 : Hid (CO 67 3 cPart w2.heap.size w5 (.slice ca x.parts.length cc) x.parts) := hcr5
     clear hcr5
     ((with_reducible refine (slices_Insert_E l i w2.heap.size w2.heap.size x ca cc w4.heap.size w5 o5.out hle hs5 qzspx_4 hrow.out hcr6.out).mono ?_); rintro e w6 ⟨v6, rfl, o6, b6⟩)
     have hs6 := b6.size
     have hb6 := hid (hb5.out.trans (b6.mono hs2))
     replace o6 := hid o6
     clear b6 hrow hcr6 o5 x0 x1 x2 x3 g0 g1 g2 g3 hq_q_4 o34 hcr hb4
     go_wp2_with fail
     ((with_reducible refine (slices_Clone_E v6 _ w2.heap.size w6 o6.out qzspx_4 (by rw [ins_len hle]; omega)).mono ?_); rintro e w7 ⟨v7, rfl, o7, b7⟩)
     have hb7 := hid (hb6.out.trans (b7.mono hs2))
     have rd := hid (show RE w7 v7 L by rw [hL.out]; exact o7.toR (by rw [ins_len hle]; omega) (ins_all hfit.out hx.out))
     clear b7 o7 o6 hb5 hb6
     go_wp2_with fail
     ((with_reducible refine (hch2.out _ _ rd.out).mono ?_); rintro e w8 ⟨rfl, b8⟩)
     have r8 := hid (rd.out.mono EEntry.stable b8)
     have hb8 := hid (b_call hb7.out b8)
     clear b8
     by_cases hz2 : z2 = 0
     · subst hz2
       go_wp2_with fail
       go_ret2
       exact en_ok hd.out r8.out hb8.out
     have ht : (z2 != 0) = true := by simp [hz2]
     replace hz2 := hid hz2
     go_wp2_with fail
     go_ret2
     exact en_no hd.out hz2.out hb8.out
 have ht : (z != 0) = true := by simp [hz]
 have hd := hid (putErr_bad (z2 := z2) hz)
 replace hz := hid hz
 clear hat hris
 go_enter Tryz.func277, Tryz.ntmps277
 go_wp2_with fail
 ((with_reducible refine (hch.out _ (hR.out.mono EEntry.stable (b_alloc (Below.refl _ w) _))).mono ?_); rintro e1 w1 ⟨rfl, b1⟩)
 have hq_q_1 := hid (stays b1 (heap_alloc_new w _))
 have hb1 := hid (b_call (b_alloc (Below.refl _ w) _) b1)
 have r_R_1 := hid (hR.out.mono EEntry.stable (b_call (b_alloc (Below.refl _ w) _) b1))
 have r_P_1 := hid (hP.out.mono EPart.stable (b_call (b_alloc (Below.refl _ w) _) b1))
 clear b1
 go_wp2_with fail
 go_ret2
 exact en_no hd.out hz.out hb1.out
def putsE (x : Entry) (l : List Entry) : Int := putErr (entriesFault l) (entriesFault (putL x l))
theorem index_Put (v dv : Value) (l : List Entry) (x : Entry) (w : World) (h : RE w v l) (g : RP w dv x.parts) (hx : FitEntry x) :
 Calls Tryz.prog 277 #[v, .agg #[.string x.key, dv, .int .i64 x.pins, .int .i64 x.stamp]] w (EnRes (putsE x l) (putL x l) w) :=
 index_Put' v dv l x w h g hx _ _ (fun w h => index_Check v l w h) (fun v w h => index_Check v _ w h) rising_entries
theorem fit_of {w : World} {dv : Value} {x : Entry} (g : RP w dv x.parts) (h : okEntry x) : FitEntry x := by
 obtain ⟨_, _, _, _, _, hr, _, hat⟩ := g
 refine ⟨h, hr, fun p hp => ?_⟩
 obtain ⟨j, hj⟩ := List.getElem?_of_mem hp
 obtain ⟨_, _, _, _, _, _, _, q⟩ := hat j p hj
 exact q
def spE (z1 z2 z3 z4 t e : Int) : Int := if z1 ≠ 0 then z1 else if z2 ≠ 0 then z2 else if z3 ≠ 0 then z3 else if z4 ≠ 0 then z4 else if (t == 1099511627776) = true then 4 else e
section
variable {z1 z2 z3 z4 t e : Int}
theorem spE_1 (h : z1 ≠ 0) : spE z1 z2 z3 z4 t e = z1 := if_pos h
theorem spE_2 (h : z2 ≠ 0) : spE 0 z2 z3 z4 t e = z2 := by simp [spE, h]
theorem spE_3 (h : z3 ≠ 0) : spE 0 0 z3 z4 t e = z3 := by simp [spE, h]
theorem spE_4 (h : z4 ≠ 0) : spE 0 0 0 z4 t e = z4 := by simp [spE, h]
theorem spE_5 (h : (t == 1099511627776) = true) : spE 0 0 0 0 t e = 4 := by unfold spE; rw [if_pos h]; simp
theorem spE_6 (h : (t == 1099511627776) = false) : spE 0 0 0 0 t e = e := by unfold spE; rw [if_neg (c := (t == 1099511627776) = true) (by rw [h]; decide)]; simp
end
theorem wf_small {n : Int} (h0 : 0 ≤ n) (h1 : n ≤ 2199023255552) : (Lit.int .i64 n).wf = true := by
 unfold Lit.wf
 simp only [Bool.and_eq_true, decide_eq_true_eq]
 exact ⟨Int.le_trans qzspx_3 h0, Int.le_trans h1 qzspx_3⟩
theorem clock_of {bs : List Blob} {es : List Entry} {r t : Int} (h : storeFault bs es r t = 0) : 0 ≤ t ∧ t ≤ 1099511627776 := by
 by_cases h1 : blobsFault bs = 0
 · by_cases h2 : entriesFault es = 0
   · by_cases h3 : roomFault bs r = 0
     · by_cases h4 : badClock t
       · rw [st4 h1 h2 h3 h4] at h; cases h
       unfold badClock at h4; omega
     rw [st3 h1 h2 h3] at h; exact absurd h h3
   rw [st2 h1 h2] at h; exact absurd h h2
 rw [st1 h1] at h; exact absurd h h1
set_option maxRecDepth 100000 in
theorem store_tick_full (w : World) (p : Nat) (a b : Value) (r t : Int) (h2 : (t == 1099511627776) = true) (h : w.heap[p]? = some (.cells #[a, b, .int .i64 r, .int .i64 t] 29 (0, 0))) :
 Calls Tryz.prog 53 #[.pointer (some ⟨p, 0, none⟩)] w fun e w' => e = .returned (.int .i64 4) ∧ w' = w := by
 obtain ⟨x0, x1, x2, x3⟩ := box4f h
 go_enter Tryz.func53, Tryz.ntmps53
 go_wp2
 go_ret
 exact ⟨rfl, rfl⟩
set_option maxRecDepth 100000 in
theorem store_tick_ok (w : World) (a b : Value) (r t : Int) (h0 : 0 ≤ t) (h1 : t ≤ 1099511627776) (h2 : (t == 1099511627776) = false) :
 Calls Tryz.prog 53 #[.pointer (some ⟨w.heap.size, 0, none⟩)] (w.alloc (Obj.cells #[a, b, .int .i64 r, .int .i64 t] 29)) fun e w' => e = .returned (.int .i64 0) ∧ w' = w.alloc (Obj.cells #[a, b, .int .i64 r, .int .i64 (t + 1)] 29) := by
 have g5 : IntKind.i64.wrap (t + 1) = t + 1 := IntWalk.i64_in _ qzspx_4
 go_enter Tryz.func53, Tryz.ntmps53
 go_wp2
 go_ret
 exact ⟨rfl, rfl⟩
set_option maxRecDepth 100000 in
set_option maxHeartbeats 4000000 in
theorem store_Put' (v u b : Value) (bs : List Blob) (es : List Entry) (r t : Int) (s : ByteArray) (ps : List Part) (w : World) (h : RBl w v bs) (g : RE w u es) (gp : RP w b ps) (z1 z2 z3 z4 e5 : Int) (L : List Entry)
 (f1 : ∀ w, RBl w v bs → RE w u es → Calls Tryz.prog 50 #[.agg #[v, u, .int .i64 r, .int .i64 t]] w fun e w' => e = .returned (.int .i64 z1) ∧ Below w.heap.size w w')
 (f2 : ∀ w, Calls Tryz.prog 113 #[.string s] w fun e w' => e = .returned (.int .i64 z2) ∧ Below w.heap.size w w')
 (f3 : ∀ w, RP w b ps → Calls Tryz.prog 114 #[b] w fun e w' => e = .returned (.int .i64 z3) ∧ Below w.heap.size w w')
 (f4 : ∀ w, RBl w v bs → RP w b ps → Calls Tryz.prog 106 #[v, b] w fun e w' => e = .returned (.int .i64 z4) ∧ Below w.heap.size w w')
 (f5 : z1 = 0 → ∀ v w, RE w v es → RP w b ps → Calls Tryz.prog 277 #[v, .agg #[.string s, b, .int .i64 0, .int .i64 (t + 1)]] w (EnRes e5 L w))
 (hc : z1 = 0 → 0 ≤ t ∧ t ≤ 1099511627776) :
 Calls Tryz.prog 252 #[.agg #[v, u, .int .i64 r, .int .i64 t], .string s, b] w (StRes (spE z1 z2 z3 z4 t e5) ⟨bs, L, r, t + 1⟩ w) := by
 replace f1 := hid f1
 replace f2 := hid f2
 replace f3 := hid f3
 replace f4 := hid f4
 have hR := hid h
 have hE := hid g
 have hP := hid gp
 have hf1 := hid (fit_B h)
 have hf2 := hid (fit_E g)
 obtain ⟨a, c, rfl, -, -, hre, -⟩ := h
 obtain ⟨a2, c2, rfl, -, -, hre2, -⟩ := g
 obtain ⟨pa, pc, rfl, -⟩ := gp
 unfold EnRes at f5
 obtain ⟨w1, hw1⟩ : ∃ w1 : World, w1 = (w.alloc (Obj.cells #[.slice a bs.length c, .slice a2 es.length c2, .int .i64 r, .int .i64 t] 29)).alloc (Obj.cells #[.slice none 0 0, .slice none 0 0, .int .i64 0, .int .i64 0] 29) := ⟨_, rfl⟩
 have hb1 := hid (show Below w.heap.size w w1 by rw [hw1]; exact b_alloc (b_alloc (Below.refl _ _) _) _)
 have hq1 := hid (show w1.heap[w.heap.size]? = some (Obj.cells #[.slice a bs.length c, .slice a2 es.length c2, .int .i64 r, .int .i64 t] 29 (0, 0)) by rw [hw1]; exact heap_alloc2_old w _ _)
 have hp1 := hid (show w1.heap[w.heap.size + 1]? = some (Obj.cells #[.slice none 0 0, .slice none 0 0, .int .i64 0, .int .i64 0] 29 (0, 0)) by rw [hw1]; exact heap_alloc2_new w _ _)
 have i0 : ∀ w, (Instr.index 296 (.agg #[.int .i64 z1, .int .i64 z2, .int .i64 z3, .int .i64 z4]) (.int .i64 0)).run Tryz.prog w = .ok (.int .i64 z1) w := fun _ => by kernel_rfl
 have i1 : ∀ w, (Instr.index 296 (.agg #[.int .i64 z1, .int .i64 z2, .int .i64 z3, .int .i64 z4]) (.int .i64 1)).run Tryz.prog w = .ok (.int .i64 z2) w := fun _ => by kernel_rfl
 have i2 : ∀ w, (Instr.index 296 (.agg #[.int .i64 z1, .int .i64 z2, .int .i64 z3, .int .i64 z4]) (.int .i64 2)).run Tryz.prog w = .ok (.int .i64 z3) w := fun _ => by kernel_rfl
 have i3 : ∀ w, (Instr.index 296 (.agg #[.int .i64 z1, .int .i64 z2, .int .i64 z3, .int .i64 z4]) (.int .i64 3)).run Tryz.prog w = .ok (.int .i64 z4) w := fun _ => by kernel_rfl
 by_cases h1 : z1 = 0
 · subst h1
   obtain ⟨hc0, hc1⟩ := hc rfl
   replace f5 := f5 rfl
   clear hc
   by_cases h2 : z2 = 0
   · subst h2
     by_cases h3 : z3 = 0
     · subst h3
       by_cases h4 : z4 = 0
       · subst h4
         cases ht : (t == 1099511627776) with
         | true =>
           have hd := hid (spE_5 (e := e5) ht)
           clear hc0 hc1
           go_enter Tryz.func252, Tryz.ntmps252
           go_wp2_with fail
           rw [← hw1]
           clear hw1
           have hS := box4f hq1.out
           go_region_held3 (fun w' => w'.cell? ⟨w.heap.size, 0, none⟩ = some (.slice a bs.length c) ∧ w'.cell? ⟨w.heap.size, 1, none⟩ = some (.slice a2 es.length c2) ∧ w'.cell? ⟨w.heap.size, 2, none⟩ = some (.int .i64 r) ∧ w'.cell? ⟨w.heap.size, 3, none⟩ = some (.int .i64 t))
            (first | go_keep | exact hS5 | exact hS4 | exact hS3 | exact hS2 | exact hS | fail)
            ((first
              | ((with_reducible refine (f1.out w1.drew (hR.out.mono EBlob.stable (hb1.out.drew)) (hE.out.mono EEntry.stable (hb1.out.drew))).mono ?_)
                 rintro e w2 ⟨rfl, b2⟩
                 have hb2 : Below w.heap.size w w2 := b_call hb1.out.drew b2
                 have hq2 := stays b2 (show w1.drew.heap[w.heap.size]? = _ from hq1.out)
                 have hp2 := stays b2 (show w1.drew.heap[w.heap.size + 1]? = _ from hp1.out)
                 have hS2 := box4f hq2)
              | ((with_reducible refine (f2.out w2).mono ?_)
                 rintro e w3 ⟨rfl, b3⟩
                 have hb3 : Below w.heap.size w w3 := b_call hb2 b3
                 have hq3 := stays b3 hq2
                 have hp3 := stays b3 hp2
                 have hS3 := box4f hq3)
              | ((with_reducible refine (f3.out w3 (hP.out.mono EPart.stable hb3)).mono ?_)
                 rintro e w4 ⟨rfl, b4⟩
                 have hb4 : Below w.heap.size w w4 := b_call hb3 b4
                 have hq4 := stays b4 hq3
                 have hp4 := stays b4 hp3
                 have hS4 := box4f hq4)
              | ((with_reducible refine (f4.out w4 (hR.out.mono EBlob.stable hb4) (hP.out.mono EPart.stable hb4)).mono ?_)
                 rintro e w5 ⟨rfl, b5⟩
                 have hb5 : Below w.heap.size w w5 := b_call hb4 b5
                 have hq5 := stays b5 hq4
                 have hp5 := stays b5 hp4
                 have hS5 := box4f hq5)
              | fail))
           replace hb5 := hid hb5
           replace hq5 := hid hq5
           replace hp5 := hid hp5
           obtain ⟨x0, x1, x2, x3⟩ := hS5
           obtain ⟨y0, y1, y2, y3⟩ := box4f hp5.out
           have g0 := frozen_heap hp5.out 0
           have g1 := frozen_heap hp5.out 1
           have g2 := frozen_heap hp5.out 2
           have g3 := frozen_heap hp5.out 3
           clear hS hS2 hS3 hS4 hb2 hb3 hb4 hq2 hq3 hq4 hp2 hp3 hp4 b2 b3 b4 b5 hb1 hq1 hp1 f1 f2 f3 f4
           go_wp2_with fail
           refine wp_loop_rounds 5 ?_
           rw [rounds_succ]
           go_wp2_with fail
           rw [rounds_succ]
           go_wp2_with fail
           rw [rounds_succ]
           go_wp2_with fail
           rw [rounds_succ]
           go_wp2_with fail
           rw [rounds_succ]
           go_wp2_with fail
           ((with_reducible refine (store_CopyO _ _ bs es r t w5 (hR.out.mono EBlob.stable hb5.out) (hE.out.mono EEntry.stable hb5.out)).mono ?_); rintro e w6 ⟨v6, u6, rfl, o1, o2, b6⟩)
           obtain ⟨av, cv, rfl⟩ := OX.lenOf o1
           obtain ⟨au, cu, rfl⟩ := OX.lenOf o2
           have rv6 := hid (o1.toR hre hf1.out)
           have ru6 := hid (o2.toR hre2 hf2.out)
           have hp6 := hid (stays b6 hp5.out)
           have hb6 := hid (b_call hb5.out b6)
           have hpl := heap_lt hp6.out
           clear o1 o2 b6 x0 x1 x2 x3 y0 y1 y2 y3 g0 g1 g2 g3 hq5 hp5 hb5
           obtain ⟨y0, y1, y2, y3⟩ := box4f hp6.out
           have g0 := frozen_heap hp6.out 0
           have g1 := frozen_heap hp6.out 1
           have g2 := frozen_heap hp6.out 2
           have g3 := frozen_heap hp6.out 3
           go_wp2_with fail
           ((with_reducible refine (store_tick_full (w6.alloc (Obj.cells #[.slice av bs.length cv, .slice au es.length cu, .int .i64 r, .int .i64 t] 29)) w6.heap.size _ _ r t ht (heap_alloc_new w6 _)).mono ?_); rintro e w7 ⟨rfl, rfl⟩)
           go_wp2_with fail
           have hpB := box4_same (u0 := .slice none 0 0) (u1 := .slice none 0 0) (u2 := .int .i64 0) (u3 := .int .i64 0) hp6.out
           have hp9 := (heap_alloc_old _ (Obj.cells #[.slice av bs.length cv, .slice au es.length cu, .int .i64 r, .int .i64 t] 29) (heap_lt hpB)).trans hpB
           have hb9 := b_alloc (b_box4 hb6.out (q := w.heap.size + 1) (Nat.le_succ _) (.slice none 0 0) (.slice none 0 0) (.int .i64 0) (.int .i64 0)) (Obj.cells #[.slice av bs.length cv, .slice au es.length cu, .int .i64 r, .int .i64 t] 29)
           obtain ⟨m0, m1, m2, m3⟩ := box4f hp9
           unfold World.box4 at m0 m1 m2 m3 hb9
           (try simp only [Exit.inBlock, Exit.then])
           refine bodyPost_ret qzspx_2 rfl ?_
           exact st_no hd.out qzspx_3 hb9
         | false =>
           by_cases h5 : e5 = 0
           · subst h5
             simp only [if_true] at f5
             replace f5 := hid f5
             have hd := hid (spE_6 (e := 0) ht)
             go_enter Tryz.func252, Tryz.ntmps252
             go_wp2_with fail
             rw [← hw1]
             clear hw1
             have hS := box4f hq1.out
             go_region_held3 (fun w' => w'.cell? ⟨w.heap.size, 0, none⟩ = some (.slice a bs.length c) ∧ w'.cell? ⟨w.heap.size, 1, none⟩ = some (.slice a2 es.length c2) ∧ w'.cell? ⟨w.heap.size, 2, none⟩ = some (.int .i64 r) ∧ w'.cell? ⟨w.heap.size, 3, none⟩ = some (.int .i64 t))
              (first | go_keep | exact hS5 | exact hS4 | exact hS3 | exact hS2 | exact hS | fail)
              ((first
                | ((with_reducible refine (f1.out w1.drew (hR.out.mono EBlob.stable (hb1.out.drew)) (hE.out.mono EEntry.stable (hb1.out.drew))).mono ?_)
                   rintro e w2 ⟨rfl, b2⟩
                   have hb2 : Below w.heap.size w w2 := b_call hb1.out.drew b2
                   have hq2 := stays b2 (show w1.drew.heap[w.heap.size]? = _ from hq1.out)
                   have hp2 := stays b2 (show w1.drew.heap[w.heap.size + 1]? = _ from hp1.out)
                   have hS2 := box4f hq2)
                | ((with_reducible refine (f2.out w2).mono ?_)
                   rintro e w3 ⟨rfl, b3⟩
                   have hb3 : Below w.heap.size w w3 := b_call hb2 b3
                   have hq3 := stays b3 hq2
                   have hp3 := stays b3 hp2
                   have hS3 := box4f hq3)
                | ((with_reducible refine (f3.out w3 (hP.out.mono EPart.stable hb3)).mono ?_)
                   rintro e w4 ⟨rfl, b4⟩
                   have hb4 : Below w.heap.size w w4 := b_call hb3 b4
                   have hq4 := stays b4 hq3
                   have hp4 := stays b4 hp3
                   have hS4 := box4f hq4)
                | ((with_reducible refine (f4.out w4 (hR.out.mono EBlob.stable hb4) (hP.out.mono EPart.stable hb4)).mono ?_)
                   rintro e w5 ⟨rfl, b5⟩
                   have hb5 : Below w.heap.size w w5 := b_call hb4 b5
                   have hq5 := stays b5 hq4
                   have hp5 := stays b5 hp4
                   have hS5 := box4f hq5)
                | fail))
             replace hb5 := hid hb5
             replace hq5 := hid hq5
             replace hp5 := hid hp5
             obtain ⟨x0, x1, x2, x3⟩ := hS5
             obtain ⟨y0, y1, y2, y3⟩ := box4f hp5.out
             have g0 := frozen_heap hp5.out 0
             have g1 := frozen_heap hp5.out 1
             have g2 := frozen_heap hp5.out 2
             have g3 := frozen_heap hp5.out 3
             clear hS hS2 hS3 hS4 hb2 hb3 hb4 hq2 hq3 hq4 hp2 hp3 hp4 b2 b3 b4 b5 hb1 hq1 hp1 f1 f2 f3 f4
             go_wp2_with fail
             refine wp_loop_rounds 5 ?_
             rw [rounds_succ]
             go_wp2_with fail
             rw [rounds_succ]
             go_wp2_with fail
             rw [rounds_succ]
             go_wp2_with fail
             rw [rounds_succ]
             go_wp2_with fail
             rw [rounds_succ]
             go_wp2_with fail
             ((with_reducible refine (store_CopyO _ _ bs es r t w5 (hR.out.mono EBlob.stable hb5.out) (hE.out.mono EEntry.stable hb5.out)).mono ?_); rintro e w6 ⟨v6, u6, rfl, o1, o2, b6⟩)
             obtain ⟨av, cv, rfl⟩ := OX.lenOf o1
             obtain ⟨au, cu, rfl⟩ := OX.lenOf o2
             have rv6 := hid (o1.toR hre hf1.out)
             have ru6 := hid (o2.toR hre2 hf2.out)
             have hp6 := hid (stays b6 hp5.out)
             have hb6 := hid (b_call hb5.out b6)
             have hpl := heap_lt hp6.out
             clear o1 o2 b6 x0 x1 x2 x3 y0 y1 y2 y3 g0 g1 g2 g3 hq5 hp5 hb5
             obtain ⟨y0, y1, y2, y3⟩ := box4f hp6.out
             have g0 := frozen_heap hp6.out 0
             have g1 := frozen_heap hp6.out 1
             have g2 := frozen_heap hp6.out 2
             have g3 := frozen_heap hp6.out 3
             go_wp2_with fail
             ((with_reducible refine (store_tick_ok w6 _ _ r t hc0 hc1 ht).mono ?_); rintro e w7 ⟨rfl, rfl⟩)
             go_wp2_with fail
             ((with_reducible refine (f5.out (.slice au es.length cu) _ (ru6.out.mono EEntry.stable (b_alloc (Below.refl _ _) _)) (hP.out.mono EPart.stable (b_alloc hb6.out _))).mono ?_); rintro e w8 ⟨v8, rfl, r8, b8⟩)
             have hn8 := hid (stays b8 (heap_alloc_new w6 _))
             have hp8 := hid (stays b8 (hold hp6.out))
             have hb8 := hid (b_call (b_alloc hb6.out _) b8)
             have rv8 := hid (rv6.out.mono EBlob.stable (b_call (b_alloc (Below.refl _ _) _) b8))
             clear b8 y0 y1 y2 y3 g0 g1 g2 g3 hp6 hb6 ru6 rv6
             obtain ⟨y0, y1, y2, y3⟩ := box4f hp8.out
             have g0 := frozen_heap hp8.out 0
             have g1 := frozen_heap hp8.out 1
             have g2 := frozen_heap hp8.out 2
             have g3 := frozen_heap hp8.out 3
             obtain ⟨al, cl, rfl, -⟩ := id r8
             replace r8 := hid r8
             obtain ⟨z0, z1', z2', z3'⟩ := box4f hn8.out
             have k1 := frozen_heap hn8.out 1
             have hpn : w6.heap.size ≠ w.heap.size + 1 := by omega
             go_wp2_with fail
             have hpA := box_other (q := w6.heap.size) (o := 1) (u := (.slice al L.length cl)) hp8.out (Ne.symm hpn)
             have hsb : SBox w8 w6.heap.size := ⟨_, _, _, _, _, _, _, _, _, hn8.out⟩
             have hbox := (⟨_, _, _, _, _, _, _, _, hpA⟩ : ∃ a n c a' n' c' r t, (w8.setCell ⟨w6.heap.size, 1, none⟩ (.slice al L.length cl)).heap[w.heap.size + 1]? = some (.cells #[.slice a n c, .slice a' n' c', .int .i64 r, .int .i64 t] 29 (0, 0)))
             have rl9 := (rv8.out.write (fun _ _ _ => EBlob.write hsb)).box4 EBlob.writes hbox av bs.length cv al L.length cl r (t + 1)
             have re9 := (r8.out.write (fun _ _ _ => EEntry.write hsb)).box4 EEntry.writes hbox av bs.length cv al L.length cl r (t + 1)
             unfold World.box4 at rl9 re9
             have hp9 := box4_same (u0 := .slice av bs.length cv) (u1 := .slice al L.length cl) (u2 := .int .i64 r) (u3 := .int .i64 (t + 1)) hpA
             have hb9 := b_box4 (b_set hb8.out (p := ⟨w6.heap.size, 1, none⟩) (show w.heap.size ≤ w6.heap.size by omega) (.slice al L.length cl)) (q := w.heap.size + 1) (Nat.le_succ _) (.slice av bs.length cv) (.slice al L.length cl) (.int .i64 r) (.int .i64 (t + 1))
             obtain ⟨m0, m1, m2, m3⟩ := box4f hp9
             unfold World.box4 at m0 m1 m2 m3 hb9
             (try simp only [Exit.inBlock, Exit.then])
             refine bodyPost_ret qzspx_2 rfl ?_
             exact st_ok hd.out rfl rl9 re9 hb9
           have q5 : (e5 != 0) = true := by simp [h5]
           simp only [if_neg h5] at f5
           replace f5 := hid f5
           have hd := hid (spE_6 (e := e5) ht)
           have hz := hid h5
           clear h5
           go_enter Tryz.func252, Tryz.ntmps252
           go_wp2_with fail
           rw [← hw1]
           clear hw1
           have hS := box4f hq1.out
           go_region_held3 (fun w' => w'.cell? ⟨w.heap.size, 0, none⟩ = some (.slice a bs.length c) ∧ w'.cell? ⟨w.heap.size, 1, none⟩ = some (.slice a2 es.length c2) ∧ w'.cell? ⟨w.heap.size, 2, none⟩ = some (.int .i64 r) ∧ w'.cell? ⟨w.heap.size, 3, none⟩ = some (.int .i64 t))
            (first | go_keep | exact hS5 | exact hS4 | exact hS3 | exact hS2 | exact hS | fail)
            ((first
              | ((with_reducible refine (f1.out w1.drew (hR.out.mono EBlob.stable (hb1.out.drew)) (hE.out.mono EEntry.stable (hb1.out.drew))).mono ?_)
                 rintro e w2 ⟨rfl, b2⟩
                 have hb2 : Below w.heap.size w w2 := b_call hb1.out.drew b2
                 have hq2 := stays b2 (show w1.drew.heap[w.heap.size]? = _ from hq1.out)
                 have hp2 := stays b2 (show w1.drew.heap[w.heap.size + 1]? = _ from hp1.out)
                 have hS2 := box4f hq2)
              | ((with_reducible refine (f2.out w2).mono ?_)
                 rintro e w3 ⟨rfl, b3⟩
                 have hb3 : Below w.heap.size w w3 := b_call hb2 b3
                 have hq3 := stays b3 hq2
                 have hp3 := stays b3 hp2
                 have hS3 := box4f hq3)
              | ((with_reducible refine (f3.out w3 (hP.out.mono EPart.stable hb3)).mono ?_)
                 rintro e w4 ⟨rfl, b4⟩
                 have hb4 : Below w.heap.size w w4 := b_call hb3 b4
                 have hq4 := stays b4 hq3
                 have hp4 := stays b4 hp3
                 have hS4 := box4f hq4)
              | ((with_reducible refine (f4.out w4 (hR.out.mono EBlob.stable hb4) (hP.out.mono EPart.stable hb4)).mono ?_)
                 rintro e w5 ⟨rfl, b5⟩
                 have hb5 : Below w.heap.size w w5 := b_call hb4 b5
                 have hq5 := stays b5 hq4
                 have hp5 := stays b5 hp4
                 have hS5 := box4f hq5)
              | fail))
           replace hb5 := hid hb5
           replace hq5 := hid hq5
           replace hp5 := hid hp5
           obtain ⟨x0, x1, x2, x3⟩ := hS5
           obtain ⟨y0, y1, y2, y3⟩ := box4f hp5.out
           have g0 := frozen_heap hp5.out 0
           have g1 := frozen_heap hp5.out 1
           have g2 := frozen_heap hp5.out 2
           have g3 := frozen_heap hp5.out 3
           clear hS hS2 hS3 hS4 hb2 hb3 hb4 hq2 hq3 hq4 hp2 hp3 hp4 b2 b3 b4 b5 hb1 hq1 hp1 f1 f2 f3 f4
           go_wp2_with fail
           refine wp_loop_rounds 5 ?_
           rw [rounds_succ]
           go_wp2_with fail
           rw [rounds_succ]
           go_wp2_with fail
           rw [rounds_succ]
           go_wp2_with fail
           rw [rounds_succ]
           go_wp2_with fail
           rw [rounds_succ]
           go_wp2_with fail
           ((with_reducible refine (store_CopyO _ _ bs es r t w5 (hR.out.mono EBlob.stable hb5.out) (hE.out.mono EEntry.stable hb5.out)).mono ?_); rintro e w6 ⟨v6, u6, rfl, o1, o2, b6⟩)
           obtain ⟨av, cv, rfl⟩ := OX.lenOf o1
           obtain ⟨au, cu, rfl⟩ := OX.lenOf o2
           have rv6 := hid (o1.toR hre hf1.out)
           have ru6 := hid (o2.toR hre2 hf2.out)
           have hp6 := hid (stays b6 hp5.out)
           have hb6 := hid (b_call hb5.out b6)
           have hpl := heap_lt hp6.out
           clear o1 o2 b6 x0 x1 x2 x3 y0 y1 y2 y3 g0 g1 g2 g3 hq5 hp5 hb5
           obtain ⟨y0, y1, y2, y3⟩ := box4f hp6.out
           have g0 := frozen_heap hp6.out 0
           have g1 := frozen_heap hp6.out 1
           have g2 := frozen_heap hp6.out 2
           have g3 := frozen_heap hp6.out 3
           go_wp2_with fail
           ((with_reducible refine (store_tick_ok w6 _ _ r t hc0 hc1 ht).mono ?_); rintro e w7 ⟨rfl, rfl⟩)
           go_wp2_with fail
           ((with_reducible refine (f5.out (.slice au es.length cu) _ (ru6.out.mono EEntry.stable (b_alloc (Below.refl _ _) _)) (hP.out.mono EPart.stable (b_alloc hb6.out _))).mono ?_); rintro e w8 ⟨v8, rfl, r8, b8⟩)
           have hn8 := hid (stays b8 (heap_alloc_new w6 _))
           have hp8 := hid (stays b8 (hold hp6.out))
           have hb8 := hid (b_call (b_alloc hb6.out _) b8)
           have rv8 := hid (rv6.out.mono EBlob.stable (b_call (b_alloc (Below.refl _ _) _) b8))
           clear b8 y0 y1 y2 y3 g0 g1 g2 g3 hp6 hb6 ru6 rv6
           obtain ⟨y0, y1, y2, y3⟩ := box4f hp8.out
           have g0 := frozen_heap hp8.out 0
           have g1 := frozen_heap hp8.out 1
           have g2 := frozen_heap hp8.out 2
           have g3 := frozen_heap hp8.out 3
           go_wp2_with fail
           have hp9 := box4_same (u0 := .slice none 0 0) (u1 := .slice none 0 0) (u2 := .int .i64 0) (u3 := .int .i64 0) hp8.out
           have hb9 := b_box4 hb8.out (q := w.heap.size + 1) (Nat.le_succ _) (.slice none 0 0) (.slice none 0 0) (.int .i64 0) (.int .i64 0)
           obtain ⟨m0, m1, m2, m3⟩ := box4f hp9
           unfold World.box4 at m0 m1 m2 m3 hb9
           (try simp only [Exit.inBlock, Exit.then])
           refine bodyPost_ret qzspx_2 rfl ?_
           exact st_no hd.out hz.out hb9
       have q4 : (z4 != 0) = true := by simp [h4]
       have hd := hid (spE_4 (t := t) (e := e5) h4)
       have hz := hid h4
       clear h4 hc0 hc1 f5
       go_enter Tryz.func252, Tryz.ntmps252
       go_wp2_with fail
       rw [← hw1]
       clear hw1
       have hS := box4f hq1.out
       go_region_held3 (fun w' => w'.cell? ⟨w.heap.size, 0, none⟩ = some (.slice a bs.length c) ∧ w'.cell? ⟨w.heap.size, 1, none⟩ = some (.slice a2 es.length c2) ∧ w'.cell? ⟨w.heap.size, 2, none⟩ = some (.int .i64 r) ∧ w'.cell? ⟨w.heap.size, 3, none⟩ = some (.int .i64 t))
        (first | go_keep | exact hS5 | exact hS4 | exact hS3 | exact hS2 | exact hS | fail)
        ((first
          | ((with_reducible refine (f1.out w1.drew (hR.out.mono EBlob.stable (hb1.out.drew)) (hE.out.mono EEntry.stable (hb1.out.drew))).mono ?_)
             rintro e w2 ⟨rfl, b2⟩
             have hb2 : Below w.heap.size w w2 := b_call hb1.out.drew b2
             have hq2 := stays b2 (show w1.drew.heap[w.heap.size]? = _ from hq1.out)
             have hp2 := stays b2 (show w1.drew.heap[w.heap.size + 1]? = _ from hp1.out)
             have hS2 := box4f hq2)
          | ((with_reducible refine (f2.out w2).mono ?_)
             rintro e w3 ⟨rfl, b3⟩
             have hb3 : Below w.heap.size w w3 := b_call hb2 b3
             have hq3 := stays b3 hq2
             have hp3 := stays b3 hp2
             have hS3 := box4f hq3)
          | ((with_reducible refine (f3.out w3 (hP.out.mono EPart.stable hb3)).mono ?_)
             rintro e w4 ⟨rfl, b4⟩
             have hb4 : Below w.heap.size w w4 := b_call hb3 b4
             have hq4 := stays b4 hq3
             have hp4 := stays b4 hp3
             have hS4 := box4f hq4)
          | ((with_reducible refine (f4.out w4 (hR.out.mono EBlob.stable hb4) (hP.out.mono EPart.stable hb4)).mono ?_)
             rintro e w5 ⟨rfl, b5⟩
             have hb5 : Below w.heap.size w w5 := b_call hb4 b5
             have hq5 := stays b5 hq4
             have hp5 := stays b5 hp4
             have hS5 := box4f hq5)
          | fail))
       replace hb5 := hid hb5
       replace hq5 := hid hq5
       replace hp5 := hid hp5
       obtain ⟨x0, x1, x2, x3⟩ := hS5
       obtain ⟨y0, y1, y2, y3⟩ := box4f hp5.out
       have g0 := frozen_heap hp5.out 0
       have g1 := frozen_heap hp5.out 1
       have g2 := frozen_heap hp5.out 2
       have g3 := frozen_heap hp5.out 3
       clear hS hS2 hS3 hS4 hb2 hb3 hb4 hq2 hq3 hq4 hp2 hp3 hp4 b2 b3 b4 b5 hb1 hq1 hp1 f1 f2 f3 f4
       go_wp2_with fail
       go_rounds 5
       exact qzspx_1
     have q3 : (z3 != 0) = true := by simp [h3]
     have hd := hid (spE_3 (z4 := z4) (t := t) (e := e5) h3)
     have hz := hid h3
     clear h3 hc0 hc1 f5
     go_enter Tryz.func252, Tryz.ntmps252
     go_wp2_with fail
     rw [← hw1]
     clear hw1
     have hS := box4f hq1.out
     go_region_held3 (fun w' => w'.cell? ⟨w.heap.size, 0, none⟩ = some (.slice a bs.length c) ∧ w'.cell? ⟨w.heap.size, 1, none⟩ = some (.slice a2 es.length c2) ∧ w'.cell? ⟨w.heap.size, 2, none⟩ = some (.int .i64 r) ∧ w'.cell? ⟨w.heap.size, 3, none⟩ = some (.int .i64 t))
      (first | go_keep | exact hS5 | exact hS4 | exact hS3 | exact hS2 | exact hS | fail)
      ((first
        | ((with_reducible refine (f1.out w1.drew (hR.out.mono EBlob.stable (hb1.out.drew)) (hE.out.mono EEntry.stable (hb1.out.drew))).mono ?_)
           rintro e w2 ⟨rfl, b2⟩
           have hb2 : Below w.heap.size w w2 := b_call hb1.out.drew b2
           have hq2 := stays b2 (show w1.drew.heap[w.heap.size]? = _ from hq1.out)
           have hp2 := stays b2 (show w1.drew.heap[w.heap.size + 1]? = _ from hp1.out)
           have hS2 := box4f hq2)
        | ((with_reducible refine (f2.out w2).mono ?_)
           rintro e w3 ⟨rfl, b3⟩
           have hb3 : Below w.heap.size w w3 := b_call hb2 b3
           have hq3 := stays b3 hq2
           have hp3 := stays b3 hp2
           have hS3 := box4f hq3)
        | ((with_reducible refine (f3.out w3 (hP.out.mono EPart.stable hb3)).mono ?_)
           rintro e w4 ⟨rfl, b4⟩
           have hb4 : Below w.heap.size w w4 := b_call hb3 b4
           have hq4 := stays b4 hq3
           have hp4 := stays b4 hp3
           have hS4 := box4f hq4)
        | ((with_reducible refine (f4.out w4 (hR.out.mono EBlob.stable hb4) (hP.out.mono EPart.stable hb4)).mono ?_)
           rintro e w5 ⟨rfl, b5⟩
           have hb5 : Below w.heap.size w w5 := b_call hb4 b5
           have hq5 := stays b5 hq4
           have hp5 := stays b5 hp4
           have hS5 := box4f hq5)
        | fail))
     replace hb5 := hid hb5
     replace hq5 := hid hq5
     replace hp5 := hid hp5
     obtain ⟨x0, x1, x2, x3⟩ := hS5
     obtain ⟨y0, y1, y2, y3⟩ := box4f hp5.out
     have g0 := frozen_heap hp5.out 0
     have g1 := frozen_heap hp5.out 1
     have g2 := frozen_heap hp5.out 2
     have g3 := frozen_heap hp5.out 3
     clear hS hS2 hS3 hS4 hb2 hb3 hb4 hq2 hq3 hq4 hp2 hp3 hp4 b2 b3 b4 b5 hb1 hq1 hp1 f1 f2 f3 f4
     go_wp2_with fail
     go_rounds 4
     exact qzspx_1
   have q2 : (z2 != 0) = true := by simp [h2]
   have hd := hid (spE_2 (z3 := z3) (z4 := z4) (t := t) (e := e5) h2)
   have hz := hid h2
   clear h2 hc0 hc1 f5
   go_enter Tryz.func252, Tryz.ntmps252
   go_wp2_with fail
   rw [← hw1]
   clear hw1
   have hS := box4f hq1.out
   go_region_held3 (fun w' => w'.cell? ⟨w.heap.size, 0, none⟩ = some (.slice a bs.length c) ∧ w'.cell? ⟨w.heap.size, 1, none⟩ = some (.slice a2 es.length c2) ∧ w'.cell? ⟨w.heap.size, 2, none⟩ = some (.int .i64 r) ∧ w'.cell? ⟨w.heap.size, 3, none⟩ = some (.int .i64 t))
    (first | go_keep | exact hS5 | exact hS4 | exact hS3 | exact hS2 | exact hS | fail)
    ((first
      | ((with_reducible refine (f1.out w1.drew (hR.out.mono EBlob.stable (hb1.out.drew)) (hE.out.mono EEntry.stable (hb1.out.drew))).mono ?_)
         rintro e w2 ⟨rfl, b2⟩
         have hb2 : Below w.heap.size w w2 := b_call hb1.out.drew b2
         have hq2 := stays b2 (show w1.drew.heap[w.heap.size]? = _ from hq1.out)
         have hp2 := stays b2 (show w1.drew.heap[w.heap.size + 1]? = _ from hp1.out)
         have hS2 := box4f hq2)
      | ((with_reducible refine (f2.out w2).mono ?_)
         rintro e w3 ⟨rfl, b3⟩
         have hb3 : Below w.heap.size w w3 := b_call hb2 b3
         have hq3 := stays b3 hq2
         have hp3 := stays b3 hp2
         have hS3 := box4f hq3)
      | ((with_reducible refine (f3.out w3 (hP.out.mono EPart.stable hb3)).mono ?_)
         rintro e w4 ⟨rfl, b4⟩
         have hb4 : Below w.heap.size w w4 := b_call hb3 b4
         have hq4 := stays b4 hq3
         have hp4 := stays b4 hp3
         have hS4 := box4f hq4)
      | ((with_reducible refine (f4.out w4 (hR.out.mono EBlob.stable hb4) (hP.out.mono EPart.stable hb4)).mono ?_)
         rintro e w5 ⟨rfl, b5⟩
         have hb5 : Below w.heap.size w w5 := b_call hb4 b5
         have hq5 := stays b5 hq4
         have hp5 := stays b5 hp4
         have hS5 := box4f hq5)
      | fail))
   replace hb5 := hid hb5
   replace hq5 := hid hq5
   replace hp5 := hid hp5
   obtain ⟨x0, x1, x2, x3⟩ := hS5
   obtain ⟨y0, y1, y2, y3⟩ := box4f hp5.out
   have g0 := frozen_heap hp5.out 0
   have g1 := frozen_heap hp5.out 1
   have g2 := frozen_heap hp5.out 2
   have g3 := frozen_heap hp5.out 3
   clear hS hS2 hS3 hS4 hb2 hb3 hb4 hq2 hq3 hq4 hp2 hp3 hp4 b2 b3 b4 b5 hb1 hq1 hp1 f1 f2 f3 f4
   go_wp2_with fail
   go_rounds 3
   exact qzspx_1
 have q1 : (z1 != 0) = true := by simp [h1]
 have hd := hid (spE_1 (z2 := z2) (z3 := z3) (z4 := z4) (t := t) (e := e5) h1)
 have hz := hid h1
 clear h1 hc f5
 go_enter Tryz.func252, Tryz.ntmps252
 go_wp2_with fail
 rw [← hw1]
 clear hw1
 have hS := box4f hq1.out
 go_region_held3 (fun w' => w'.cell? ⟨w.heap.size, 0, none⟩ = some (.slice a bs.length c) ∧ w'.cell? ⟨w.heap.size, 1, none⟩ = some (.slice a2 es.length c2) ∧ w'.cell? ⟨w.heap.size, 2, none⟩ = some (.int .i64 r) ∧ w'.cell? ⟨w.heap.size, 3, none⟩ = some (.int .i64 t))
  (first | go_keep | exact hS5 | exact hS4 | exact hS3 | exact hS2 | exact hS | fail)
  ((first
    | ((with_reducible refine (f1.out w1.drew (hR.out.mono EBlob.stable (hb1.out.drew)) (hE.out.mono EEntry.stable (hb1.out.drew))).mono ?_)
       rintro e w2 ⟨rfl, b2⟩
       have hb2 : Below w.heap.size w w2 := b_call hb1.out.drew b2
       have hq2 := stays b2 (show w1.drew.heap[w.heap.size]? = _ from hq1.out)
       have hp2 := stays b2 (show w1.drew.heap[w.heap.size + 1]? = _ from hp1.out)
       have hS2 := box4f hq2)
    | ((with_reducible refine (f2.out w2).mono ?_)
       rintro e w3 ⟨rfl, b3⟩
       have hb3 : Below w.heap.size w w3 := b_call hb2 b3
       have hq3 := stays b3 hq2
       have hp3 := stays b3 hp2
       have hS3 := box4f hq3)
    | ((with_reducible refine (f3.out w3 (hP.out.mono EPart.stable hb3)).mono ?_)
       rintro e w4 ⟨rfl, b4⟩
       have hb4 : Below w.heap.size w w4 := b_call hb3 b4
       have hq4 := stays b4 hq3
       have hp4 := stays b4 hp3
       have hS4 := box4f hq4)
    | ((with_reducible refine (f4.out w4 (hR.out.mono EBlob.stable hb4) (hP.out.mono EPart.stable hb4)).mono ?_)
       rintro e w5 ⟨rfl, b5⟩
       have hb5 : Below w.heap.size w w5 := b_call hb4 b5
       have hq5 := stays b5 hq4
       have hp5 := stays b5 hp4
       have hS5 := box4f hq5)
    | fail))
 replace hb5 := hid hb5
 replace hq5 := hid hq5
 replace hp5 := hid hp5
 obtain ⟨x0, x1, x2, x3⟩ := hS5
 obtain ⟨y0, y1, y2, y3⟩ := box4f hp5.out
 have g0 := frozen_heap hp5.out 0
 have g1 := frozen_heap hp5.out 1
 have g2 := frozen_heap hp5.out 2
 have g3 := frozen_heap hp5.out 3
 clear hS hS2 hS3 hS4 hb2 hb3 hb4 hq2 hq3 hq4 hp2 hp3 hp4 b2 b3 b4 b5 hb1 hq1 hp1 f1 f2 f3 f4
 go_wp2_with fail
 go_rounds 2
 exact qzspx_1
def spX (s : ByteArray) (ps : List Part) (t : Int) : Entry := ⟨s, ps, 0, t + 1⟩
def spsE (bs : List Blob) (es : List Entry) (r t : Int) (s : ByteArray) (ps : List Part) : Int := spE (storeFault bs es r t) (hexFault s) (partsFault ps) (thereFault bs ps) t (putsE (spX s ps t) es)
theorem store_Put (v u b : Value) (bs : List Blob) (es : List Entry) (r t : Int) (s : ByteArray) (ps : List Part) (w : World) (h : RBl w v bs) (g : RE w u es) (gp : RP w b ps) (hs : s.size ≤ 140737488351232) :
 Calls Tryz.prog 252 #[.agg #[v, u, .int .i64 r, .int .i64 t], .string s, b] w (StRes (spsE bs es r t s ps) ⟨bs, putL (spX s ps t) es, r, t + 1⟩ w) :=
 store_Put' v u b bs es r t s ps w h g gp _ _ _ _ _ _ (fun w h g => store_Check v u bs es r t w h g) (fun w => hex_Check_any s w hs) (fun w h => manifest_Check b ps w h) (fun w h g => store_have v b bs ps w h g)
  (fun hz v w h gp => index_Put v b es (spX s ps t) w h gp (fit_of gp ⟨hs, show (Lit.int .i64 0).wf = true by decide, wf_small (by have := clock_of hz; show 0 ≤ t + 1; omega) (by have := clock_of hz; show t + 1 ≤ _; omega)⟩)) clock_of
end Go.Proofs.YtpkpgehiplhkpaaGreat
