import Derived.Test.YtpkpgehiplhkpaaGreatTzSwb
import Derived.Lib.AppendZerosOnto
namespace Go.Proofs.YtpkpgehiplhkpaaGreat
open Go.RowKit
theorem qzpbx_3 {P : Prop} (h : P := by simp) : P := h
theorem qzpbx_2 {P : Prop} (h : P := by omega) : P := h
theorem qzpbx_1 {P : Prop} (h : P := by simp [results, Tryz.results208, go_sem, m0, m1, m2, m3]; try rfl) : P := h
set_option maxRecDepth 100000 in
set_option maxHeartbeats 400000 in
theorem put1_B (x : Blob) (a : Option Addr) (n c : Nat) (s : ByteArray) (w : World) :
 Calls Tryz.prog 272 #[.agg #[.string x.digest, .slice a n c, .int .i64 x.pins, .bool x.mark], .string s] w fun e w' => e = .returned (.int .i64 (cmpB x.digest s)) ∧ Below w.heap.size w w' := by
 have h := fun W => Tryz.strings_Compare x.digest s W
 rw [cmpB_eq] at h
 replace h := hid h
 go_enter Tryz.func272, Tryz.ntmps272
 go_wp2_with fail
 ((with_reducible refine (h.out _).mono ?_); rintro e w1 ⟨rfl, rfl⟩)
 go_wp2_with fail
 go_ret
 exact ⟨rfl, b_alloc (Below.refl _ _) _⟩
set_option maxRecDepth 100000 in
set_option maxHeartbeats 1000000 in
theorem bin_B (v : Value) (l : List Blob) (s : ByteArray) (w : World) (h : RBl w v l) (hr : Rising (fun x : Blob => x.digest) l) :
 Calls Tryz.prog 271 #[v, .string s, .func (.func 272) #[] #[]] w fun e w' =>
  e = .returned (.tuple #[.int .i64 (lowAt (fun x : Blob => x.digest) s l : Nat), .bool (hasKey (fun x : Blob => x.digest) s l)]) ∧ Below w.heap.size w w' := by
 obtain ⟨a, c, rfl, hlc, hcm, hre, hno, hat⟩ := h
 unfold maxLen at hcm
 replace hat := hid hat
 have eg := enters_of Tryz.func272 (by kernel_rfl) rfl
 have hput := hid (fun x a n c W => put1_B x a n c s W)
 have honly := hid (fun i (hi : i ≤ l.length) h1 h2 => lowAt_only (key := fun x : Blob => x.digest) (s := s) hi h1 h2)
 have hhas := hid (fun x (hx : l[lowAt (fun x : Blob => x.digest) s l]? = some x) => hasKey_some hx)
 have hnot := hid (fun (hx : l[lowAt (fun x : Blob => x.digest) s l]? = none) => hasKey_none hx)
 replace hr := hid hr
 generalize lowAt (fun x : Blob => x.digest) s l = cnt at *
 generalize hasKey (fun x : Blob => x.digest) s l = fin at *
 clear hno
 go_enter Tryz.func271, Tryz.ntmps271
 go_wp2_with fail
 go_loopg [9, 10] l.length (fun kx s9 s10 wr => ∃ lo hi : Nat, s9 = .int .i64 lo ∧ s10 = .int .i64 hi ∧ lo ≤ hi ∧ hi ≤ l.length ∧ hi - lo ≤ kx ∧ Hid (Below w.heap.size w wr) ∧
  Hid ((∀ j x, j < lo → l[j]? = some x → slt x.digest s = true) ∧ (∀ j x, hi ≤ j → l[j]? = some x → slt x.digest s = false)))
 case atStart => exact ⟨0, l.length, rfl, rfl, Nat.zero_le _, Nat.le_refl _, by omega, hid (Below.refl _ _), hid ⟨fun j x hj => absurd hj (Nat.not_lt_zero _), fun j x h1 h2 => by rw [List.getElem?_eq_none h1] at h2; cases h2⟩⟩
 obtain ⟨lo, hi, rfl, rfl, hlh, hin, hg, hb, I⟩ := hrel
 by_cases hlt : lo < hi
 · have hm : (lo + hi) / 2 < l.length := by omega
   have hx : l[(lo + hi) / 2]? = some l[(lo + hi) / 2] := List.getElem?_eq_getElem hm
   generalize l[(lo + hi) / 2] = x at hx
   obtain ⟨bb, off, rfl, hbb, he⟩ := hat.out _ x hx
   obtain ⟨dv, c0, c1, c2, c3, rdv, okx⟩ := EBlob.stable _ _ _ _ _ hb.out hbb he
   obtain ⟨da, dc, rfl, -⟩ := id rdv
   have hcall := hput.out x da x.data.length dc wr
   have hx' := hid hx
   clear he hx rdv okx
   cases hk : slt x.digest s with
   | true =>
     rw [cmpB_lt hk] at hcall
     have I2 := hid (show (∀ j x, j < (lo + hi) / 2 + 1 → l[j]? = some x → slt x.digest s = true) ∧ (∀ j x, hi ≤ j → l[j]? = some x → slt x.digest s = false) from ⟨fun j y hj hy => rising_low hr.out hx'.out hk qzpbx_2 hy, I.out.2⟩)
     replace hcall := hid hcall
     clear hk
     go_wp2_with fail
     ((with_reducible refine hcall.out.mono ?_); rintro e w1 ⟨rfl, b1⟩)
     have hb1 := hid (b_call hb.out b1)
     clear b1
     go_wp2_with fail
     go_roundg (hi - ((lo + hi) / 2 + 1))
     case measure => omega
     case rel => exact ⟨(lo + hi) / 2 + 1, hi, by rw [show ((lo : Int) + (hi : Int)) / 2 + 1 = (((lo + hi) / 2 + 1 : Nat) : Int) by omega], rfl, by omega, hin, Nat.le_refl _, hb1, I2⟩
   | false =>
     have I2 := hid (show (∀ j x, j < lo → l[j]? = some x → slt x.digest s = true) ∧ (∀ j x, (lo + hi) / 2 ≤ j → l[j]? = some x → slt x.digest s = false) from ⟨I.out.1, fun j y hj hy => rising_high hr.out hx'.out hk hj hy⟩)
     obtain ⟨z, hz, hz0⟩ := cmpB_ge hk
     rw [hz] at hcall
     have q : decide (z < 0) = false := by simp; omega
     replace hcall := hid hcall
     replace hz := hid hz
     clear hk hz0
     go_wp2_with fail
     ((with_reducible refine hcall.out.mono ?_); rintro e w1 ⟨rfl, b1⟩)
     have hb1 := hid (b_call hb.out b1)
     clear b1
     go_wp2_with fail
     go_roundg ((lo + hi) / 2 - lo)
     case measure => omega
     case rel => exact ⟨lo, (lo + hi) / 2, rfl, by rw [show ((lo : Int) + (hi : Int)) / 2 = (((lo + hi) / 2 : Nat) : Int) by omega], by omega, by omega, Nat.le_refl _, hb1, I2⟩
 obtain rfl : hi = lo := by omega
 have ecnt := honly.out hi hin I.out.1 (fun x hx => I.out.2 hi x (Nat.le_refl _) hx)
 subst ecnt
 by_cases hn : cnt < l.length
 · have hx : l[cnt]? = some l[cnt] := List.getElem?_eq_getElem hn
   generalize l[cnt] = x at hx
   obtain ⟨bb, off, rfl, hbb, he⟩ := hat.out _ x hx
   obtain ⟨dv, c0, c1, c2, c3, rdv, okx⟩ := EBlob.stable _ _ _ _ _ hb.out hbb he
   obtain ⟨da, dc, rfl, -⟩ := id rdv
   have hcall := hput.out x da x.data.length dc wr
   have hfin : Hid (fin = (x.digest.toList == s.toList)) := hid (hhas.out x hx)
   clear he hx rdv okx
   have hz := cmpB_zero x.digest s
   generalize cmpB x.digest s = z at *
   have q : (z == 0) = fin := by rw [hfin.out, hz]
   replace hcall := hid hcall
   replace hz := hid hz
   go_wp2_with fail
   ((with_reducible refine hcall.out.mono ?_); rintro e w1 ⟨rfl, b1⟩)
   have hb1 := hid (b_call hb.out b1)
   clear b1
   go_wp2_with fail
   go_ret2
   exact ⟨rfl, hb1.out⟩
 have hfin : Hid (fin = false) := hid (hnot.out (List.getElem?_eq_none qzpbx_2))
 go_wp2_with fail
 go_ret2
 rw [hfin.out]
 exact ⟨rfl, hb.out⟩
theorem run_copy_row_s {P : Program} (w : World) (dT sT ty elem : TypeId) (s g o dLen dCap : Nat) (a : Addr) (sLen sCap : Nat) (cur : Array Value) (t : TypeId) (cs : List Value)
 (hu : P.underlying dT = some (.slice elem)) (hs : (P.info? elem).map (·.size) = some s)
 (hg : w.heap[g]? = some (.cells cur t (0, 0))) (hn : cs.length = Nat.min sLen dLen * s)
 (hsrc : ∀ j v, cs[j]? = some v → w.cell? (a.add j) = some v) (hfit : o + cs.length ≤ cur.size) (h1 : ∀ v ∈ cs, v.oneCell' = true) :
 (Builtin.copy_ #[dT, sT] ty #[.slice (some ⟨g, o, none⟩) dLen dCap, .slice (some a) sLen sCap]).run P w =
   .ok (goInt (Nat.min sLen dLen)) (w.setRow g (splice cur.toList o cs).toArray) := by
 have hl := run_loadCells_list (P := P) w a cs hsrc
 have hst := run_storeCells_at P g o t cs 0 cur w hg (by simpa using hfit) h1
 cases hq : P.info? elem with
 | none => simp [hq] at hs
 | some i =>
   have hi : i.size = s := by simpa [hq] using hs
   simp [Builtin.copy_, run_underlying hu, Builtin.lenOf, Builtin.firstCells, sizeOf, typeInfo, hq, hi, ← hn, hl, hst, splice]
theorem wpList_copy_s {P : Program} {w : World} {ops : Array Oper} {rest : List Oper} {o : Oper} {a : Act} {Q : Exit → Act → World → Prop} (hgd : o.guard = none) (d x : Operand) (dT sT : TypeId)
 (ho : o.op = .call { callee := .builtin .copy, args := #[d, x], argTypes := #[dT, sT] }) (elem : TypeId) (s : Nat) (hu : P.underlying dT = some (.slice elem)) (hsz : (P.info? elem).map (·.size) = some s)
 (g off dLen dCap : Nat) (ad : Addr) (sLen sCap : Nat) (hd : a.eval d = .slice (some ⟨g, off, none⟩) dLen dCap) (hs : a.eval x = .slice (some ad) sLen sCap)
 (cur : List Value) (t : TypeId) (hg : w.heap[g]? = some (.cells cur.toArray t (0, 0))) (cs : List Value) (hn : cs.length = Nat.min sLen dLen * s)
 (hsrc : ∀ j v, cs[j]? = some v → w.cell? (ad.add j) = some v) (hfit : off + cs.length ≤ cur.length) (h1 : ∀ v ∈ cs, v.oneCell' = true)
 (h : ∀ w', Hid (w'.heap[g]? = some (.cells (splice cur off cs).toArray t (0, 0))) → w.grownBy w' (some g) → wpList P ops Q rest (a.put o.dst (goInt (Nat.min sLen dLen))) w') : wpList P ops Q (o :: rest) a w := by
 refine wpList_plain hgd fun K hK => ?_
 have hrun := run_copy_row_s (P := P) w dT sT o.type elem s g off dLen dCap ad sLen sCap cur.toArray t cs hu hsz hg hn hsrc (by simpa using hfit) h1
 unfold Oper.wp
 simp [execOp, ho, resolve, invoke, builtin, hd, hs, hrun, Result.andThen]
 exact hK _ _ (h _ (show _ = _ by simpa using setRow_heap w g _ _ t _ hg) ⟨rfl, rfl, rfl, by simp [World.setRow], fun k _ hk => setRow_other w g k _ (fun e => hk (by simp [e]))⟩)
theorem OS.cellsAt {α : Type} {e : TypeId} {s B g n cap : Nat} {cells : α → List Value} {w : World} {l : List α} (h : OS e s cells w B (.slice (some ⟨g, 0, none⟩) n cap) l) : ∀ j u, (l.flatMap cells)[j]? = some u → w.cell? ⟨g, j, none⟩ = some u := by
 intro j u hj
 have hlt := (List.getElem?_eq_some_iff.1 hj).1
 obtain ⟨_, _, hv, -⟩ := OS.len_le h
 simp only [Value.slice.injEq] at hv
 obtain ⟨-, rfl, -⟩ := hv
 have := World.ownsRow.cellAt h j (by have := h.1; omega)
 rw [this, hj]
theorem splice2 (A R T Z : List Value) (Z1 : List Value) :
 (splice (splice (A ++ Z1 ++ Z) A.length R) (A.length + R.length) T).take (A.length + R.length + T.length) = A ++ R ++ T := by
 have e1 : splice (A ++ Z1 ++ Z) A.length R = A ++ R ++ (Z1 ++ Z).drop R.length := by
  unfold splice
  rw [List.append_assoc A Z1 Z, List.take_left, List.drop_append, List.drop_eq_nil_of_le (by omega : A.length ≤ A.length + R.length), Nat.add_sub_cancel_left]
  simp
 rw [e1]
 unfold splice
 rw [show A.length + R.length = (A ++ R).length by simp, List.take_left, show (A ++ R).length + T.length = ((A ++ R) ++ T).length by simp [Nat.add_assoc], ← List.append_assoc, List.take_left]
theorem splice2_len (A R T Z : List Value) (Z1 : List Value) (hZ : Z1.length = R.length + T.length) : (splice (splice (A ++ Z1 ++ Z) A.length R) (A.length + R.length) T).length = A.length + Z1.length + Z.length := by
 rw [length_splice, length_splice]
 · simp [Nat.add_assoc]
 · simp; omega
 rw [length_splice] <;> simp <;> omega
def OwnedBlob (l : List Blob) (B : Nat) (w : World) (e : Ending) (w' : World) : Prop := ∃ v', e = .returned v' ∧ OBlob w' B v' l ∧ Below B w w'
set_option maxRecDepth 100000 in
set_option maxHeartbeats 1000000 in
theorem slices_Insert_B (l : List Blob) (i B g : Nat) (x : Blob) (ca : Option Addr) (cc q : Nat) (w : World) (h : OBlob w B (.slice (some ⟨g, 0, none⟩) l.length l.length) l) (hi : i ≤ l.length) (hB : B ≤ w.heap.size)
 (hbs : (l.length + 1) * 56 ≤ 140737488351232) (hrow : RS 4 56 (ERaw (xc cBlob (·.data))) w (.slice (some ⟨q, 0, none⟩) 1 1) [⟨x, ca, cc⟩]) (hcr : CO 5 1 cU8 B w (.slice ca x.data.length cc) x.data) :
 Calls Tryz.prog 275 #[.slice (some ⟨g, 0, none⟩) l.length l.length, .int .i64 i, .slice (some ⟨q, 0, none⟩) 1 1] w (OwnedBlob (l.take i ++ x :: l.drop i) B w) := by
 obtain ⟨i0, hi0, hz0, hz1, hz2⟩ := info_parts info_B
 obtain ⟨rs, rfl, hown, hcs⟩ := h
 simp only [List.length_map] at hi hbs hown ⊢
 unfold OwnedBlob
 have hn := (show rs.length ≤ 140737488351232 by omega)
 have hgw := (World.ownsRow.lt hown g (by simp [Value.ownBlock])).2
 have hgB := (World.ownsRow.lt hown g (by simp [Value.ownBlock])).1
 have hown0 := hid hown
 replace hrow := hid hrow
 replace hcs := hid hcs
 replace hcr := hid hcr
 by_cases hin : i = rs.length
 · subst hin
   have hl : (rs.map (·.x)).take rs.length ++ x :: (rs.map (·.x)).drop rs.length = rs.map (·.x) ++ [x] := by
    rw [List.take_of_length_le qzpbx_3, List.drop_eq_nil_of_le qzpbx_3]
   rw [hl]
   clear hl hown hgw hgB
   go_enter Tryz.func275, Tryz.ntmps275
   go_wp2_with (at_builtin; go_must (refine wpL_append flat_cBlob (by rfl) (.tmp 23) (.tmp 24) 26 (by rfl) 50 i0 _ Tryz.underlying26 hi0 hz0 hz1 hz2 rfl B _ rs (by rfl) hown0.out _ [⟨x, ca, cc⟩] (by rfl) hrow.out (by simp; omega) (by simp [maxLen]; omega) hB ?_))
   intro v' w1 hown1 hg
   have hO := hid (OX.grow (e' := 5) hown1 hg hown0.out (by decide) hcs.out hcr.out)
   have hb := hid ((Below.refl B w).grown hg hB (fun k hk => OS.block hown0.out k hk))
   clear hown1 hg hown0 hcs hcr hrow
   go_wp2_with fail
   go_ret
   exact ⟨_, rfl, hO.out, hb.out⟩
 have hlt : i < rs.length := by omega
 have hsz : (Tryz.prog.info? 50).map (·.size) = some 4 := by rw [hi0]; simp [hz1]
 have hap : rs.flatMap (xc cBlob (·.data)) = (rs.take i).flatMap (xc cBlob (·.data)) ++ (rs.drop i).flatMap (xc cBlob (·.data)) := by rw [← List.flatMap_append, List.take_append_drop]
 have hAl : ((rs.take i).flatMap (xc cBlob (·.data))).length = i * 4 := by rw [flat_len xcBlob_len, List.length_take]; rw [Nat.min_eq_left hi]
 have hTl : ((rs.drop i).flatMap (xc cBlob (·.data))).length = (rs.length - i) * 4 := by rw [flat_len xcBlob_len, List.length_drop]
 have hca := OS.cellsAt hown
 have hone : ∀ m : List (XR Blob), ∀ u ∈ m.flatMap (xc cBlob (·.data)), u.oneCell' = true := fun m u hu => by
  obtain ⟨r, _, hr⟩ := List.mem_flatMap.1 hu
  exact xcBlob_one r u hr
 have hRl : (xc cBlob (·.data) (⟨x, ca, cc⟩ : XR Blob)).length = 4 := rfl
 have hR1 : ∀ u ∈ xc cBlob (·.data) (⟨x, ca, cc⟩ : XR Blob), u.oneCell' = true := fun u hu => xcBlob_one _ u hu
 have hqw : q < w.heap.size ∧ ∀ j u, (xc cBlob (·.data) (⟨x, ca, cc⟩ : XR Blob))[j]? = some u → w.cell? ⟨q, j, none⟩ = some u := by
  obtain ⟨_, _, hv, -, -, -, -, hat⟩ := hrow.out
  obtain ⟨b, off, hb, hbl, he⟩ := hat 0 _ rfl
  simp only [List.length_cons, List.length_nil, Value.slice.injEq] at hv
  rw [← hv.1] at hb
  simp only [Option.some.injEq, Addr.mk.injEq, and_true] at hb
  obtain ⟨rfl, rfl⟩ := hb
  exact ⟨hbl, fun j u hj => by have := he j u hj; simpa using this⟩
 have hfl : (rs.take i ++ ⟨x, ca, cc⟩ :: rs.drop i).flatMap (xc cBlob (·.data)) = (rs.take i).flatMap (xc cBlob (·.data)) ++ xc cBlob (·.data) (⟨x, ca, cc⟩ : XR Blob) ++ (rs.drop i).flatMap (xc cBlob (·.data)) := by
  rw [List.flatMap_append, List.flatMap_cons, List.append_assoc]
 rw [hap] at hca
 have ho1 := hone (rs.take i)
 have ho2 := hone (rs.drop i)
 clear hap hone
 generalize hA : (rs.take i).flatMap (xc cBlob (·.data)) = A at *
 generalize hT : (rs.drop i).flatMap (xc cBlob (·.data)) = T at *
 generalize hR : xc cBlob (·.data) (⟨x, ca, cc⟩ : XR Blob) = R at *
 have hhold : (Builtin.firstCells i0.size i (.slice (some ⟨g, 0, none⟩) i rs.length)).run Tryz.prog w.drew = .ok A.toArray w.drew := by
  rw [hz1]
  exact run_firstCells_some (w := w.drew) 4 i ⟨g, 0, none⟩ i rs.length A hAl (fun j u hj => by
   rw [Addr.add_lit, Nat.zero_add]
   exact hca j u (by rw [List.getElem?_append_left (List.getElem?_eq_some_iff.1 hj).1]; exact hj))
 obtain ⟨G, hG⟩ : ∃ G, G = grownCap w (rs.length + 1) rs.length 50 := ⟨_, rfl⟩
 have hGn : rs.length + 1 ≤ G := by rw [hG]; exact grownCap_ge w _ _ _
 have hGm : G ≤ maxLen := by rw [hG]; exact grownCap_le_maxLen w _ _ _ (by simp [maxLen]; omega)
 obtain ⟨Z1, hZ1⟩ : ∃ Z1, Z1 = (Builtin.zeroCells (Value.agg #[.string ⟨#[]⟩, .slice none 0 0, .int .i64 0, .bool false]).cells (rs.length + 1 - i)).toList := ⟨_, rfl⟩
 obtain ⟨Z2, hZ2⟩ : ∃ Z2, Z2 = (Builtin.zeroCells (Value.agg #[.string ⟨#[]⟩, .slice none 0 0, .int .i64 0, .bool false]).cells (G - (rs.length + 1))).toList := ⟨_, rfl⟩
 have hik : i + (rs.length + 1 - i) = rs.length + 1 := by omega
 have hkk : (rs.length : Int) + 1 - (i : Int) = ((rs.length + 1 - i : Nat) : Int) := by omega
 have hrz : ∀ ty, (Builtin.append_ #[26, 3] ty #[.slice (some ⟨g, 0, none⟩) i rs.length, .int .i64 ((rs.length : Int) + 1 - (i : Int))]).run Tryz.prog w =
  .ok (.slice (some ⟨w.heap.size, 0, none⟩) (rs.length + 1) G) (w.drew.alloc (.cells (A ++ Z1 ++ Z2).toArray 50)) := fun ty => by
  have h := Lib.run_append_grow_zeros (P := Tryz.prog) w 26 3 ty 50 i0 _ .i64 .i64 Tryz.underlying26 Tryz.underlying3 hi0 hz0 (some ⟨g, 0, none⟩) i rs.length A hhold (rs.length + 1 - i) qzpbx_2 qzpbx_2 qzpbx_2 qzpbx_2 (by rw [hz2]; omega) (by rw [hz2, hik]; exact growslice_fits qzpbx_2 qzpbx_2)
  rw [hik] at h
  rw [hkk, h, hG, hZ1, hZ2, hG]
  congr 4
  simp
 have hZl : Z1.length = R.length + T.length := by
  rw [hZ1, Array.length_toList, size_zeroCells, hRl, hTl]
  show (rs.length + 1 - i) * 4 = 4 + (rs.length - i) * 4
  omega
 have hZ2l : Z2.length = (G - (rs.length + 1)) * 4 := by
  rw [hZ2, Array.length_toList, size_zeroCells]
  rfl
 obtain ⟨W1, hrz', hh1, hb1⟩ : ∃ W1, (∀ ty, (Builtin.append_ #[26, 3] ty #[.slice (some ⟨g, 0, none⟩) i rs.length, .int .i64 ((rs.length : Int) + 1 - (i : Int))]).run Tryz.prog w =
  .ok (.slice (some ⟨w.heap.size, 0, none⟩) (rs.length + 1) G) W1) ∧ W1.heap[w.heap.size]? = some (.cells (A ++ Z1 ++ Z2).toArray 50 (0, 0)) ∧ Below w.heap.size w W1 :=
  ⟨_, hrz, heap_alloc_new w.drew _, b_alloc (Below.refl _ w).drew _⟩
 obtain ⟨L0, hL0⟩ : ∃ L0, L0 = A ++ Z1 ++ Z2 := ⟨_, rfl⟩
 rw [← hL0] at hh1
 have hL0l : L0.length = G * 4 := by rw [hL0, List.length_append, List.length_append, hAl, hZl, hRl, hTl, hZ2l]; omega
 have hq1 := hid (fun j u (hj : R[j]? = some u) => show W1.cell? ((⟨q, 0, none⟩ : Addr).add j) = some u by rw [Addr.add_lit, Nat.zero_add, (bcell hb1).1 q j hqw.1]; exact hqw.2 j u hj)
 have hnR := hid (show R.length = Nat.min 1 (rs.length + 1 - i) * 4 by rw [hRl, show Nat.min 1 (rs.length + 1 - i) = 1 from Nat.min_eq_left qzpbx_2])
 have hfR := hid (show i * 4 + R.length ≤ L0.length by omega)
 have hA1 := hid (fun j u (hj : T[j]? = some u) => show W1.cell? ((⟨g, i * 4, none⟩ : Addr).add j) = some u by rw [Addr.add_lit, (bcell hb1).1 g _ hgw]; exact hca (i * 4 + j) u (by rw [List.getElem?_append_right qzpbx_2, hAl, Nat.add_sub_cancel_left]; exact hj))
 replace hh1 := hid hh1
 replace hb1 := hid hb1
 replace hL0 := hid hL0
 have hs1 : w.heap.size < W1.heap.size := heap_lt hh1.out
 have hGi : ¬ (G = i) := by omega
 have hGi1 : ¬ (G = i + 1) := by omega
 have hni : ¬ (rs.length = i) := by omega
 have q1 : ((i : Int) == (rs.length : Int)) = false := by simp; omega
 have g1 : (0 : Int) ≤ (i : Int) := by omega
 have g2 : (i : Int) ≤ (rs.length : Int) := by omega
 have g3 : (i : Int) + 1 ≤ (rs.length : Int) + 1 := by omega
 have g4 : IntKind.i64.wrap ((i : Int) + 1) = (i : Int) + 1 := IntWalk.i64_in _ qzpbx_2
 have g5 : ((i : Int) + 1).toNat = i + 1 := by omega
 have g6 : i ≤ rs.length := hi
 have hg0 : (0 : Int) ≤ (i : Int) + 1 := by omega
 have ho2' := hid ho2
 have hR1' := hid hR1
 have hfl' := hid hfl
 have hG' := hid hGm
 have hAl' := hid hAl
 have hTl' := hid hTl
 have hZl' := hid hZl
 have hRl' := hid hRl
 have hZ2l' := hid hZ2l
 have hL0l' := hid hL0l
 clear hrz hca hqw hhold hkk hik hZ1 hZ2 hown hA hT hR hG ho1 ho2 hR1 hfl hGm hAl hTl hZl hRl hZ2l hL0l hn
 go_enter Tryz.func275, Tryz.ntmps275
 go_wp2_with (first
  | (at_builtin; refine Lib.wpList_append_run _ (by rfl) (.tmp 34) (.tmp 39) 26 3 (by rfl) _ _ (by rfl) (by rfl) _ _ (hrz' _) ?_)
  | (with_reducible refine wpList_copy_s rfl (.tmp 43) (.tmp 44) 26 26 rfl 50 4 Tryz.underlying26 hsz w.heap.size (i * 4) (rs.length + 1 - i) (G - i) ⟨q, 0, none⟩ 1 1 rfl rfl L0 50 hh1.out R hnR.out hq1.out hfR.out hR1'.out ?_))
 intro W2 hh2 hg2
 have hA2 := hid (fun j u (hj : T[j]? = some u) => show W2.cell? ((⟨g, i * 4, none⟩ : Addr).add j) = some u by
  have h1 := hA1.out j u hj
  rw [Addr.add_lit] at h1 ⊢
  rw [hg2.cell_far _ (by simp; omega) (fun e => by simp at e; omega)]
  exact h1)
 have hs2 := hg2.size
 have hL1l := hid (show (splice L0 (i * 4) R).length = G * 4 by rw [length_splice _ _ _ hfR.out, hL0l'.out])
 have hnT := hid (show T.length = Nat.min (rs.length - i) (rs.length - i) * 4 by rw [hTl'.out, show Nat.min (rs.length - i) (rs.length - i) = rs.length - i from Nat.min_self _])
 have hfT := hid (show (i + 1) * 4 + T.length ≤ (splice L0 (i * 4) R).length by rw [hL1l.out, hTl'.out]; omega)
 have hb2 := hid (hb1.out.grown hg2 qzpbx_2 (fun k hk => by simp at hk; omega))
 clear hA1 hq1 hnR hfR hg2 hh1 hb1
 go_wp2_with fail
 go_still_tail 8, (by kernel_rfl)
 change wpList _ _ _ _ _ W2.drew
 have hh2d : Hid (W2.drew.heap[w.heap.size]? = some (.cells (splice L0 (i * 4) R).toArray 50 (0, 0))) := hh2
 have hA2d : Hid (∀ j u, T[j]? = some u → W2.drew.cell? ((⟨g, i * 4, none⟩ : Addr).add j) = some u) := hA2
 clear hh2 hA2
 go_wp2_with (with_reducible refine wpList_copy_s rfl (.tmp 50) (.tmp 53) 26 26 rfl 50 4 Tryz.underlying26 hsz w.heap.size ((i + 1) * 4) (rs.length - i) (G - (i + 1)) ⟨g, i * 4, none⟩ (rs.length - i) (rs.length - i) rfl rfl (splice L0 (i * 4) R) 50 hh2d.out T hnT.out hA2d.out hfT.out ho2'.out ?_)
 intro W3 hh3 hg3
 have hb3 : Hid (Below w.heap.size w W3) := hid (hb2.out.drew.grown hg3 (by show w.heap.size ≤ W2.heap.size; omega) (fun k hk => by simp at hk; omega))
 have hrl : (rs.take i ++ (⟨x, ca, cc⟩ : XR Blob) :: rs.drop i).length = rs.length + 1 := by
  rw [List.length_append, List.length_take, List.length_cons, List.length_drop, Nat.min_eq_left g6]; omega
 have hsp := splice2 A R T Z2 Z1
 have hspl := splice2_len A R T Z2 Z1 hZl'.out
 rw [← hL0.out, show A.length = i * 4 from hAl'.out, show i * 4 + R.length = (i + 1) * 4 by rw [hRl'.out]; omega, show (i + 1) * 4 + T.length = (rs.length + 1) * 4 by rw [hTl'.out]; omega] at hsp
 rw [← hL0.out, show A.length = i * 4 from hAl'.out, show i * 4 + R.length = (i + 1) * 4 by rw [hRl'.out]; omega, hZl'.out, hZ2l'.out, hRl'.out, hTl'.out] at hspl
 have hO : Hid (OBlob W3 B (.slice (some ⟨w.heap.size, 0, none⟩) (rs.length + 1) G) ((rs.map (·.x)).take i ++ x :: (rs.map (·.x)).drop i)) := hid ⟨rs.take i ++ ⟨x, ca, cc⟩ :: rs.drop i, by simp,
  ⟨by rw [flat_len xcBlob_len], .inr ⟨w.heap.size, G, _, by rw [hrl], hB, hh3.out, by rw [hrl]; exact hGn, hG'.out, by simp only [List.size_toArray]; rw [hspl]; omega, by
   rw [hrl, hfl'.out, List.append_assoc]
   rw [List.append_assoc] at hsp
   exact hsp⟩⟩, fun q hq => by
   have h1 : CO 5 1 cU8 B w (q.v (·.data)) q.x.data := by
    rcases List.mem_append.1 hq with hq | hq
    · exact hcs.out q (List.mem_of_mem_take hq)
    · rcases List.mem_cons.1 hq with rfl | hq
      · exact hcr.out
      · exact hcs.out q (List.mem_of_mem_drop hq)
   exact CO.below hb3.out _ _ h1⟩
 have hb4 := hid (hb3.out.mono hB)
 clear hb3 hrl hsp hspl hh3 hg3 hcs hcr hrow hown0
 go_wp2_with fail
 go_ret
 exact ⟨_, rfl, hO.out, hb4.out⟩
set_option maxRecDepth 100000 in
set_option maxHeartbeats 1000000 in
theorem slices_Clone_B (v : Value) (l : List Blob) (B : Nat) (w : World) (h : OBlob w B v l) (hB : B ≤ w.heap.size) (hbs : l.length * 56 ≤ 140737488351232) :
 Calls Tryz.prog 274 #[v] w (OwnedBlob l B w) := by
 obtain ⟨i0, hi, hz0, hz1, hz2⟩ := info_parts info_B
 obtain ⟨rs, rfl, hown, hcs⟩ := h
 rw [List.length_map] at hbs
 have hrd : RS 4 56 (ERaw (xc cBlob (·.data))) w v rs := OS.reads (cells := xc cBlob (·.data)) xcBlob_len (by decide) (fun b o r _ hc j u hj => by
  have hlt := (List.getElem?_eq_some_iff.1 hj).1
  rw [hc j (by rw [xcBlob_len] at hlt; exact hlt), hj]) hown hbs
 have hh := hrd
 obtain ⟨a, c, rfl, hlc, hcm, hre, hno, hat⟩ := hh
 replace hcs := hid hcs
 clear hat hown
 cases a with
 | none =>
   have hc0 := hno rfl
   subst hc0
   have hl0 : rs = [] := List.eq_nil_of_length_eq_zero qzpbx_2
   subst hl0
   have he := fun w => Lib.run_eql_slice_nil (P := Tryz.prog) w 26 50 none 0 0 0 0 Tryz.underlying26
   clear hrd
   go_enter Tryz.func274, Tryz.ntmps274
   go_wp2
   go_ret
   exact ⟨_, rfl, OX.nil, Below.refl _ _⟩
 | some ad =>
   have he := fun w => Lib.run_eql_slice_nil (P := Tryz.prog) w 26 50 (some ad) rs.length c 0 0 Tryz.underlying26
   clear hno
   replace hrd := hid hrd
   go_enter Tryz.func274, Tryz.ntmps274
   go_wp2_with (at_builtin; go_must (refine wpL_append flat_cBlob rfl (.tmp 5) (.tmp 6) 26 rfl 50 i0 _ Tryz.underlying26 hi hz0 hz1 hz2 rfl w.heap.size _ [] rfl (os_empty' _ _ _ _ qzpbx_3 qzpbx_3) _ rs rfl (hrd.out.mono ERaw.stable (b_alloc (Below.refl _ _) _)) (by simp; omega) (by simp [maxLen]; omega) qzpbx_3 ?_))
   intro v' w1 hown hg
   have hb := b_grown (b_alloc (Below.refl _ w) (.cells #[] 50)) hg (fun k hk => by simp [Value.ownBlock] at hk; omega)
   have hO : Hid (OBlob w1 B v' (rs.map (·.x))) := hid ⟨rs, rfl, OS.mono (by simpa using hown) hB, fun q hq => CO.below hb _ _ (hcs.out q hq)⟩
   replace hb := hid (hb.mono hB)
   clear hg hown hcs hrd
   go_wp2
   go_ret
   exact ⟨_, rfl, hO.out, hb.out⟩
theorem rising_blobs {l : List Blob} (h : blobsFault l = 0) : Rising (fun x : Blob => x.digest) l ∧ l.length ≤ 24 := by
 unfold blobsFault at h
 split at h
 · cases h
 rename_i h1
 refine ⟨(rising_of (fun p x h => ?_) h).1, by omega⟩
 unfold blobFault at h
 split at h
 · split at h
   · cases h
   rename_i h2; simpa using h2
 rename_i h2; exact absurd h h2
def bputE (z : Int) (d : ByteArray) (data : List UInt8) (l : List Blob) : Int :=
 if z ≠ 0 then z else if 300 < data.length then 1 else if hasKey (fun x : Blob => x.digest) d l = true then 0 else if 24 ≤ l.length then 7 else 0
def bputL (d : ByteArray) (data : List UInt8) (l : List Blob) : List Blob :=
 if hasKey (fun x : Blob => x.digest) d l = true then l else l.take (lowAt (fun x : Blob => x.digest) d l) ++ ⟨d, data, 0, false⟩ :: l.drop (lowAt (fun x : Blob => x.digest) d l)
section
variable {z : Int} {d : ByteArray} {data : List UInt8} {l : List Blob}
theorem bputE_bad (h : z ≠ 0) : bputE z d data l = z := if_pos h
theorem bputE_long (h : 300 < data.length) : bputE 0 d data l = 1 := by unfold bputE; rw [if_neg qzpbx_3, if_pos h]
theorem bputE_has (h : ¬ 300 < data.length) (h2 : hasKey (fun x : Blob => x.digest) d l = true) : bputE 0 d data l = 0 := by unfold bputE; rw [if_neg qzpbx_3, if_neg h, if_pos h2]
theorem bputE_full (h : ¬ 300 < data.length) (h2 : hasKey (fun x : Blob => x.digest) d l = false) (h3 : 24 ≤ l.length) : bputE 0 d data l = 7 := by unfold bputE; rw [if_neg qzpbx_3, if_neg h, if_neg (by rw [h2]; decide), if_pos h3]
theorem bputE_new (h : ¬ 300 < data.length) (h2 : hasKey (fun x : Blob => x.digest) d l = false) (h3 : ¬ 24 ≤ l.length) : bputE 0 d data l = 0 := by unfold bputE; rw [if_neg qzpbx_3, if_neg h, if_neg (by rw [h2]; decide), if_neg h3]
theorem bputL_has (h : hasKey (fun x : Blob => x.digest) d l = true) : bputL d data l = l := if_pos h
theorem bputL_new (h : hasKey (fun x : Blob => x.digest) d l = false) : bputL d data l = l.take (lowAt (fun x : Blob => x.digest) d l) ++ ⟨d, data, 0, false⟩ :: l.drop (lowAt (fun x : Blob => x.digest) d l) := by unfold bputL; rw [if_neg (by rw [h]; decide)]
end
def BlRes (err : Int) (d : ByteArray) (L : List Blob) (w : World) (e : Ending) (w' : World) : Prop :=
 ∃ v', e = .returned (.tuple #[v', .string (if err = 0 then d else ⟨#[]⟩), .int .i64 err]) ∧ RBl w' v' (if err = 0 then L else []) ∧ Below w.heap.size w w'
theorem bl_no {err n : Int} {d : ByteArray} {L : List Blob} {w w' : World} (h : err = n) (hn : n ≠ 0) (hb : Below w.heap.size w w') : BlRes err d L w (.returned (.tuple #[.slice none 0 0, .string ⟨#[]⟩, .int .i64 n])) w' := by
 subst h
 exact ⟨_, by rw [if_neg hn], by rw [if_neg hn]; exact RS.nil, hb⟩
theorem bl_ok {err : Int} {d : ByteArray} {L : List Blob} {w w' : World} {v' : Value} (h : err = 0) (hr : RBl w' v' L) (hb : Below w.heap.size w w') : BlRes err d L w (.returned (.tuple #[v', .string d, .int .i64 0])) w' := by
 subst h
 exact ⟨_, rfl, hr, hb⟩
theorem fit_new {d : ByteArray} {data : List UInt8} (hd : d.size ≤ 140737488351232) (h : data.length * 1 ≤ 140737488351232) : FitBlob ⟨d, data, 0, false⟩ := ⟨⟨hd, show (Lit.int .i64 0).wf = true by decide⟩, h⟩
theorem insB_all {Q : Blob → Prop} {l : List Blob} {i : Nat} {y : Blob} (h : ∀ x ∈ l, Q x) (hy : Q y) : ∀ x ∈ l.take i ++ y :: l.drop i, Q x := by
 intro x hx
 rcases List.mem_append.1 hx with hx | hx
 · exact h x (List.mem_of_mem_take hx)
 rcases List.mem_cons.1 hx with rfl | hx
 · exact hy
 exact h x (List.mem_of_mem_drop hx)
theorem insB_len {l : List Blob} {i : Nat} {y : Blob} (hi : i ≤ l.length) : (l.take i ++ y :: l.drop i).length = l.length + 1 := by
 rw [List.length_append, List.length_take, List.length_cons, List.length_drop, Nat.min_eq_left hi]; omega
set_option maxRecDepth 100000 in
set_option maxHeartbeats 1000000 in
theorem blob_Put' (v u : Value) (l : List Blob) (data : List UInt8) (d : ByteArray) (se : Int) (w : World) (h : RBl w v l) (g : RB w u data) (hds : d.size ≤ 140737488351232) (z : Int)
 (hch : ∀ w, RBl w v l → Calls Tryz.prog 103 #[v] w fun e w' => e = .returned (.int .i64 z) ∧ Below w.heap.size w w')
 (hsum : ∀ w, RB w u data → Calls Tryz.prog 72 #[u] w fun e w' => e = .returned (.tuple #[.string d, .int .i64 se]) ∧ Below w.heap.size w w')
 (hris : z = 0 → Rising (fun x : Blob => x.digest) l ∧ l.length ≤ 24) :
 Calls Tryz.prog 249 #[v, u] w (BlRes (bputE z d data l) d (bputL d data l) w) := by
 replace hch := hid hch
 replace hsum := hid hsum
 have hR := hid h
 have hD := hid g
 have hfit := hid (fit_B h)
 obtain ⟨a, c, rfl, hlc, hcm, hre, hno, -⟩ := h
 obtain ⟨da, dc, rfl, -, -, hrd, -, -⟩ := g
 unfold maxLen at hcm
 clear hno
 by_cases hz : z = 0
 · subst hz
   obtain ⟨hri, h24⟩ := hris rfl
   by_cases hlg : 300 < data.length
   · have hd := hid (bputE_long (d := d) (l := l) hlg)
     have q : decide (300 < (data.length : Int)) = true := by simp; omega
     clear hris hri
     go_enter Tryz.func249, Tryz.ntmps249
     go_wp2_with fail
     ((with_reducible refine (hch.out _ hR.out).mono ?_); rintro e1 w1 ⟨rfl, b1⟩)
     have hb1 := hid (b_call (Below.refl _ w) b1)
     have r_R_1 := hid (hR.out.mono EBlob.stable (b_call (Below.refl _ w) b1))
     have r_D_1 := hid (hD.out.mono EU8.stable (b_call (Below.refl _ w) b1))
     clear b1
     go_wp2_with fail
     go_ret3
     exact bl_no hd.out (by decide) hb1.out
   have q : decide (300 < (data.length : Int)) = false := by simp; omega
   have hbin := hid (fun w (g : RBl w (.slice a l.length c) l) => bin_B (.slice a l.length c) l d w g hri)
   have e1 := hid (fun h => bputE_has (d := d) (l := l) hlg h)
   have e2 := hid (fun h h2 => bputE_full (d := d) (l := l) hlg h h2)
   have e3 := hid (fun h h2 => bputE_new (d := d) (l := l) hlg h h2)
   have l1 := hid (fun h => bputL_has (d := d) (data := data) (l := l) h)
   have l2 := hid (fun h => bputL_new (d := d) (data := data) (l := l) h)
   have hle := lowAt_le (fun x : Blob => x.digest) d l
   generalize bputE 0 d data l = err at *
   generalize bputL d data l = L at *
   generalize lowAt (fun x : Blob => x.digest) d l = i at *
   generalize hasKey (fun x : Blob => x.digest) d l = fin at *
   clear hris hri
   cases fin with
   | true =>
     have hd := hid (e1.out rfl)
     have hL := hid (l1.out rfl)
     clear e1 e2 e3 l1 l2
     go_enter Tryz.func249, Tryz.ntmps249
     go_wp2_with fail
     ((with_reducible refine (hch.out _ hR.out).mono ?_); rintro e1 w1 ⟨rfl, b1⟩)
     have hb1 := hid (b_call (Below.refl _ w) b1)
     have r_R_1 := hid (hR.out.mono EBlob.stable (b_call (Below.refl _ w) b1))
     have r_D_1 := hid (hD.out.mono EU8.stable (b_call (Below.refl _ w) b1))
     clear b1
     go_wp2_with fail
     ((with_reducible refine (hsum.out _ r_D_1.out).mono ?_); rintro e2 w2 ⟨rfl, b2⟩)
     have hb2 := hid (b_call hb1.out b2)
     have r_R_2 := hid (r_R_1.out.mono EBlob.stable (b_call (Below.refl w1.heap.size w1) b2))
     have r_D_2 := hid (r_D_1.out.mono EU8.stable (b_call (Below.refl w1.heap.size w1) b2))
     clear hb1 r_R_1 r_D_1 b2
     go_wp2_with fail
     ((with_reducible refine (hbin.out _ r_R_2.out).mono ?_); rintro e3 w3 ⟨rfl, b3⟩)
     have hb3 := hid (b_call hb2.out b3)
     have r_R_3 := hid (r_R_2.out.mono EBlob.stable (b_call (Below.refl w2.heap.size w2) b3))
     have r_D_3 := hid (r_D_2.out.mono EU8.stable (b_call (Below.refl w2.heap.size w2) b3))
     clear hb2 r_R_2 r_D_2 b3
     go_wp2_with fail
     have hs3 := hb3.out.size
     ((with_reducible refine (blob_Copy _ l _ r_R_3.out).mono ?_); rintro e4 w4 ⟨rfl, o4, b4⟩)
     have hb4 := hid (b_call hb3.out b4)
     have r_R_4 := hid (r_R_3.out.mono EBlob.stable (b_call (Below.refl w3.heap.size w3) b4))
     have r_D_4 := hid (r_D_3.out.mono EU8.stable (b_call (Below.refl w3.heap.size w3) b4))
     have r4 := hid (show RBl w4 _ L by rw [hL.out]; exact o4.toR hre hfit.out)
     clear hb3 r_R_3 r_D_3 b4
     go_wp2_with fail
     go_ret3
     exact bl_ok hd.out r4.out hb4.out
   | false =>
     by_cases hfu : 24 ≤ l.length
     · have hd := hid (e2.out rfl hfu)
       have q2 : decide (24 ≤ (l.length : Int)) = true := by simp; omega
       clear e1 e2 e3 l1 l2
       go_enter Tryz.func249, Tryz.ntmps249
       go_wp2_with fail
       ((with_reducible refine (hch.out _ hR.out).mono ?_); rintro e1 w1 ⟨rfl, b1⟩)
       have hb1 := hid (b_call (Below.refl _ w) b1)
       have r_R_1 := hid (hR.out.mono EBlob.stable (b_call (Below.refl _ w) b1))
       have r_D_1 := hid (hD.out.mono EU8.stable (b_call (Below.refl _ w) b1))
       clear b1
       go_wp2_with fail
       ((with_reducible refine (hsum.out _ r_D_1.out).mono ?_); rintro e2 w2 ⟨rfl, b2⟩)
       have hb2 := hid (b_call hb1.out b2)
       have r_R_2 := hid (r_R_1.out.mono EBlob.stable (b_call (Below.refl w1.heap.size w1) b2))
       have r_D_2 := hid (r_D_1.out.mono EU8.stable (b_call (Below.refl w1.heap.size w1) b2))
       clear hb1 r_R_1 r_D_1 b2
       go_wp2_with fail
       ((with_reducible refine (hbin.out _ r_R_2.out).mono ?_); rintro e3 w3 ⟨rfl, b3⟩)
       have hb3 := hid (b_call hb2.out b3)
       have r_R_3 := hid (r_R_2.out.mono EBlob.stable (b_call (Below.refl w2.heap.size w2) b3))
       have r_D_3 := hid (r_D_2.out.mono EU8.stable (b_call (Below.refl w2.heap.size w2) b3))
       clear hb2 r_R_2 r_D_2 b3
       go_wp2_with fail
       have hs3 := hb3.out.size
       ((with_reducible refine (blob_Copy _ l _ r_R_3.out).mono ?_); rintro e4 w4 ⟨rfl, -, b4⟩)
       have hb4 := hid (b_call hb3.out b4)
       have r_R_4 := hid (r_R_3.out.mono EBlob.stable (b_call (Below.refl w3.heap.size w3) b4))
       have r_D_4 := hid (r_D_3.out.mono EU8.stable (b_call (Below.refl w3.heap.size w3) b4))
       clear hb3 r_R_3 r_D_3 b4
       go_wp2_with fail
       go_ret3
       exact bl_no hd.out (by decide) hb4.out
     have hd := hid (e3.out rfl hfu)
     have hL := hid (l2.out rfl)
     have q2 : decide (24 ≤ (l.length : Int)) = false := by simp; omega
     clear e1 e2 e3 l1 l2
     go_enter Tryz.func249, Tryz.ntmps249
     go_wp2_with fail
     ((with_reducible refine (hch.out _ hR.out).mono ?_); rintro e1 w1 ⟨rfl, b1⟩)
     have hb1 := hid (b_call (Below.refl _ w) b1)
     have r_R_1 := hid (hR.out.mono EBlob.stable (b_call (Below.refl _ w) b1))
     have r_D_1 := hid (hD.out.mono EU8.stable (b_call (Below.refl _ w) b1))
     clear b1
     go_wp2_with fail
     ((with_reducible refine (hsum.out _ r_D_1.out).mono ?_); rintro e2 w2 ⟨rfl, b2⟩)
     have hb2 := hid (b_call hb1.out b2)
     have r_R_2 := hid (r_R_1.out.mono EBlob.stable (b_call (Below.refl w1.heap.size w1) b2))
     have r_D_2 := hid (r_D_1.out.mono EU8.stable (b_call (Below.refl w1.heap.size w1) b2))
     clear hb1 r_R_1 r_D_1 b2
     go_wp2_with fail
     ((with_reducible refine (hbin.out _ r_R_2.out).mono ?_); rintro e3 w3 ⟨rfl, b3⟩)
     have hb3 := hid (b_call hb2.out b3)
     have r_R_3 := hid (r_R_2.out.mono EBlob.stable (b_call (Below.refl w2.heap.size w2) b3))
     have r_D_3 := hid (r_D_2.out.mono EU8.stable (b_call (Below.refl w2.heap.size w2) b3))
     clear hb2 r_R_2 r_D_2 b3
     go_wp2_with fail
     have hs3 := hb3.out.size
     ((with_reducible refine (blob_Copy _ l _ r_R_3.out).mono ?_); rintro e4 w4 ⟨rfl, o4, b4⟩)
     have hb4 := hid (b_call hb3.out b4)
     have r_R_4 := hid (r_R_3.out.mono EBlob.stable (b_call (Below.refl w3.heap.size w3) b4))
     have r_D_4 := hid (r_D_3.out.mono EU8.stable (b_call (Below.refl w3.heap.size w3) b4))
     have h34 := b4.size
     replace o4 := hid o4
     clear hb3 r_R_3 r_D_3 b4
     go_wp2_with fail
     ((with_reducible refine (bytes_Clone _ data _ r_D_4.out).mono ?_); rintro e5 w5 ⟨v5, rfl, o5, b5⟩)
     have hb5 := hid (b_call hb4.out b5)
     have r_R_5 := hid (r_R_4.out.mono EBlob.stable (b_call (Below.refl w4.heap.size w4) b5))
     have r_D_5 := hid (r_D_4.out.mono EU8.stable (b_call (Below.refl w4.heap.size w4) b5))
     have o45 := hid (o4.out.after b5)
     have h45 := b5.size
     clear o4
     clear hb4 r_R_4 r_D_4 b5
     obtain ⟨ca, cc, rfl, -⟩ := id (OS.len_le o5)
     go_wp2_with fail
     have o6 := hid (OBlob.alloc o45.out (Obj.cells #[.string d, .slice ca data.length cc, .int .i64 0, .bool false] 50))
     have hcr6 : Hid (CO 5 1 cU8 w3.heap.size (w5.alloc (Obj.cells #[.string d, .slice ca data.length cc, .int .i64 0, .bool false] 50)) (.slice ca data.length cc) data) := hid (OS.alloc (OS.mono o5 h34) _)
     have hrow := hid (row_one (s := 4) (bs := 56) (cells := xc cBlob (·.data)) w5 50 ⟨⟨d, data, 0, false⟩, ca, cc⟩ #[.string d, .slice ca data.length cc, .int .i64 0, .bool false] w5.heap.size rfl rfl (by decide))
     have hb6 := hid (b_alloc hb5.out (Obj.cells #[.string d, .slice ca data.length cc, .int .i64 0, .bool false] 50))
     have hs6 : w3.heap.size ≤ (w5.alloc (Obj.cells #[.string d, .slice ca data.length cc, .int .i64 0, .bool false] 50)).heap.size := by simp; omega
     clear o5 o45
     generalize w5.alloc (Obj.cells #[.string d, .slice ca data.length cc, .int .i64 0, .bool false] 50) = w6 at *
     ((with_reducible refine (slices_Insert_B l i w3.heap.size w3.heap.size ⟨d, data, 0, false⟩ ca cc w5.heap.size w6 o6.out hle hs6 qzpbx_2 hrow.out hcr6.out).mono ?_); rintro e w7 ⟨v7, rfl, o7, b7⟩)
     have hs7 := b7.size
     have hb7 := hid (hb6.out.trans (b7.mono hs3))
     replace o7 := hid o7
     clear b7 hrow hcr6 o6 hb5 hb6
     go_wp2_with fail
     ((with_reducible refine (slices_Clone_B v7 _ w3.heap.size w7 o7.out qzpbx_2 (by rw [insB_len hle]; omega)).mono ?_); rintro e w8 ⟨v8, rfl, o8, b8⟩)
     have hb8 := hid (hb7.out.trans (b8.mono hs3))
     have rd := hid (show RBl w8 v8 L by rw [hL.out]; exact o8.toR (by rw [insB_len hle]; omega) (insB_all hfit.out (fit_new hds hrd)))
     clear b8 o8 o7 hb7
     go_wp2_with fail
     go_ret3
     exact bl_ok hd.out rd.out hb8.out
 have ht : (z != 0) = true := by simp [hz]
 have hd := hid (bputE_bad (d := d) (data := data) (l := l) hz)
 replace hz := hid hz
 clear hris
 go_enter Tryz.func249, Tryz.ntmps249
 go_wp2_with fail
 ((with_reducible refine (hch.out _ hR.out).mono ?_); rintro e1 w1 ⟨rfl, b1⟩)
 have hb1 := hid (b_call (Below.refl _ w) b1)
 have r_R_1 := hid (hR.out.mono EBlob.stable (b_call (Below.refl _ w) b1))
 have r_D_1 := hid (hD.out.mono EU8.stable (b_call (Below.refl _ w) b1))
 clear b1
 go_wp2_with fail
 go_ret3
 exact bl_no hd.out hz.out hb1.out
theorem sumRest_len : ∀ (n : Nat) (ws h : List UInt32), h.length = 8 → (sumRest n ws h).length = 8
 | 0, _, _, h8 => h8
 | n + 1, ws, _, h8 => sumRest_len n (ws.drop 16) _ (compress_len _ _ h8)
theorem sumStr_small (l : List UInt8) : (sumStr l).size ≤ 64 := by
 unfold sumStr
 split
 · exact Nat.zero_le _
 show (bstr (hexOf (bytesW (hashW l)))).size ≤ 64
 have h : (hexOf (bytesW (hashW l))).length = 64 := by rw [hexOf_len, bytesW_len]; unfold hashW; rw [sumRest_len _ _ _ rfl]
 show (hexOf (bytesW (hashW l))).toArray.size ≤ 64
 rw [List.size_toArray, h]
 exact Nat.le_refl _
def bputsE (data : List UInt8) (l : List Blob) : Int := bputE (blobsFault l) (sumStr data) data l
def bputsL (data : List UInt8) (l : List Blob) : List Blob := bputL (sumStr data) data l
theorem blob_Put (v u : Value) (l : List Blob) (data : List UInt8) (w : World) (h : RBl w v l) (g : RB w u data) : Calls Tryz.prog 249 #[v, u] w (BlRes (bputsE data l) (sumStr data) (bputsL data l) w) :=
 blob_Put' v u l data (sumStr data) (padErr data) w h g (Nat.le_trans (sumStr_small data) (by decide)) _ (fun w h => blob_Check v l w h) (fun w g => sha_Sum u data w g) rising_blobs
def pblE (z e : Int) (L : List Blob) (r : Int) : Int := if z ≠ 0 then z else if e ≠ 0 then e else if r < used L then 7 else 0
section
variable {z e r : Int} {L : List Blob}
theorem pblE_bad (h : z ≠ 0) : pblE z e L r = z := if_pos h
theorem pblE_put (h : e ≠ 0) : pblE 0 e L r = e := by unfold pblE; rw [if_neg qzpbx_3, if_pos h]
theorem pblE_full (h : r < used L) : pblE 0 0 L r = 7 := by unfold pblE; rw [if_neg qzpbx_3, if_neg qzpbx_3, if_pos h]
theorem pblE_ok (h : ¬ r < used L) : pblE 0 0 L r = 0 := by unfold pblE; rw [if_neg qzpbx_3, if_neg qzpbx_3, if_neg h]
end
def PbRes (err : Int) (d : ByteArray) (S : Store) (w : World) (e : Ending) (w' : World) : Prop :=
 ∃ v, e = .returned (.tuple #[v, .string (if err = 0 then d else ⟨#[]⟩), .int .i64 err]) ∧ VS w' v (if err = 0 then S else noStore) ∧ Below w.heap.size w w'
theorem pb_no {err n : Int} {d : ByteArray} {S : Store} {w w' : World} (h : err = n) (hn : n ≠ 0) (hb : Below w.heap.size w w') :
 PbRes err d S w (.returned (.tuple #[.agg #[.slice none 0 0, .slice none 0 0, .int .i64 0, .int .i64 0], .string ⟨#[]⟩, .int .i64 n])) w' := by
 subst h
 exact ⟨_, by rw [if_neg hn], ⟨_, _, by rw [if_neg hn]; rfl, by rw [if_neg hn]; exact RS.nil, by rw [if_neg hn]; exact RS.nil⟩, hb⟩
theorem pb_ok {err : Int} {d : ByteArray} {w w' : World} {v1 v2 : Value} {L : List Blob} {es : List Entry} {r t : Int} (h : err = 0) (h1 : RBl w' v1 L) (h2 : RE w' v2 es) (hb : Below w.heap.size w w') :
 PbRes err d ⟨L, es, r, t⟩ w (.returned (.tuple #[.agg #[v1, v2, .int .i64 r, .int .i64 t], .string d, .int .i64 0])) w' := by
 subst h
 exact ⟨_, rfl, ⟨v1, v2, rfl, h1, h2⟩, hb⟩
theorem room_of {bs : List Blob} {es : List Entry} {r t : Int} (h : storeFault bs es r t = 0) : 0 ≤ r ∧ r ≤ 4000 := by
 by_cases h1 : blobsFault bs = 0
 · by_cases h2 : entriesFault es = 0
   · by_cases h3 : roomFault bs r = 0
     · unfold roomFault at h3
       split at h3
       · cases h3
       omega
     rw [st3 h1 h2 h3] at h; exact absurd h h3
   rw [st2 h1 h2] at h; exact absurd h h2
 rw [st1 h1] at h; exact absurd h h1
theorem fits_used {bs : List Blob} {r : Int} (h0 : 0 ≤ used bs) (h1 : used bs ≤ 1000000) (hr : 0 ≤ r ∧ r ≤ 4000) : fitsV bs r = if r < used bs then 7 else 0 := by
 unfold fitsV
 rw [if_pos (by unfold inRoom; omega)]
 unfold lackV
 rw [wrap64_in' (n := used bs + 0) qzpbx_2 qzpbx_2, wrap64_in' qzpbx_2 qzpbx_2]
 split <;> split <;> split <;> omega
theorem bputL_small {d : ByteArray} {data : List UInt8} {l : List Blob} {z : Int} (hz : z = blobsFault l) (he : bputE z d data l = 0) : 0 ≤ used (bputL d data l) ∧ used (bputL d data l) ≤ 1000000 := by
 have h0 : z = 0 := by
  apply Classical.byContradiction; intro h; rw [bputE_bad h] at he; exact h he
 subst h0
 have hall : ∀ x ∈ l, x.data.length ≤ 300 := by
  intro x hx
  have hb := hz.symm
  unfold blobsFault at hb
  split at hb
  · cases hb
  obtain ⟨q, hq⟩ := fault_all hb x hx
  unfold blobFault at hq
  split at hq
  · rename_i h1; exact (blobErr_zero h1).2.1
  rename_i h1; exact absurd hq h1
 have hl : l.length ≤ 24 := (rising_blobs hz.symm).2
 have hd : data.length ≤ 300 := by
  apply Classical.byContradiction; intro h; rw [bputE_long qzpbx_2] at he; cases he
 refine used_small _ 0 (fun x hx => ?_) (Int.le_refl _) ?_
 · unfold bputL at hx
   split at hx
   · exact hall x hx
   exact insB_all hall (show data.length ≤ 300 from hd) x hx
 unfold bputL
 split
 · omega
 rw [insB_len (lowAt_le _ _ _)]; omega
set_option maxRecDepth 100000 in
set_option maxHeartbeats 1000000 in
theorem store_PutBlob' (v u b : Value) (bs : List Blob) (es : List Entry) (r t : Int) (data : List UInt8) (w : World) (h : RBl w v bs) (g : RE w u es) (gd : RB w b data) (z e1 fv : Int) (d : ByteArray) (L : List Blob)
 (hch : ∀ w, RBl w v bs → RE w u es → Calls Tryz.prog 50 #[.agg #[v, u, .int .i64 r, .int .i64 t]] w fun e w' => e = .returned (.int .i64 z) ∧ Below w.heap.size w w')
 (hput : ∀ w, RBl w v bs → RB w b data → Calls Tryz.prog 249 #[v, b] w (BlRes e1 d L w))
 (hfits : ∀ v w, RBl w v L → Calls Tryz.prog 105 #[v, .int .i64 r, .int .i64 0] w fun e w' => e = .returned (.int .i64 fv) ∧ Below w.heap.size w w')
 (hfv : z = 0 → e1 = 0 → fv = if r < used L then 7 else 0) :
 Calls Tryz.prog 208 #[.agg #[v, u, .int .i64 r, .int .i64 t], b] w (PbRes (pblE z e1 L r) d ⟨L, es, r, t⟩ w) := by
 replace hch := hid hch
 have hR := hid h
 have hE := hid g
 have hD := hid gd
 have hf1 := hid (fit_B h)
 have hf2 := hid (fit_E g)
 obtain ⟨a, c, rfl, -⟩ := h
 obtain ⟨a2, c2, rfl, -, -, hre2, -⟩ := g
 unfold BlRes at hput
 replace hput := hid hput
 replace hfits := hid hfits
 by_cases hz : z = 0
 · subst hz
   by_cases he1 : e1 = 0
   · subst he1
     simp only [if_true] at hput
     by_cases hu : r < used L
     · have hd := hid (pblE_full hu)
       have qe : ((0 : Int) != 0) = false := by decide
       obtain rfl : fv = 7 := by rw [hfv rfl rfl, if_pos hu]
       have q7 : ((7 : Int) != 0) = true := by decide
       clear hfv
       go_enter Tryz.func208, Tryz.ntmps208
       go_wp2_with fail
       ((with_reducible refine (hch.out _ (hR.out.mono EBlob.stable (b_alloc (b_alloc (Below.refl _ w) _) _)) (hE.out.mono EEntry.stable (b_alloc (b_alloc (Below.refl _ w) _) _))).mono ?_); rintro e1 w1 ⟨rfl, b1⟩)
       have hq_q_1 := hid (stays b1 (hold (heap_put w _ (w.heap.size) qzpbx_3)))
       have hq_p_1 := hid (stays b1 (heap_put _ _ (w.heap.size + 1) qzpbx_3))
       have hb1 := hid (b_call (b_alloc (b_alloc (Below.refl _ w) _) _) b1)
       have r_R_1 := hid (hR.out.mono EBlob.stable (b_call (b_alloc (b_alloc (Below.refl _ w) _) _) b1))
       have r_E_1 := hid (hE.out.mono EEntry.stable (b_call (b_alloc (b_alloc (Below.refl _ w) _) _) b1))
       have r_D_1 := hid (hD.out.mono EU8.stable (b_call (b_alloc (b_alloc (Below.refl _ w) _) _) b1))
       clear b1
       obtain ⟨x_q_0, x_q_1, x_q_2, x_q_3⟩ := box4f hq_q_1.out
       go_wp2_with fail
       ((with_reducible refine (hput.out _ r_R_1.out r_D_1.out).mono ?_); rintro e2 w2 ⟨v2, rfl, rl2, b2⟩)
       clear x_q_0 x_q_1 x_q_2 x_q_3
       have hq_q_2 := hid (stays b2 hq_q_1.out)
       have hq_p_2 := hid (stays b2 hq_p_1.out)
       have hb2 := hid (b_call hb1.out b2)
       have r_R_2 := hid (r_R_1.out.mono EBlob.stable (b_call (Below.refl w1.heap.size w1) b2))
       have r_E_2 := hid (r_E_1.out.mono EEntry.stable (b_call (Below.refl w1.heap.size w1) b2))
       have r_D_2 := hid (r_D_1.out.mono EU8.stable (b_call (Below.refl w1.heap.size w1) b2))
       have r_L_2 := hid rl2
       clear hq_q_1 hq_p_1 hb1 r_R_1 r_E_1 r_D_1 rl2 b2
       obtain ⟨al, cl, rfl, -⟩ := id r_L_2.out
       obtain ⟨x_q_0, x_q_1, x_q_2, x_q_3⟩ := box4f hq_q_2.out
       go_wp2_with fail
       ((with_reducible refine (hfits.out _ _ r_L_2.out).mono ?_); rintro e3 w3 ⟨rfl, b3⟩)
       clear x_q_0 x_q_1 x_q_2 x_q_3
       have hq_q_3 := hid (stays b3 hq_q_2.out)
       have hq_p_3 := hid (stays b3 hq_p_2.out)
       have hb3 := hid (b_call hb2.out b3)
       have r_R_3 := hid (r_R_2.out.mono EBlob.stable (b_call (Below.refl w2.heap.size w2) b3))
       have r_E_3 := hid (r_E_2.out.mono EEntry.stable (b_call (Below.refl w2.heap.size w2) b3))
       have r_D_3 := hid (r_D_2.out.mono EU8.stable (b_call (Below.refl w2.heap.size w2) b3))
       have r_L_3 := hid (r_L_2.out.mono EBlob.stable (b_call (Below.refl w2.heap.size w2) b3))
       clear hq_q_2 hq_p_2 hb2 r_R_2 r_E_2 r_D_2 r_L_2 b3
       obtain ⟨x_q_0, x_q_1, x_q_2, x_q_3⟩ := box4f hq_q_3.out
       obtain ⟨x_p_0, x_p_1, x_p_2, x_p_3⟩ := box4f hq_p_3.out
       have g_p_0 := frozen_heap hq_p_3.out 0
       have g_p_1 := frozen_heap hq_p_3.out 1
       have g_p_2 := frozen_heap hq_p_3.out 2
       have g_p_3 := frozen_heap hq_p_3.out 3
       go_wp2_with fail
       have hp9 := box4_same (u0 := .slice none 0 0) (u1 := .slice none 0 0) (u2 := .int .i64 0) (u3 := .int .i64 0) hq_p_3.out
       have hb9 := b_box4 hb3.out (q := w.heap.size + 1) (Nat.le_succ _) (.slice none 0 0) (.slice none 0 0) (.int .i64 0) (.int .i64 0)
       obtain ⟨m0, m1, m2, m3⟩ := box4f hp9
       unfold World.box4 at m0 m1 m2 m3 hb9
       (try simp only [Exit.inBlock, Exit.then])
       refine bodyPost_ret qzpbx_1 rfl ?_
       exact pb_no hd.out (by decide) hb9
     have hd := hid (pblE_ok hu)
     have qe : ((0 : Int) != 0) = false := by decide
     obtain rfl : fv = 0 := by rw [hfv rfl rfl, if_neg hu]
     clear hfv
     go_enter Tryz.func208, Tryz.ntmps208
     go_wp2_with fail
     ((with_reducible refine (hch.out _ (hR.out.mono EBlob.stable (b_alloc (b_alloc (Below.refl _ w) _) _)) (hE.out.mono EEntry.stable (b_alloc (b_alloc (Below.refl _ w) _) _))).mono ?_); rintro e1 w1 ⟨rfl, b1⟩)
     have hq_q_1 := hid (stays b1 (hold (heap_put w _ (w.heap.size) qzpbx_3)))
     have hq_p_1 := hid (stays b1 (heap_put _ _ (w.heap.size + 1) qzpbx_3))
     have hb1 := hid (b_call (b_alloc (b_alloc (Below.refl _ w) _) _) b1)
     have r_R_1 := hid (hR.out.mono EBlob.stable (b_call (b_alloc (b_alloc (Below.refl _ w) _) _) b1))
     have r_E_1 := hid (hE.out.mono EEntry.stable (b_call (b_alloc (b_alloc (Below.refl _ w) _) _) b1))
     have r_D_1 := hid (hD.out.mono EU8.stable (b_call (b_alloc (b_alloc (Below.refl _ w) _) _) b1))
     clear b1
     obtain ⟨x_q_0, x_q_1, x_q_2, x_q_3⟩ := box4f hq_q_1.out
     go_wp2_with fail
     ((with_reducible refine (hput.out _ r_R_1.out r_D_1.out).mono ?_); rintro e2 w2 ⟨v2, rfl, rl2, b2⟩)
     clear x_q_0 x_q_1 x_q_2 x_q_3
     have hq_q_2 := hid (stays b2 hq_q_1.out)
     have hq_p_2 := hid (stays b2 hq_p_1.out)
     have hb2 := hid (b_call hb1.out b2)
     have r_R_2 := hid (r_R_1.out.mono EBlob.stable (b_call (Below.refl w1.heap.size w1) b2))
     have r_E_2 := hid (r_E_1.out.mono EEntry.stable (b_call (Below.refl w1.heap.size w1) b2))
     have r_D_2 := hid (r_D_1.out.mono EU8.stable (b_call (Below.refl w1.heap.size w1) b2))
     have r_L_2 := hid rl2
     clear hq_q_1 hq_p_1 hb1 r_R_1 r_E_1 r_D_1 rl2 b2
     obtain ⟨al, cl, rfl, -⟩ := id r_L_2.out
     obtain ⟨x_q_0, x_q_1, x_q_2, x_q_3⟩ := box4f hq_q_2.out
     go_wp2_with fail
     ((with_reducible refine (hfits.out _ _ r_L_2.out).mono ?_); rintro e3 w3 ⟨rfl, b3⟩)
     clear x_q_0 x_q_1 x_q_2 x_q_3
     have hq_q_3 := hid (stays b3 hq_q_2.out)
     have hq_p_3 := hid (stays b3 hq_p_2.out)
     have hb3 := hid (b_call hb2.out b3)
     have r_R_3 := hid (r_R_2.out.mono EBlob.stable (b_call (Below.refl w2.heap.size w2) b3))
     have r_E_3 := hid (r_E_2.out.mono EEntry.stable (b_call (Below.refl w2.heap.size w2) b3))
     have r_D_3 := hid (r_D_2.out.mono EU8.stable (b_call (Below.refl w2.heap.size w2) b3))
     have r_L_3 := hid (r_L_2.out.mono EBlob.stable (b_call (Below.refl w2.heap.size w2) b3))
     clear hq_q_2 hq_p_2 hb2 r_R_2 r_E_2 r_D_2 r_L_2 b3
     obtain ⟨x_q_0, x_q_1, x_q_2, x_q_3⟩ := box4f hq_q_3.out
     go_wp2_with fail
     ((with_reducible refine (store_CopyO _ _ bs es r t _ r_R_3.out r_E_3.out).mono ?_); rintro e4 w4 ⟨v4, u4, rfl, o1, o2, b4⟩)
     clear x_q_0 x_q_1 x_q_2 x_q_3
     have hq_q_4 := hid (stays b4 hq_q_3.out)
     have hq_p_4 := hid (stays b4 hq_p_3.out)
     have hb4 := hid (b_call hb3.out b4)
     have r_R_4 := hid (r_R_3.out.mono EBlob.stable (b_call (Below.refl w3.heap.size w3) b4))
     have r_E_4 := hid (r_E_3.out.mono EEntry.stable (b_call (Below.refl w3.heap.size w3) b4))
     have r_D_4 := hid (r_D_3.out.mono EU8.stable (b_call (Below.refl w3.heap.size w3) b4))
     have r_L_4 := hid (r_L_3.out.mono EBlob.stable (b_call (Below.refl w3.heap.size w3) b4))
     obtain ⟨a5, c5, rfl⟩ := OX.lenOf o2
     obtain ⟨a6, c6, rfl⟩ := OX.lenOf o1
     have rE4 := hid (o2.toR hre2 hf2.out)
     clear hq_q_3 hq_p_3 hb3 r_R_3 r_E_3 r_D_3 r_L_3 b4
     have hpl := heap_lt hq_p_4.out
     obtain ⟨x_p_0, x_p_1, x_p_2, x_p_3⟩ := box4f hq_p_4.out
     have g_p_0 := frozen_heap hq_p_4.out 0
     have g_p_1 := frozen_heap hq_p_4.out 1
     have g_p_2 := frozen_heap hq_p_4.out 2
     have g_p_3 := frozen_heap hq_p_4.out 3
     clear o1 o2 hq_q_4
     go_wp2_with fail
     have hpB := box4_same (u0 := (.slice al L.length cl)) (u1 := (.slice a5 es.length c5)) (u2 := .int .i64 r) (u3 := .int .i64 t) hq_p_4.out
     have hp9 := (heap_alloc_old _ (Obj.cells #[(.slice al L.length cl), (.slice a5 es.length c5), .int .i64 r, .int .i64 t] 29) (heap_lt hpB)).trans hpB
     have hb9 := b_alloc (b_box4 hb4.out (q := w.heap.size + 1) (Nat.le_succ _) (.slice al L.length cl) (.slice a5 es.length c5) (.int .i64 r) (.int .i64 t)) (Obj.cells #[(.slice al L.length cl), (.slice a5 es.length c5), .int .i64 r, .int .i64 t] 29)
     have hbox := (⟨_, _, _, _, _, _, _, _, hq_p_4.out⟩ : ∃ a n c a' n' c' r t, w4.heap[w.heap.size + 1]? = some (.cells #[.slice a n c, .slice a' n' c', .int .i64 r, .int .i64 t] 29 (0, 0)))
     have rl9 := (r_L_4.out.box4 EBlob.writes hbox al L.length cl a5 es.length c5 r t).mono EBlob.stable (b_alloc (Below.refl _ _) (Obj.cells #[(.slice al L.length cl), (.slice a5 es.length c5), .int .i64 r, .int .i64 t] 29))
     have re9 := (rE4.out.box4 EEntry.writes hbox al L.length cl a5 es.length c5 r t).mono EEntry.stable (b_alloc (Below.refl _ _) (Obj.cells #[(.slice al L.length cl), (.slice a5 es.length c5), .int .i64 r, .int .i64 t] 29))
     obtain ⟨m0, m1, m2, m3⟩ := box4f hp9
     unfold World.box4 at m0 m1 m2 m3 hb9 rl9 re9
     (try simp only [Exit.inBlock, Exit.then])
     refine bodyPost_ret qzpbx_1 rfl ?_
     exact pb_ok hd.out rl9 re9 hb9
   have hd := hid (pblE_put (L := L) (r := r) he1)
   have q1 : (e1 != 0) = true := by simp [he1]
   simp only [if_neg he1] at hput
   replace he1 := hid he1
   go_enter Tryz.func208, Tryz.ntmps208
   go_wp2_with fail
   ((with_reducible refine (hch.out _ (hR.out.mono EBlob.stable (b_alloc (b_alloc (Below.refl _ w) _) _)) (hE.out.mono EEntry.stable (b_alloc (b_alloc (Below.refl _ w) _) _))).mono ?_); rintro e1 w1 ⟨rfl, b1⟩)
   have hq_q_1 := hid (stays b1 (hold (heap_put w _ (w.heap.size) qzpbx_3)))
   have hq_p_1 := hid (stays b1 (heap_put _ _ (w.heap.size + 1) qzpbx_3))
   have hb1 := hid (b_call (b_alloc (b_alloc (Below.refl _ w) _) _) b1)
   have r_R_1 := hid (hR.out.mono EBlob.stable (b_call (b_alloc (b_alloc (Below.refl _ w) _) _) b1))
   have r_E_1 := hid (hE.out.mono EEntry.stable (b_call (b_alloc (b_alloc (Below.refl _ w) _) _) b1))
   have r_D_1 := hid (hD.out.mono EU8.stable (b_call (b_alloc (b_alloc (Below.refl _ w) _) _) b1))
   clear b1
   obtain ⟨x_q_0, x_q_1, x_q_2, x_q_3⟩ := box4f hq_q_1.out
   go_wp2_with fail
   ((with_reducible refine (hput.out _ r_R_1.out r_D_1.out).mono ?_); rintro e2 w2 ⟨v2, rfl, rl2, b2⟩)
   clear x_q_0 x_q_1 x_q_2 x_q_3
   have hq_q_2 := hid (stays b2 hq_q_1.out)
   have hq_p_2 := hid (stays b2 hq_p_1.out)
   have hb2 := hid (b_call hb1.out b2)
   have r_R_2 := hid (r_R_1.out.mono EBlob.stable (b_call (Below.refl w1.heap.size w1) b2))
   have r_E_2 := hid (r_E_1.out.mono EEntry.stable (b_call (Below.refl w1.heap.size w1) b2))
   have r_D_2 := hid (r_D_1.out.mono EU8.stable (b_call (Below.refl w1.heap.size w1) b2))
   clear hq_q_1 hq_p_1 hb1 r_R_1 r_E_1 r_D_1 b2
   obtain ⟨x_q_0, x_q_1, x_q_2, x_q_3⟩ := box4f hq_q_2.out
   obtain ⟨x_p_0, x_p_1, x_p_2, x_p_3⟩ := box4f hq_p_2.out
   have g_p_0 := frozen_heap hq_p_2.out 0
   have g_p_1 := frozen_heap hq_p_2.out 1
   have g_p_2 := frozen_heap hq_p_2.out 2
   have g_p_3 := frozen_heap hq_p_2.out 3
   go_wp2_with fail
   have hp9 := box4_same (u0 := .slice none 0 0) (u1 := .slice none 0 0) (u2 := .int .i64 0) (u3 := .int .i64 0) hq_p_2.out
   have hb9 := b_box4 hb2.out (q := w.heap.size + 1) (Nat.le_succ _) (.slice none 0 0) (.slice none 0 0) (.int .i64 0) (.int .i64 0)
   obtain ⟨m0, m1, m2, m3⟩ := box4f hp9
   unfold World.box4 at m0 m1 m2 m3 hb9
   (try simp only [Exit.inBlock, Exit.then])
   refine bodyPost_ret qzpbx_1 rfl ?_
   exact pb_no hd.out he1.out hb9
 have ht : (z != 0) = true := by simp [hz]
 have hd := hid (pblE_bad (e := e1) (L := L) (r := r) hz)
 replace hz := hid hz
 go_enter Tryz.func208, Tryz.ntmps208
 go_wp2_with fail
 ((with_reducible refine (hch.out _ (hR.out.mono EBlob.stable (b_alloc (b_alloc (Below.refl _ w) _) _)) (hE.out.mono EEntry.stable (b_alloc (b_alloc (Below.refl _ w) _) _))).mono ?_); rintro e1 w1 ⟨rfl, b1⟩)
 have hq_q_1 := hid (stays b1 (hold (heap_put w _ (w.heap.size) qzpbx_3)))
 have hq_p_1 := hid (stays b1 (heap_put _ _ (w.heap.size + 1) qzpbx_3))
 have hb1 := hid (b_call (b_alloc (b_alloc (Below.refl _ w) _) _) b1)
 have r_R_1 := hid (hR.out.mono EBlob.stable (b_call (b_alloc (b_alloc (Below.refl _ w) _) _) b1))
 have r_E_1 := hid (hE.out.mono EEntry.stable (b_call (b_alloc (b_alloc (Below.refl _ w) _) _) b1))
 have r_D_1 := hid (hD.out.mono EU8.stable (b_call (b_alloc (b_alloc (Below.refl _ w) _) _) b1))
 clear b1
 obtain ⟨x_q_0, x_q_1, x_q_2, x_q_3⟩ := box4f hq_q_1.out
 obtain ⟨x_p_0, x_p_1, x_p_2, x_p_3⟩ := box4f hq_p_1.out
 have g_p_0 := frozen_heap hq_p_1.out 0
 have g_p_1 := frozen_heap hq_p_1.out 1
 have g_p_2 := frozen_heap hq_p_1.out 2
 have g_p_3 := frozen_heap hq_p_1.out 3
 go_wp2_with fail
 have hp9 := box4_same (u0 := .slice none 0 0) (u1 := .slice none 0 0) (u2 := .int .i64 0) (u3 := .int .i64 0) hq_p_1.out
 have hb9 := b_box4 hb1.out (q := w.heap.size + 1) (Nat.le_succ _) (.slice none 0 0) (.slice none 0 0) (.int .i64 0) (.int .i64 0)
 obtain ⟨m0, m1, m2, m3⟩ := box4f hp9
 unfold World.box4 at m0 m1 m2 m3 hb9
 (try simp only [Exit.inBlock, Exit.then])
 refine bodyPost_ret qzpbx_1 rfl ?_
 exact pb_no hd.out hz.out hb9
def pbsE (bs : List Blob) (es : List Entry) (r t : Int) (data : List UInt8) : Int := pblE (storeFault bs es r t) (bputsE data bs) (bputsL data bs) r
theorem store_PutBlob (v u b : Value) (bs : List Blob) (es : List Entry) (r t : Int) (data : List UInt8) (w : World) (h : RBl w v bs) (g : RE w u es) (gd : RB w b data) :
 Calls Tryz.prog 208 #[.agg #[v, u, .int .i64 r, .int .i64 t], b] w (PbRes (pbsE bs es r t data) (sumStr data) ⟨bputsL data bs, es, r, t⟩ w) :=
 store_PutBlob' v u b bs es r t data w h g gd (storeFault bs es r t) (bputsE data bs) (fitsV (bputsL data bs) r) (sumStr data) (bputsL data bs) (fun w h g => store_Check v u bs es r t w h g) (fun w h g => blob_Put v b bs data w h g) (fun v w h => room_Fits_any v _ r w h)
  (fun hz he => fits_used (bputL_small rfl he).1 (bputL_small rfl he).2 (room_of hz))
end Go.Proofs.YtpkpgehiplhkpaaGreat
