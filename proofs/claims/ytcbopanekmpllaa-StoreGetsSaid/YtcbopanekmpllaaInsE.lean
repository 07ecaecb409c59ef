/-
  slices.Insert and slices.Clone on rows of records (Entry) that the call owns.
-/
import Derived.Test.YtcbopanekmpllaaInsL
import Derived.Test.YtcbopanekmpllaaOwE
import Derived.StillTailTactics
namespace Go.Proofs.Ytcbopanekmpllaa
open Go.RowKit

/-- What Insert and Clone leave. -/
def OwnedEntry (l : List Entry) (B : Nat) (w : World) (e : Ending) (w' : World) : Prop := ∃ v', e = .returned v' ∧ OEntry w' B v' l ∧ Below B w w'

set_option maxRecDepth 100000 in
set_option maxHeartbeats 1000000 in
theorem slices_Insert_E (l : List Entry) (i B g : Nat) (x : Entry) (ca : Option Addr) (cc q : Nat) (w : World) (h : OEntry w B (.slice (some ⟨g, 0, none⟩) l.length l.length) l) (hi : i ≤ l.length) (hB : B ≤ w.heap.size)
    (hbs : (l.length + 1) * 56 ≤ 140737488351232) (hrow : RS 4 56 (ERaw (xc cEntry (·.parts))) w (.slice (some ⟨q, 0, none⟩) 1 1) [⟨x, ca, cc⟩]) (hcr : CO 102 3 cPart B w (.slice ca x.parts.length cc) x.parts) :
    Calls Try.prog 77 #[.slice (some ⟨g, 0, none⟩) l.length l.length, .int .i64 i, .slice (some ⟨q, 0, none⟩) 1 1] w (OwnedEntry (l.take i ++ x :: l.drop i) B w) := by
  obtain ⟨i0, hi0, hz0, hz1, hz2⟩ := info_parts info_E
  obtain ⟨rs, rfl, hown, hcs⟩ := h
  simp only [List.length_map] at hi hbs hown ⊢
  unfold OwnedEntry
  have hn := (show rs.length ≤ 140737488351232 by omega)
  have hgw := (World.ownsRow.lt hown g (by simp [Value.ownBlock])).2
  have hgB := (World.ownsRow.lt hown g (by simp [Value.ownBlock])).1
  have hown0 := hid hown
  replace hrow := hid hrow
  replace hcs := hid hcs
  replace hcr := hid hcr
  by_cases hin : i = rs.length
  · subst hin
    have hl : (rs.map (·.x)).take rs.length ++ x :: (rs.map (·.x)).drop rs.length = rs.map (·.x) ++ [x] := by
      rw [List.take_of_length_le (by simp), List.drop_eq_nil_of_le (by simp)]
    rw [hl]
    clear hl hown hgw hgB
    go_enter Try.func77, Try.ntmps77
    go_wp2_with (at_builtin; go_must (refine wpL_append flat_cEntry (by rfl) (.tmp 23) (.tmp 24) 28 (by rfl) 31 i0 _ Try.underlying28 hi0 hz0 hz1 hz2 rfl B _ rs (by rfl) hown0.out _ [⟨x, ca, cc⟩] (by rfl) hrow.out (by simp; omega) (by simp [maxLen]; omega) hB ?_))
    intro v' w1 hown1 hg
    have hO := hid (OX.grow (e' := 102) hown1 hg hown0.out (by decide) hcs.out hcr.out)
    have hb := hid ((Below.refl B w).grown hg hB (fun k hk => OS.block hown0.out k hk))
    clear hown1 hg hown0 hcs hcr hrow
    go_wp2_with fail
    go_ret
    exact ⟨_, rfl, hO.out, hb.out⟩
  · have hlt : i < rs.length := by omega
    have hsz : (Try.prog.info? 31).map (·.size) = some 4 := by rw [hi0]; simp [hz1]
    have hap : rs.flatMap (xc cEntry (·.parts)) = (rs.take i).flatMap (xc cEntry (·.parts)) ++ (rs.drop i).flatMap (xc cEntry (·.parts)) := by rw [← List.flatMap_append, List.take_append_drop]
    have hAl : ((rs.take i).flatMap (xc cEntry (·.parts))).length = i * 4 := by rw [flat_len xcEntry_len, List.length_take]; rw [Nat.min_eq_left hi]
    have hTl : ((rs.drop i).flatMap (xc cEntry (·.parts))).length = (rs.length - i) * 4 := by rw [flat_len xcEntry_len, List.length_drop]
    have hca := OS.cellsAt hown
    have hone : ∀ m : List (XR Entry), ∀ u ∈ m.flatMap (xc cEntry (·.parts)), u.oneCell' = true := fun m u hu => by
      obtain ⟨r, _, hr⟩ := List.mem_flatMap.1 hu
      exact xcEntry_one r u hr
    have hRl : (xc cEntry (·.parts) (⟨x, ca, cc⟩ : XR Entry)).length = 4 := rfl
    have hR1 : ∀ u ∈ xc cEntry (·.parts) (⟨x, ca, cc⟩ : XR Entry), u.oneCell' = true := fun u hu => xcEntry_one _ u hu
    have hqw : q < w.heap.size ∧ ∀ j u, (xc cEntry (·.parts) (⟨x, ca, cc⟩ : XR Entry))[j]? = some u → w.cell? ⟨q, j, none⟩ = some u := by
      obtain ⟨_, _, hv, -, -, -, -, hat⟩ := hrow.out
      obtain ⟨b, off, hb, hbl, he⟩ := hat 0 _ rfl
      simp only [List.length_cons, List.length_nil, Value.slice.injEq] at hv
      rw [← hv.1] at hb
      simp only [Option.some.injEq, Addr.mk.injEq, and_true] at hb
      obtain ⟨rfl, rfl⟩ := hb
      exact ⟨hbl, fun j u hj => by have := he j u hj; simpa using this⟩
    have hfl : (rs.take i ++ ⟨x, ca, cc⟩ :: rs.drop i).flatMap (xc cEntry (·.parts)) = (rs.take i).flatMap (xc cEntry (·.parts)) ++ xc cEntry (·.parts) (⟨x, ca, cc⟩ : XR Entry) ++ (rs.drop i).flatMap (xc cEntry (·.parts)) := by
      rw [List.flatMap_append, List.flatMap_cons, List.append_assoc]
    rw [hap] at hca
    have ho1 := hone (rs.take i)
    have ho2 := hone (rs.drop i)
    clear hap hone
    generalize hA : (rs.take i).flatMap (xc cEntry (·.parts)) = A at *
    generalize hT : (rs.drop i).flatMap (xc cEntry (·.parts)) = T at *
    generalize hR : xc cEntry (·.parts) (⟨x, ca, cc⟩ : XR Entry) = R at *
    have hhold : (Builtin.firstCells i0.size i (.slice (some ⟨g, 0, none⟩) i rs.length)).run Try.prog w.drew = .ok A.toArray w.drew := by
      rw [hz1]
      exact run_firstCells_some (w := w.drew) 4 i ⟨g, 0, none⟩ i rs.length A hAl (fun j u hj => by
        rw [Addr.add_lit, Nat.zero_add]
        exact hca j u (by rw [List.getElem?_append_left (List.getElem?_eq_some_iff.1 hj).1]; exact hj))
    obtain ⟨G, hG⟩ : ∃ G, G = grownCap w (rs.length + 1) rs.length 31 := ⟨_, rfl⟩
    have hGn : rs.length + 1 ≤ G := by rw [hG]; exact grownCap_ge w _ _ _
    have hGm : G ≤ maxLen := by rw [hG]; exact grownCap_le_maxLen w _ _ _ (by simp [maxLen]; omega)
    obtain ⟨Z1, hZ1⟩ : ∃ Z1, Z1 = (Builtin.zeroCells (Value.agg #[.string ⟨#[]⟩, .slice none 0 0, .int .i64 0, .int .i64 0]).cells (rs.length + 1 - i)).toList := ⟨_, rfl⟩
    obtain ⟨Z2, hZ2⟩ : ∃ Z2, Z2 = (Builtin.zeroCells (Value.agg #[.string ⟨#[]⟩, .slice none 0 0, .int .i64 0, .int .i64 0]).cells (G - (rs.length + 1))).toList := ⟨_, rfl⟩
    have hik : i + (rs.length + 1 - i) = rs.length + 1 := by omega
    have hkk : (rs.length : Int) + 1 - (i : Int) = ((rs.length + 1 - i : Nat) : Int) := by omega
    have hrz : ∀ ty, (Builtin.append_ #[28, 3] ty #[.slice (some ⟨g, 0, none⟩) i rs.length, .int .i64 ((rs.length : Int) + 1 - (i : Int))]).run Try.prog w =
        .ok (.slice (some ⟨w.heap.size, 0, none⟩) (rs.length + 1) G) (w.drew.alloc (.cells (A ++ Z1 ++ Z2).toArray 31)) := fun ty => by
      have h := Lib.run_append_grow_zeros (P := Try.prog) w 28 3 ty 31 i0 _ .i64 .i64 Try.underlying28 Try.underlying3 hi0 hz0 (some ⟨g, 0, none⟩) i rs.length A hhold (rs.length + 1 - i) (by omega) (by omega) (by omega) (by omega) (by rw [hz2]; omega) (by rw [hz2, hik]; exact growslice_fits (by omega) (by omega))
      rw [hik] at h
      rw [hkk, h, hG, hZ1, hZ2, hG]
      congr 4
      simp
    have hZl : Z1.length = R.length + T.length := by
      rw [hZ1, Array.length_toList, size_zeroCells, hRl, hTl]
      show (rs.length + 1 - i) * 4 = 4 + (rs.length - i) * 4
      omega
    have hZ2l : Z2.length = (G - (rs.length + 1)) * 4 := by
      rw [hZ2, Array.length_toList, size_zeroCells]
      rfl
    obtain ⟨W1, hrz', hh1, hb1⟩ : ∃ W1, (∀ ty, (Builtin.append_ #[28, 3] ty #[.slice (some ⟨g, 0, none⟩) i rs.length, .int .i64 ((rs.length : Int) + 1 - (i : Int))]).run Try.prog w =
        .ok (.slice (some ⟨w.heap.size, 0, none⟩) (rs.length + 1) G) W1) ∧ W1.heap[w.heap.size]? = some (.cells (A ++ Z1 ++ Z2).toArray 31 (0, 0)) ∧ Below w.heap.size w W1 :=
      ⟨_, hrz, heap_alloc_new w.drew _, b_alloc (Below.refl _ w).drew _⟩
    obtain ⟨L0, hL0⟩ : ∃ L0, L0 = A ++ Z1 ++ Z2 := ⟨_, rfl⟩
    rw [← hL0] at hh1
    have hL0l : L0.length = G * 4 := by rw [hL0, List.length_append, List.length_append, hAl, hZl, hRl, hTl, hZ2l]; omega
    have hq1 := hid (fun j u (hj : R[j]? = some u) => show W1.cell? ((⟨q, 0, none⟩ : Addr).add j) = some u by rw [Addr.add_lit, Nat.zero_add, (bcell hb1).1 q j hqw.1]; exact hqw.2 j u hj)
    have hnR := hid (show R.length = Nat.min 1 (rs.length + 1 - i) * 4 by rw [hRl, show Nat.min 1 (rs.length + 1 - i) = 1 from Nat.min_eq_left (by omega)])
    have hfR := hid (show i * 4 + R.length ≤ L0.length by omega)
    have hA1 := hid (fun j u (hj : T[j]? = some u) => show W1.cell? ((⟨g, i * 4, none⟩ : Addr).add j) = some u by rw [Addr.add_lit, (bcell hb1).1 g _ hgw]; exact hca (i * 4 + j) u (by rw [List.getElem?_append_right (by omega), hAl, Nat.add_sub_cancel_left]; exact hj))
    replace hh1 := hid hh1
    replace hb1 := hid hb1
    replace hL0 := hid hL0
    have hs1 : w.heap.size < W1.heap.size := heap_lt hh1.out
    have hGi : ¬ (G = i) := by omega
    have hGi1 : ¬ (G = i + 1) := by omega
    have hni : ¬ (rs.length = i) := by omega
    have q1 : ((i : Int) == (rs.length : Int)) = false := by simp; omega
    have g1 : (0 : Int) ≤ (i : Int) := by omega
    have g2 : (i : Int) ≤ (rs.length : Int) := by omega
    have g3 : (i : Int) + 1 ≤ (rs.length : Int) + 1 := by omega
    have g4 : IntKind.i64.wrap ((i : Int) + 1) = (i : Int) + 1 := IntWalk.i64_in _ (by omega)
    have g5 : ((i : Int) + 1).toNat = i + 1 := by omega
    have g6 : i ≤ rs.length := hi
    have hg0 : (0 : Int) ≤ (i : Int) + 1 := by omega
    have ho2' := hid ho2
    have hR1' := hid hR1
    have hfl' := hid hfl
    have hG' := hid hGm
    have hAl' := hid hAl
    have hTl' := hid hTl
    have hZl' := hid hZl
    have hRl' := hid hRl
    have hZ2l' := hid hZ2l
    have hL0l' := hid hL0l
    clear hrz hca hqw hhold hkk hik hZ1 hZ2 hown hA hT hR hG ho1 ho2 hR1 hfl hGm hAl hTl hZl hRl hZ2l hL0l hn
    go_enter Try.func77, Try.ntmps77
    go_wp2_with (first
      | (at_builtin; refine Lib.wpList_append_run _ (by rfl) (.tmp 34) (.tmp 39) 28 3 (by rfl) _ _ (by rfl) (by rfl) _ _ (hrz' _) ?_)
      | (with_reducible refine wpList_copy_s rfl (.tmp 43) (.tmp 44) 28 28 rfl 31 4 Try.underlying28 hsz w.heap.size (i * 4) (rs.length + 1 - i) (G - i) ⟨q, 0, none⟩ 1 1 rfl rfl L0 31 hh1.out R hnR.out hq1.out hfR.out hR1'.out ?_))
    intro W2 hh2 hg2
    have hA2 := hid (fun j u (hj : T[j]? = some u) => show W2.cell? ((⟨g, i * 4, none⟩ : Addr).add j) = some u by
      have h1 := hA1.out j u hj
      rw [Addr.add_lit] at h1 ⊢
      rw [hg2.cell_far _ (by simp; omega) (fun e => by simp at e; omega)]
      exact h1)
    have hs2 := hg2.size
    have hL1l := hid (show (splice L0 (i * 4) R).length = G * 4 by rw [length_splice _ _ _ hfR.out, hL0l'.out])
    have hnT := hid (show T.length = Nat.min (rs.length - i) (rs.length - i) * 4 by rw [hTl'.out, show Nat.min (rs.length - i) (rs.length - i) = rs.length - i from Nat.min_self _])
    have hfT := hid (show (i + 1) * 4 + T.length ≤ (splice L0 (i * 4) R).length by rw [hL1l.out, hTl'.out]; omega)
    have hb2 := hid (hb1.out.grown hg2 (by omega) (fun k hk => by simp at hk; omega))
    clear hA1 hq1 hnR hfR hg2 hh1 hb1
    go_wp2_with fail
    go_still_tail 8, (by kernel_rfl)
    change wpList _ _ _ _ _ W2.drew
    have hh2d : Hid (W2.drew.heap[w.heap.size]? = some (.cells (splice L0 (i * 4) R).toArray 31 (0, 0))) := hh2
    have hA2d : Hid (∀ j u, T[j]? = some u → W2.drew.cell? ((⟨g, i * 4, none⟩ : Addr).add j) = some u) := hA2
    clear hh2 hA2
    go_wp2_with (with_reducible refine wpList_copy_s rfl (.tmp 50) (.tmp 53) 28 28 rfl 31 4 Try.underlying28 hsz w.heap.size ((i + 1) * 4) (rs.length - i) (G - (i + 1)) ⟨g, i * 4, none⟩ (rs.length - i) (rs.length - i) rfl rfl (splice L0 (i * 4) R) 31 hh2d.out T hnT.out hA2d.out hfT.out ho2'.out ?_)
    intro W3 hh3 hg3
    have hb3 : Hid (Below w.heap.size w W3) := hid (hb2.out.drew.grown hg3 (by show w.heap.size ≤ W2.heap.size; omega) (fun k hk => by simp at hk; omega))
    have hrl : (rs.take i ++ (⟨x, ca, cc⟩ : XR Entry) :: rs.drop i).length = rs.length + 1 := by
      rw [List.length_append, List.length_take, List.length_cons, List.length_drop, Nat.min_eq_left g6]; omega
    have hsp := splice2 A R T Z2 Z1
    have hspl := splice2_len A R T Z2 Z1 hZl'.out
    rw [← hL0.out, show A.length = i * 4 from hAl'.out, show i * 4 + R.length = (i + 1) * 4 by rw [hRl'.out]; omega, show (i + 1) * 4 + T.length = (rs.length + 1) * 4 by rw [hTl'.out]; omega] at hsp
    rw [← hL0.out, show A.length = i * 4 from hAl'.out, show i * 4 + R.length = (i + 1) * 4 by rw [hRl'.out]; omega, hZl'.out, hZ2l'.out, hRl'.out, hTl'.out] at hspl
    have hO : Hid (OEntry W3 B (.slice (some ⟨w.heap.size, 0, none⟩) (rs.length + 1) G) ((rs.map (·.x)).take i ++ x :: (rs.map (·.x)).drop i)) := hid ⟨rs.take i ++ ⟨x, ca, cc⟩ :: rs.drop i, by simp,
      ⟨by rw [flat_len xcEntry_len], .inr ⟨w.heap.size, G, _, by rw [hrl], hB, hh3.out, by rw [hrl]; exact hGn, hG'.out, by simp only [List.size_toArray]; rw [hspl]; omega, by
        rw [hrl, hfl'.out, List.append_assoc]
        rw [List.append_assoc] at hsp
        exact hsp⟩⟩, fun q hq => by
        have h1 : CO 102 3 cPart B w (q.v (·.parts)) q.x.parts := by
          rcases List.mem_append.1 hq with hq | hq
          · exact hcs.out q (List.mem_of_mem_take hq)
          · rcases List.mem_cons.1 hq with rfl | hq
            · exact hcr.out
            · exact hcs.out q (List.mem_of_mem_drop hq)
        exact CO.below hb3.out _ _ h1⟩
    have hb4 := hid (hb3.out.mono hB)
    clear hb3 hrl hsp hspl hh3 hg3 hcs hcr hrow hown0
    go_wp2_with fail
    go_ret
    exact ⟨_, rfl, hO.out, hb4.out⟩

set_option maxRecDepth 100000 in
set_option maxHeartbeats 1000000 in
theorem slices_Clone_E (v : Value) (l : List Entry) (B : Nat) (w : World) (h : OEntry w B v l) (hB : B ≤ w.heap.size) (hbs : l.length * 56 ≤ 140737488351232) :
    Calls Try.prog 76 #[v] w (OwnedEntry l B w) := by
  obtain ⟨i0, hi, hz0, hz1, hz2⟩ := info_parts info_E
  obtain ⟨rs, rfl, hown, hcs⟩ := h
  rw [List.length_map] at hbs
  have hrd : RS 4 56 (ERaw (xc cEntry (·.parts))) w v rs := OS.reads (cells := xc cEntry (·.parts)) xcEntry_len (by decide) (fun b o r _ hc j u hj => by
    have hlt := (List.getElem?_eq_some_iff.1 hj).1
    rw [hc j (by rw [xcEntry_len] at hlt; exact hlt), hj]) hown hbs
  have hh := hrd
  obtain ⟨a, c, rfl, hlc, hcm, hre, hno, hat⟩ := hh
  replace hcs := hid hcs
  clear hat hown
  cases a with
  | none =>
    have hc0 := hno rfl
    subst hc0
    have hl0 : rs = [] := List.eq_nil_of_length_eq_zero (by omega)
    subst hl0
    have he := fun w => Lib.run_eql_slice_nil (P := Try.prog) w 28 31 none 0 0 0 0 Try.underlying28
    clear hrd
    go_enter Try.func76, Try.ntmps76
    go_wp2
    go_ret
    exact ⟨_, rfl, OX.nil, Below.refl _ _⟩
  | some ad =>
    have he := fun w => Lib.run_eql_slice_nil (P := Try.prog) w 28 31 (some ad) rs.length c 0 0 Try.underlying28
    clear hno
    replace hrd := hid hrd
    go_enter Try.func76, Try.ntmps76
    go_wp2_with (at_builtin; go_must (refine wpL_append flat_cEntry rfl (.tmp 5) (.tmp 6) 28 rfl 31 i0 _ Try.underlying28 hi hz0 hz1 hz2 rfl w.heap.size _ [] rfl (os_empty' _ _ _ _ (by simp) (by simp)) _ rs rfl (hrd.out.mono ERaw.stable (b_alloc (Below.refl _ _) _)) (by simp; omega) (by simp [maxLen]; omega) (by simp) ?_))
    intro v' w1 hown hg
    have hb := b_grown (b_alloc (Below.refl w.heap.size w) (.cells #[] 31)) hg (fun k hk => by simp [Value.ownBlock] at hk; omega)
    have hO : Hid (OEntry w1 B v' (rs.map (·.x))) := hid ⟨rs, rfl, OS.mono (by simpa using hown) hB, fun q hq => CO.below hb _ _ (hcs.out q hq)⟩
    replace hb := hid (hb.mono hB)
    clear hg hown hcs hrd
    go_wp2
    go_ret
    exact ⟨_, rfl, hO.out, hb.out⟩
end Go.Proofs.Ytcbopanekmpllaa
