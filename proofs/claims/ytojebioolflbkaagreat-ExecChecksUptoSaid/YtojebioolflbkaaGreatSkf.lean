/-
  The reference's ReachFrom: what it answers; the law ReachComes: its walk. Printed by gen_skf.py.
-/
import Derived.Test.YtojebioolflbkaaGreatSkw
import Derived.Test.YtojebioolflbkaaGreatSkr
import Derived.Maps.AppendAt
namespace Go.Proofs.YtojebioolflbkaaGreat
open Go.RowKit

theorem inB_size {w : World} {v : Value} {l : List Blob} (h : RBl w v l) {x : ByteArray} (hx : InB l x) : x.size ≤ 140737488351232 := by
  obtain ⟨y, hy, rfl⟩ := List.mem_map.1 (inB_digest hx)
  exact (fit_B h y hy).1.1
theorem os_lt {w : World} {B g n c : Nat} {R : List ByteArray} (h : OS 9 1 cStr w B (.slice (some ⟨g, 0, none⟩) n c) R) : g < w.heap.size := by
  obtain ⟨_, h2⟩ := h
  rcases h2 with ⟨h2, _⟩ | ⟨g', _, _, h2, _, h3, _⟩
  · cases h2
  · simp only [Value.slice.injEq, Option.some.injEq, Addr.mk.injEq, and_true] at h2
    obtain ⟨⟨rfl, -⟩, -⟩ := h2
    exact (Array.getElem?_eq_some_iff.1 h3).1
/-- All in the list up to a place have what they come to in the list. -/
def ShutTo (l : List Blob) (i : Nat) (M : List ByteArray) : Prop := ∀ (p : Nat) x, p < i → M[p]? = some x → ∀ y ∈ kidsOf l x, InB l y → y ∈ M
theorem ShutTo.add {l : List Blob} {i : Nat} {M : List ByteArray} (h : ShutTo l i M) (hi : i ≤ M.length) (d : ByteArray) : ShutTo l i (M ++ [d]) := fun p x hp hx y hy hb => by
  rw [List.getElem?_append_left (by omega)] at hx
  exact List.mem_append_left _ (h p x hp hx y hy hb)
theorem ShutTo.next {l : List Blob} {i : Nat} {M : List ByteArray} {x : ByteArray} (h : ShutTo l i M) (hx : M[i]? = some x) (hk : ∀ y ∈ kidsOf l x, InB l y → y ∈ M) : ShutTo l (i + 1) M := fun p z hp hz y hy hb => by
  by_cases e : p = i
  · subst e
    rw [hx] at hz
    cases hz
    exact hk y hy hb
  · exact h p z (by omega) hz y hy hb
theorem ShutTo.all {l : List Blob} {ds M : List ByteArray} (h : ShutTo l M.length M) (hr : ∀ d ∈ ds, InB l d → d ∈ M) (hc : ∀ x ∈ M, Come l ds x) (x : ByteArray) : x ∈ M ↔ Come l ds x := by
  refine ⟨hc x, fun hx => ?_⟩
  induction hx with
  | root h1 h2 => exact hr _ h1 h2
  | step _ h2 h3 ih =>
    obtain ⟨p, hp⟩ := List.mem_iff_getElem?.1 ih
    exact h p _ (List.getElem?_eq_some_iff.1 hp).1 hp _ h2 h3

set_option maxRecDepth 100000 in
set_option maxHeartbeats 4000000 in
theorem ref_ReachFrom (v u : Value) (l : List Blob) (ds : List ByteArray) (w : World) (h : RBl w v l) (g : RT w u ds) :
    Calls Tryz.prog 104 #[v, u] w (FromPost l ds w) := by
  obtain ⟨i0, ii0, hz0, hz1, hz2⟩ := info_parts info_str
  have hR := hid h
  have hT := hid g
  have hsz := hid (fun x (hx : InB l x) => inB_size h hx)
  have hAt := hid (fun d W (g : RBl W v l) => ref_BlobAt v l d W g)
  obtain ⟨a, c, rfl, hlc, hcm, hre, -, hat⟩ := h
  obtain ⟨a2, c2, rfl, hlc2, hcm2, hre2, -⟩ := g
  replace hat := hid hat
  have hown0 : Hid (OS 9 1 cStr w w.heap.size (.slice none 0 0) ([] : List ByteArray)) := hid OS.nil
  have ht0 := hid (Tidy.nil (l := l))
  go_enter Tryz.func104, Tryz.ntmps104
  go_wp2_with fail
  go_loopw [5, 7, 13] (fun o _ i2 wr => ∃ (j : Nat) (M : List ByteArray), j ≤ ds.length ∧ i2 = .int .i64 (j : Int) ∧ Hid (OS 9 1 cStr wr w.heap.size o M) ∧ Hid (Tidy l M) ∧ Hid (∀ x ∈ M, Come l ds x) ∧ Hid (∀ d ∈ ds.take j, InB l d → d ∈ M) ∧ Hid (Below w.heap.size w wr)) (fun _ _ i2 _ => ds.length - (intOf i2).toNat)
  case atStart => exact ⟨0, [], by omega, rfl, hown0, ht0, hid (fun x hx => by simp at hx), hid (fun x hx => by simp at hx), hid (Below.refl _ _)⟩
  case round =>
    obtain ⟨j, M, hj, rfl, hown, htj, hcj, hrj, hbr⟩ := hrel
    have hMl := htj.out.len
    obtain ⟨oa, oc, rfl, -⟩ := id (OS.len_le hown.out)
    have hRr := hid (hR.out.mono EBlob.stable hbr.out)
    by_cases hlt : j < ds.length
    · have hn : ds[j]? = some ds[j] := List.getElem?_eq_getElem hlt
      have htk := hid (List.take_succ_eq_append_getElem hlt)
      have hmem : ds[j] ∈ ds := List.getElem_mem hlt
      generalize ds[j] = d at *
      obtain ⟨bq, oq, hv3, hbq, he4, hsd⟩ := rt_at (hT.out.mono EStr.stable hbr.out) hn
      obtain rfl : a2 = some ⟨bq, oq, none⟩ := hv3
      rw [Nat.mul_one] at he4
      have hA := hid (hAt.out d _ hRr.out)
      clear hn hbq
      by_cases hin : InB l d
      · have hi1 : (atKey (fun x : Blob => x.digest) d l : Int) < (l.length : Int) := by unfold InB at hin; omega
        have hq : decide (atKey (fun x : Blob => x.digest) d l < l.length) = true := decide_eq_true (by omega)
        have hH := hid (ref_holds (.slice oa M.length oc) M d _ (reads_str hown.out (by omega) (fun x hx => hsz.out x (htj.out.inB x hx))))
        generalize atKey (fun x : Blob => x.digest) d l = i at *
        clear hi1
        cases hi : isIn d M with
        | true =>
          rw [hi] at hH
          have hdm := isIn_iff.1 hi
          have hr2 := hid (show ∀ x ∈ ds.take (j + 1), InB l x → x ∈ M from fun x hx hb => by
            rw [htk.out] at hx
            rcases List.mem_append.1 hx with hx | hx
            · exact hrj.out x hx hb
            · rw [List.mem_singleton] at hx
              subst hx
              exact hdm)
          clear hrj htk hi hdm
          go_wp2_with fail
          ((with_reducible refine hA.out.mono ?_); rintro e w1 ⟨rfl, rfl⟩)
          go_wp2_with fail
          ((with_reducible refine hH.out.mono ?_); rintro e w1 ⟨rfl, rfl⟩)
          go_wp2_with fail
          go_roundw
          case rel => exact ⟨j + 1, M, by omega, by go_num, hown, htj, hcj, hr2, hbr⟩
          case measure => simp [intOf]; omega
        | false =>
          rw [hi] at hH
          have hdm := isIn_not.1 hi
          have ht2 := hid (htj.out.add hin hdm)
          have hl2 := ht2.out.len
          rw [List.length_append, List.length_singleton] at hl2
          have hr2 := hid (show ∀ x ∈ ds.take (j + 1), InB l x → x ∈ M ++ [d] from fun x hx hb => by
            rw [htk.out] at hx
            rcases List.mem_append.1 hx with hx | hx
            · exact List.mem_append_left _ (hrj.out x hx hb)
            · exact List.mem_append_right _ hx)
          have hc2 := hid (show ∀ x ∈ M ++ [d], Come l ds x from fun x hx => by
            rcases List.mem_append.1 hx with hx | hx
            · exact hcj.out x hx
            · rw [List.mem_singleton] at hx
              subst hx
              exact .root hmem hin)
          clear hrj htk hi hdm hcj htj hmem
          go_wp2_with fail
          ((with_reducible refine hA.out.mono ?_); rintro e w1 ⟨rfl, rfl⟩)
          go_wp2_with fail
          ((with_reducible refine hH.out.mono ?_); rintro e w1 ⟨rfl, rfl⟩)
          have hrow := row_one (s := 1) (bs := 16) (cells := cStr) wr 9 d #[.string d] wr.heap.size rfl rfl (by decide)
          have hsB := hbr.out.size
          go_wp2_with (at_builtin; go_must (refine wpL_append flat_rstr rfl (.tmp 29) (.tmp 31) 26 rfl 9 i0 _ Tryz.underlying26 ii0 hz0 hz1 hz2 rfl w.heap.size _ _ rfl (OS.alloc hown.out _) _ [d] rfl hrow ?d1 ?d2 ?d3 ?_))
          case d1 => simp; omega
          case d2 => simp [maxLen]; omega
          case d3 => simp; omega
          intro v8 w8 ho8 hg8
          have hb8 := hid ((hbr.out.alloc hsB (Obj.cells #[.string d] 9)).grown hg8 (by simp; omega) (OS.block hown.out))
          replace ho8 := hid ho8
          clear hg8 hrow hown hbr
          go_wp2_with fail
          go_roundw
          case rel => exact ⟨j + 1, M ++ [d], by omega, by go_num, ho8, ht2, hc2, hr2, hb8⟩
          case measure => simp [intOf]; omega
      · have hi1 : ¬ (atKey (fun x : Blob => x.digest) d l : Int) < (l.length : Int) := by unfold InB at hin; omega
        have hq : decide (atKey (fun x : Blob => x.digest) d l < l.length) = false := decide_eq_false (by omega)
        generalize atKey (fun x : Blob => x.digest) d l = i at *
        have hr2 := hid (show ∀ x ∈ ds.take (j + 1), InB l x → x ∈ M from fun x hx hb => by
          rw [htk.out] at hx
          rcases List.mem_append.1 hx with hx | hx
          · exact hrj.out x hx hb
          · rw [List.mem_singleton] at hx
            subst hx
            exact absurd hb hin)
        clear hrj htk hi1
        go_wp2_with fail
        ((with_reducible refine hA.out.mono ?_); rintro e w1 ⟨rfl, rfl⟩)
        go_wp2_with fail
        go_roundw
        case rel => exact ⟨j + 1, M, by omega, by go_num, hown, htj, hcj, hr2, hbr⟩
        case measure => simp [intOf]; omega
    · obtain rfl : j = ds.length := by omega
      have hrj2 := hid (show ∀ x ∈ ds, InB l x → x ∈ M from fun x hx hb => hrj.out x (by rw [List.take_length]; exact hx) hb)
      clear hrj
      go_wp2_with fail
      have hs0 : Hid (ShutTo l 0 M) := hid (fun p x hp => by omega)
      obtain ⟨wl, rfl⟩ : ∃ wl : World, wl = wr := ⟨wr, rfl⟩
      go_loopw [5, 8, 10] (fun o i2 _ wr => ∃ (i : Nat) (M : List ByteArray), i ≤ M.length ∧ i2 = .int .i64 (i : Int) ∧ Hid (OS 9 1 cStr wr w.heap.size o M) ∧ Hid (Tidy l M) ∧ Hid (∀ x ∈ M, Come l ds x) ∧ Hid (∀ d ∈ ds, InB l d → d ∈ M) ∧ Hid (ShutTo l i M) ∧ Hid (Below w.heap.size w wr)) (fun _ i2 _ _ => l.length - (intOf i2).toNat)
      case atStart => exact ⟨0, M, by omega, rfl, hown, htj, hcj, hrj2, hs0, hbr⟩
      case round =>
        clear hown htj hcj hrj2 hs0 hbr hMl hRr
        obtain ⟨i, M, hi, rfl, hown, htj, hcj, hrj, hsj, hbr⟩ := hrel
        have hMl := htj.out.len
        have hRr := hid (hR.out.mono EBlob.stable hbr.out)
        by_cases hlt : i < M.length
        · have hx : M[i]? = some M[i] := List.getElem?_eq_getElem hlt
          have hxm : M[i] ∈ M := List.getElem_mem hlt
          generalize M[i] = x at hx hxm
          have hin := htj.out.inB x hxm
          have hcx := hid (hcj.out x hxm)
          rcases os_forms hown.out with ⟨rfl, rfl⟩ | ⟨g, cap, rfl, hcap⟩
          · simp at hlt
          · have hcell := raw_at (raw_str hown.out (by omega)) hx
            have hi0 : (0 : Int) ≤ (i : Int) := by omega
            have hi1 : (i : Int) < (M.length : Int) := by omega
            have hA := hid (hAt.out x _ hRr.out)
            have hy : l[atKey (fun x : Blob => x.digest) x l]? = some l[atKey (fun x : Blob => x.digest) x l] := List.getElem?_eq_getElem hin
            have hks := kids_at hy
            have hkl := kids_le l x
            have hklt : atKey (fun x : Blob => x.digest) x l < l.length := hin
            generalize l[atKey (fun x : Blob => x.digest) x l] = y at hy hks
            obtain ⟨bb, off, rfl, hbb, hex⟩ := hat.out _ _ hy
            obtain ⟨dv, d0, d1, d2, d3, rdv, -⟩ := EBlob.stable _ _ _ _ _ hbr.out hbb hex
            have hP := hid (fun w (h : RB w dv y.data) => ref_PartsIn' y dv w h (decParts y.data).1 (decParts y.data).2 (fun w g => ref_PartsOf dv y.data w g))
            unfold DigPost at hP
            rw [← hks] at hP
            have rdv2 := hid rdv
            obtain ⟨xa, xc, rfl, -⟩ := rdv
            have hsub := hid (fun d (hd : d ∈ kidsOf l x) (hb : InB l d) => Come.step hcx.out hd hb)
            have hnext := hid (fun (M : List ByteArray) (h : ShutTo l i M) (h2 : M[i]? = some x) (h3 : ∀ y ∈ kidsOf l x, InB l y → y ∈ M) => h.next h2 h3)
            generalize atKey (fun x : Blob => x.digest) x l = n at *
            generalize kidsOf l x = ks at *
            obtain ⟨hk8, hksz⟩ := hkl
            replace hksz := hid hksz
            have hn0 : (0 : Int) ≤ (n : Int) := by omega
            have hn1 : (n : Int) < (l.length : Int) := by omega
            replace hx := hid hx
            clear hks hy hex hbb hcx hxm hin
            go_wp2_with fail
            ((with_reducible refine hA.out.mono ?_); rintro e w1 ⟨rfl, rfl⟩)
            go_wp2_with fail
            ((with_reducible refine (hP.out _ rdv2.out).mono ?_); rintro e w3 ⟨v3, rfl, o3, b3⟩)
            have hk3 := hid (OS.block o3)
            have hglt := os_lt hown.out
            have hown3 := hid (World.ownsRow.kept (row := none) hown.out (below_grown b3 none) (Or.inr (by simp [Value.ownBlock])) : OS 9 1 cStr w3 w.heap.size (.slice (some ⟨g, 0, none⟩) M.length cap) M)
            have hb3 := hid (b_call hbr.out b3)
            clear d0 d1 d2 d3 hcell rdv2 hP hA hown
            have hil : Hid (i < M.length ∧ M[i]? = some x) := hid ⟨hlt, hx.out⟩
            have hzr := hb3.out.size
            have hrsz := hbr.out.size
            rcases os_forms o3 with ⟨rfl, rfl⟩ | ⟨g3, c3, rfl, hc3⟩
            · have hs9 := hid (hnext.out M hsj.out hx.out (fun y hy => by simp at hy))
              clear hsub hnext hsj o3 b3
              go_wp2_with fail
              go_loopw [5, 10, 51] (fun o _ i3 wx => o = .slice (some ⟨g, 0, none⟩) M.length cap ∧ i3 = .int .i64 0 ∧ wx = w3) (fun _ _ _ _ => 0)
              case atStart => exact ⟨rfl, rfl, rfl⟩
              case round =>
                obtain ⟨rfl, rfl, rfl⟩ := hrel
                go_wp2_with fail
                go_roundw
                case rel => exact ⟨i + 1, M, by omega, by go_num, hown3, htj, hcj, hrj, hs9, hb3⟩
                case measure => simp [intOf]; omega
            · have hg3 := hk3.out g3 rfl
              have hne3 : Hid ((Value.slice (some ⟨g, 0, none⟩) M.length cap).ownBlock ≠ some g3) := hid (by simp [Value.ownBlock]; omega)
              replace o3 := hid o3
              clear b3 hk3 hx
              have hk0 : Hid (∀ y ∈ ks.take 0, InB l y → y ∈ M) := hid (fun y hy => by simp at hy)
              go_wp2_with fail
              go_loopw [5, 10, 51] (fun o _ i3 wx => ∃ (j : Nat) (M2 : List ByteArray), j ≤ ks.length ∧ i3 = .int .i64 (j : Int) ∧ Hid (OS 9 1 cStr wx w.heap.size o M2) ∧ Hid (Tidy l M2) ∧ Hid (∀ x ∈ M2, Come l ds x) ∧ Hid (∀ d ∈ ds, InB l d → d ∈ M2) ∧ Hid (ShutTo l i M2) ∧ Hid (i < M2.length ∧ M2[i]? = some x) ∧ Hid (∀ y ∈ ks.take j, InB l y → y ∈ M2) ∧ Hid (o.ownBlock ≠ some g3) ∧ Hid (OS 9 1 cStr wx wr.heap.size (.slice (some ⟨g3, 0, none⟩) ks.length c3) ks) ∧ Hid (Below w.heap.size w wx)) (fun _ _ i3 _ => ks.length - (intOf i3).toNat)
              case atStart => exact ⟨0, M, by omega, rfl, hown3, htj, hcj, hrj, hsj, hil, hk0, hne3, o3, hb3⟩
              case round =>
                clear hown3 htj hcj hrj hsj hil hk0 hne3 o3 hb3 hRr
                obtain ⟨j, M2, hj, rfl, hown, htj, hcj, hrj, hsj, hil, hkj, hne, ho3, hbx⟩ := hrel
                rename World => wx
                have hM2 := htj.out.len
                obtain ⟨oa, oc, rfl, -⟩ := id (OS.len_le hown.out)
                by_cases hlt2 : j < ks.length
                · have hn : ks[j]? = some ks[j] := List.getElem?_eq_getElem hlt2
                  have htk := hid (List.take_succ_eq_append_getElem hlt2)
                  have hmem : ks[j] ∈ ks := List.getElem_mem hlt2
                  generalize ks[j] = d at *
                  have hcell := raw_at (raw_str ho3.out (by omega)) hn
                  have hj0 : (0 : Int) ≤ (j : Int) := by omega
                  have hj1 : (j : Int) < (ks.length : Int) := by omega
                  have hA := hid (hAt.out d _ (hR.out.mono EBlob.stable hbx.out))
                  clear hn
                  by_cases hin : InB l d
                  · have hq : decide (atKey (fun x : Blob => x.digest) d l < l.length) = true := decide_eq_true hin
                    have hH := hid (ref_holds (.slice oa M2.length oc) M2 d _ (reads_str hown.out (by omega) (fun x hx => hsz.out x (htj.out.inB x hx))))
                    generalize atKey (fun x : Blob => x.digest) d l = q at *
                    cases hi : isIn d M2 with
                    | true =>
                      rw [hi] at hH
                      have hdm := isIn_iff.1 hi
                      have hk2 := hid (show ∀ y ∈ ks.take (j + 1), InB l y → y ∈ M2 from fun y hy hb => by
                        rw [htk.out] at hy
                        rcases List.mem_append.1 hy with hy | hy
                        · exact hkj.out y hy hb
                        · rw [List.mem_singleton] at hy
                          subst hy
                          exact hdm)
                      clear hkj htk hi hdm
                      go_wp2_with fail
                      ((with_reducible refine hA.out.mono ?_); rintro e w1 ⟨rfl, rfl⟩)
                      go_wp2_with fail
                      ((with_reducible refine hH.out.mono ?_); rintro e w1 ⟨rfl, rfl⟩)
                      go_wp2_with fail
                      go_roundw
                      case rel => exact ⟨j + 1, M2, by omega, by go_num, hown, htj, hcj, hrj, hsj, hil, hk2, hne, ho3, hbx⟩
                      case measure => simp [intOf]; omega
                    | false =>
                      rw [hi] at hH
                      have hdm := isIn_not.1 hi
                      have ht2 := hid (htj.out.add hin hdm)
                      have hl2 := ht2.out.len
                      rw [List.length_append, List.length_singleton] at hl2
                      have hk2 := hid (show ∀ y ∈ ks.take (j + 1), InB l y → y ∈ M2 ++ [d] from fun y hy hb => by
                        rw [htk.out] at hy
                        rcases List.mem_append.1 hy with hy | hy
                        · exact List.mem_append_left _ (hkj.out y hy hb)
                        · exact List.mem_append_right _ hy)
                      have hc2 := hid (show ∀ x ∈ M2 ++ [d], Come l ds x from fun x hx => by
                        rcases List.mem_append.1 hx with hx | hx
                        · exact hcj.out x hx
                        · rw [List.mem_singleton] at hx
                          subst hx
                          exact hsub.out x hmem hin)
                      have hr2 := hid (fun x hx hb => List.mem_append_left [d] (hrj.out x hx hb))
                      have hs2 := hid (hsj.out.add (Nat.le_of_lt hil.out.1) d)
                      have hi2 : Hid (i < (M2 ++ [d]).length ∧ (M2 ++ [d])[i]? = some x) := hid ⟨by rw [List.length_append]; have := hil.out.1; omega, by rw [List.getElem?_append_left hil.out.1]; exact hil.out.2⟩
                      have hg3x := os_lt ho3.out
                      clear hkj htk hi hdm hcj htj hmem hrj hsj hil
                      go_wp2_with fail
                      ((with_reducible refine hA.out.mono ?_); rintro e w1 ⟨rfl, rfl⟩)
                      go_wp2_with fail
                      ((with_reducible refine hH.out.mono ?_); rintro e w1 ⟨rfl, rfl⟩)
                      have hrow := row_one (s := 1) (bs := 16) (cells := cStr) wx 9 d #[.string d] wx.heap.size rfl rfl (by decide)
                      have hsB := hbx.out.size
                      go_wp2_with (at_builtin; go_must (refine wpL_append_at flat_rstr rfl (.tmp 67) (.tmp 69) 26 rfl 9 i0 _ Tryz.underlying26 ii0 hz0 hz1 hz2 rfl w.heap.size _ _ rfl (OS.alloc hown.out _) _ [d] rfl hrow ?d1 ?d2 ?d3 ?_))
                      case d1 => simp; omega
                      case d2 => simp [maxLen]; omega
                      case d3 => simp; omega
                      intro v8 w8 ho8 hg8 hat8
                      have hb8 := hid ((hbx.out.alloc hsB (Obj.cells #[.string d] 9)).grown hg8 (by simp; omega) (OS.block hown.out))
                      have hk8 := hid (World.ownsRow.kept (row := (Value.slice oa M2.length oc).ownBlock) (OS.alloc ho3.out (Obj.cells #[.string d] 9)) hg8 (Or.inr (fun e => hne.out (by rw [← e]; simp [Value.ownBlock]))) : OS 9 1 cStr w8 wr.heap.size (.slice (some ⟨g3, 0, none⟩) ks.length c3) ks)
                      have hne8 : Hid (v8.ownBlock ≠ some g3) := hid (by
                        rcases hat8 with h | h
                        · rw [h]; exact hne.out
                        · rw [h]; simp; omega)
                      replace ho8 := hid ho8
                      clear hg8 hrow hown hbx hat8 ho3 hne
                      go_wp2_with fail
                      go_roundw
                      case rel => exact ⟨j + 1, M2 ++ [d], by omega, by go_num, ho8, ht2, hc2, hr2, hs2, hi2, hk2, hne8, hk8, hb8⟩
                      case measure => simp [intOf]; omega
                  · have hq : decide (atKey (fun x : Blob => x.digest) d l < l.length) = false := decide_eq_false hin
                    generalize atKey (fun x : Blob => x.digest) d l = q at *
                    have hk2 := hid (show ∀ y ∈ ks.take (j + 1), InB l y → y ∈ M2 from fun y hy hb => by
                      rw [htk.out] at hy
                      rcases List.mem_append.1 hy with hy | hy
                      · exact hkj.out y hy hb
                      · rw [List.mem_singleton] at hy
                        subst hy
                        exact absurd hb hin)
                    clear hkj htk
                    go_wp2_with fail
                    ((with_reducible refine hA.out.mono ?_); rintro e w1 ⟨rfl, rfl⟩)
                    go_wp2_with fail
                    go_roundw
                    case rel => exact ⟨j + 1, M2, by omega, by go_num, hown, htj, hcj, hrj, hsj, hil, hk2, hne, ho3, hbx⟩
                    case measure => simp [intOf]; omega
                · obtain rfl : j = ks.length := by omega
                  have hs9 := hid (hnext.out M2 hsj.out hil.out.2 (fun y hy => hkj.out y (by rw [List.take_length]; exact hy)))
                  have hil9 := hil.out.1
                  clear hsub hnext hsj hkj hil
                  go_wp2_with fail
                  go_roundw
                  case rel => exact ⟨i + 1, M2, by omega, by go_num, hown, htj, hcj, hrj, hs9, hbx⟩
                  case measure => simp [intOf]; omega
        · obtain rfl : i = M.length := by omega
          have hall := hid (fun x => hsj.out.all hrj.out hcj.out x)
          have hC := hid (show Comes l ds (risingL M) from by
            have := Comes.of_sort htj.out.nodup hall.out
            rw [risingL_eq (M := M) (fun x => Iff.rfl) htj.out.nodup] at this
            exact this)
          have hrl := hid (show (risingL M).length = M.length from by rw [← risingL_eq (M := M) (fun x => Iff.rfl) htj.out.nodup, sortS_len])
          have hrs := hid (fun x (hx : x ∈ risingL M) => hsz.out x (((hC.out.2 x).1 hx).inB))
          obtain ⟨oa, oc, rfl, -⟩ := id (OS.len_le hown.out)
          have hrt := hid (reads_str hown.out (by omega) (fun x hx => hsz.out x (htj.out.inB x hx)))
          clear hall hsj hrj hcj
          go_wp2_with fail
          ((with_reducible refine (ref_rising _ M _ hrt.out).mono ?_); rintro e w7 ⟨v7, rfl, o7, b7⟩)
          have hb7 := hid (b_call hbr.out b7)
          have r7 := hid (reads_str o7 (by rw [hrl.out]; omega) hrs.out)
          have o8 := hid (OS.mono o7 hbr.out.size)
          clear o7 b7
          go_wp2_with fail
          go_ret
          exact ⟨_, _, rfl, hC.out, by rw [hrl.out]; omega, hrs.out, r7.out, o8.out, hb7.out⟩
end Go.Proofs.YtojebioolflbkaaGreat
