import Derived.Test.YtkbijjglodnfbaaGreatQcSkx
import Derived.Test.YtkbijjglodnfbaaGreatQcOwE
namespace Go.Proofs.YtkbijjglodnfbaaGreat
open Go.RowKit
theorem qcmkx_4 {P : Prop} (h : P := by rw [hlen]; exact hin) : P := h
theorem qcmkx_3 {P : Prop} (h : P := by
 rcases os_forms hol.out with ⟨_, h2⟩ | ⟨g3, c4, h1, -⟩
 · rw [h2] at hlt; simp at hlt
 · simp only [Value.slice.injEq] at h1
   exact ⟨g3, h1.1⟩) : P := h
theorem qcmkx_2 {P : Prop} (h : P := by
 clear hput hob hol hbr hg9 hrd hal0
 go_wp2_with fail
 go_roundw
 case rel => exact ⟨j + 1, by omega, by go_num, hal2, ob9, ol9, hb9⟩
 case measure => simp [intOf]; omega) : P := h
theorem qcmkx_1 {P : Prop} (h : P := by
 obtain rfl : j = L.length := by omega
 rw [List.take_length] at hal hob
 have hrd := hid (hob.out.toR (by rw [hal.out.len]; exact hre) (hal.out.fit hfit.out))
 clear hob hal hol
 go_wp2_with fail
 go_ret
 exact ⟨_, L, rfl, hC.out, hrd.out, hbr.out⟩) : P := h
theorem OBlob.mark {w : World} {B g n cap i : Nat} {bs : List Blob} {x : Blob} (m : Bool) (h : OBlob w B (.slice (some ⟨g, 0, none⟩) n cap) bs) (hx : bs[i]? = some x) :
 OBlob (w.setCell ⟨g, i * 4 + 3, none⟩ (.bool m)) B (.slice (some ⟨g, 0, none⟩) n cap) (bs.set i { x with mark := m }) :=
 OX.put h (by decide) xcBlob_len hx (by decide) rfl (fun _ => rfl)
def bare (x : Blob) : ByteArray × List UInt8 × Int := (x.digest, x.data, x.pins)
def Alike (l m : List Blob) : Prop := m.map bare = l.map bare
theorem Alike.refl (l : List Blob) : Alike l l := rfl
theorem Alike.len {l m : List Blob} (h : Alike l m) : m.length = l.length := by
 have := congrArg List.length h
 simpa using this
theorem Alike.set {l m : List Blob} (h : Alike l m) {i : Nat} {x : Blob} (hx : m[i]? = some x) (b : Bool) : Alike l (m.set i { x with mark := b }) := by
 unfold Alike at h ⊢
 rw [List.map_set, ← h]
 have hi := (List.getElem?_eq_some_iff.1 hx).1
 have he := (List.getElem?_eq_some_iff.1 hx).2
 have : bare { x with mark := b } = (m.map bare)[i]'(by simpa using hi) := by rw [List.getElem_map, he]; rfl
 rw [this, List.set_getElem_self]
theorem Alike.at_ (d : ByteArray) : ∀ {l m : List Blob}, Alike l m → atKey (fun x : Blob => x.digest) d m = atKey (fun x : Blob => x.digest) d l
 | [], [], _ => rfl
 | [], y :: m, h => by cases h
 | x :: l, [], h => by cases h
 | x :: l, y :: m, h => by
   unfold Alike at h
   simp only [List.map_cons, List.cons.injEq] at h
   have h1 : y.digest = x.digest := congrArg Prod.fst h.1
   rw [atKey, atKey, h1, Alike.at_ d (l := l) (m := m) h.2]
theorem Alike.fit {l m : List Blob} (h : Alike l m) (hf : ∀ x ∈ l, FitBlob x) : ∀ x ∈ m, FitBlob x := fun x hx => by
 have h1 : bare x ∈ l.map bare := by rw [← h]; exact List.mem_map_of_mem hx
 obtain ⟨y, hy, he⟩ := List.mem_map.1 h1
 have hfy := hf y hy
 unfold bare at he
 simp only [Prod.mk.injEq] at he
 obtain ⟨e1, e2, e3⟩ := he
 obtain ⟨⟨f1, f2⟩, f3⟩ := hfy
 exact ⟨⟨e1 ▸ f1, e3 ▸ f2⟩, e2 ▸ f3⟩
def markAt (l m : List Blob) (d : ByteArray) : List Blob := match m[atKey (fun x : Blob => x.digest) d l]? with | some x => m.set (atKey (fun x : Blob => x.digest) d l) { x with mark := true } | none => m
def marked (l : List Blob) (L : List ByteArray) : List Blob := L.foldl (markAt l) l
theorem markAt_some {l m : List Blob} {d : ByteArray} {x : Blob} (h : m[atKey (fun x : Blob => x.digest) d l]? = some x) : markAt l m d = m.set (atKey (fun x : Blob => x.digest) d l) { x with mark := true } := by
 unfold markAt; rw [h]
theorem marked_next {l : List Blob} {L : List ByteArray} {j : Nat} {d : ByteArray} (h : L.take (j + 1) = L.take j ++ [d]) : marked l (L.take (j + 1)) = markAt l (marked l (L.take j)) d := by
 unfold marked
 rw [h, List.foldl_append]
 rfl
theorem obt {w : World} {B g cap n : Nat} {v : Value} {bs : List Blob} (h : OBlob w B v bs) (hv : v = .slice (some ⟨g, 0, none⟩) n cap) : ∃ cs T fr, w.heap[g]? = some (.cells cs T fr) ∧ T = 80 := by
 obtain ⟨rs, -, ho, -⟩ := h
 subst hv
 obtain ⟨cur, hcur⟩ := OS.owns ho
 exact ⟨_, _, _, hcur, rfl⟩
def MarkPost (l : List Blob) (ds : List ByteArray) (w : World) (e : Ending) (w' : World) : Prop :=
 ∃ v L, e = .returned v ∧ Comes l ds L ∧ RBl w' v (marked l L) ∧ Below w.heap.size w w'
set_option maxRecDepth 100000 in
set_option maxHeartbeats 2000000 in
theorem mark_All (v u : Value) (l : List Blob) (ds : List ByteArray) (w : World) (h : RBl w v l) (g : RT w u ds) :
 Calls Tryz.prog 159 #[v, u] w (MarkPost l ds w) := by
 have hR := hid h
 have hT := hid g
 have hfit := hid (fit_B h)
 have hcp := hid (blob_Copy v l w h)
 obtain ⟨a, c, rfl, hlc, hcm, hre, -⟩ := h
 obtain ⟨a2, c2, rfl, -⟩ := g
 go_enter Tryz.func159, Tryz.ntmps159
 go_wp2_with fail
 ((with_reducible refine hcp.out.mono ?_); rintro e w1 ⟨rfl, o1', b1⟩)
 have o1 : Hid (OBlob w1 w.heap.size (.slice (some ⟨w.heap.size, 0, none⟩) l.length l.length) l) := hid o1'
 replace b1 := hid b1
 clear o1'
 go_wp2_with fail
 ((with_reducible refine (reach_From _ _ l ds _ (hR.out.mono EBlob.stable b1.out) (hT.out.mono EStr.stable b1.out)).mono ?_); rintro e w2 ⟨v2, L, rfl, hC, -, hsz, r2, o2, b2⟩)
 have hb2 := hid (b_call b1.out b2)
 have o12 := hid (OBlob.after o1.out b2)
 have hs1 := b1.out.size
 replace o2 := hid (OS.mono o2 b1.out.size)
 replace hC := hid hC
 replace hsz := hid hsz
 have hLl : L.length * 16 ≤ 140737488351232 := by obtain ⟨_, _, _, _, _, hh, _⟩ := r2; exact hh
 obtain ⟨a3, c3, rfl, -⟩ := id r2
 have hal0 := hid (Alike.refl l)
 have o0 : Hid (OBlob w2 w.heap.size (.slice (some ⟨w.heap.size, 0, none⟩) l.length l.length) (marked l (L.take 0))) := hid o12.out
 clear r2 b2 b1 o1 hcp o12
 go_wp2_with fail
 go_loopw [7, 8, 9, 16] (fun _ _ _ i2 wr => ∃ j : Nat, j ≤ L.length ∧ i2 = .int .i64 (j : Int) ∧ Hid (Alike l (marked l (L.take j))) ∧ Hid (OBlob wr w.heap.size (.slice (some ⟨w.heap.size, 0, none⟩) l.length l.length) (marked l (L.take j))) ∧ Hid (OS 9 1 cStr wr w.heap.size (.slice a3 L.length c3) L) ∧ Hid (Below w.heap.size w wr)) (fun _ _ _ i2 _ => L.length - (intOf i2).toNat)
 case atStart => exact ⟨0, by omega, rfl, hal0, o0, o2, hb2⟩
 case round =>
  obtain ⟨j, hj, rfl, hal, hob, hol, hbr⟩ := hrel
  by_cases hlt : j < L.length
  · have hn : L[j]? = some L[j] := List.getElem?_eq_getElem hlt
    have htk := marked_next (l := l) (List.take_succ_eq_append_getElem hlt)
    have hin := ((hC.out.2 _).1 (List.getElem_mem hlt)).inB
    have hsd := hsz.out _ (List.getElem_mem hlt)
    generalize L[j] = d at *
    obtain ⟨g3, rfl⟩ : ∃ g3, a3 = some ⟨g3, 0, none⟩ := by
     exact qcmkx_3
    have hcell := raw_at (raw_str hol.out hLl) hn
    have hlen := hal.out.len
    have hatd := hal.out.at_ d
    have hrd := hid (hob.out.toR (by rw [hlen]; exact hre) (hal.out.fit hfit.out))
    have hx : (marked l (L.take j))[atKey (fun x : Blob => x.digest) d l]? = some ((marked l (L.take j))[atKey (fun x : Blob => x.digest) d l]'qcmkx_4) := List.getElem?_eq_getElem qcmkx_4
    generalize (marked l (L.take j))[atKey (fun x : Blob => x.digest) d l]'qcmkx_4 = x at hx
    have hnext := hid (htk.trans (markAt_some hx))
    have hal2 := hal.out.set hx true
    rw [← hnext.out] at hal2
    replace hal2 := hid hal2
    have hput := hid (fun (W : World) (g cap n : Nat) (h : OBlob W w.heap.size (.slice (some ⟨g, 0, none⟩) n cap) (marked l (L.take j))) => OBlob.mark true h hx)
    rw [← hnext.out] at hput
    have hinm : InB (marked l (L.take j)) d := by unfold InB; rw [hatd, hlen]; exact hin
    have hf := hid (blob_Find _ _ d _ hrd.out)
    rw [(find_yes hinm).1, (find_yes hinm).2, hatd] at hf
    clear hinm
    have hil : atKey (fun x : Blob => x.digest) d l < (marked l (L.take j)).length := by rw [hlen]; exact hin
    have hi1 : (atKey (fun x : Blob => x.digest) d l : Int) < (l.length : Int) := by unfold InB at hin; omega
    have hi0 : (0 : Int) ≤ (atKey (fun x : Blob => x.digest) d l : Int) := by omega
    generalize atKey (fun x : Blob => x.digest) d l = i at *
    clear hn htk hin hx hatd hal hnext
    go_wp2_with fail
    ((with_reducible refine hf.out.mono ?_); rintro e w5 ⟨rfl, b5⟩)
    replace hob := hid (OBlob.after hob.out b5)
    replace hol := hid (OS.below hol.out b5)
    replace hbr := hid (b_call hbr.out b5)
    clear b5 hf hcell
    obtain ⟨gg, cap, hv, hgB, hgl, ⟨uu, hcu⟩, hfr⟩ := OX.spot hob.out (i := i) (o := 3) hil (by decide)
    have hgt := obt hob.out hv
    simp only [Value.slice.injEq, Option.some.injEq, Addr.mk.injEq, and_true] at hv
    obtain ⟨hv1, hv2, hv3⟩ := hv
    subst hv3
    subst hv1
    rw [hlen] at *
    obtain ⟨cs9, T9, fr9, hg9, hT9⟩ := hgt
    have ob9 := hid (hput.out _ _ _ _ hob.out)
    have ol9 := hid (OS.other (o := i * 4 + 3) (u := .bool true) hol.out hg9 (by rw [hT9]; decide))
    have hb9 := hid (b_set hbr.out (p := ⟨w.heap.size, i * 4 + 3, none⟩) hgB (.bool true))
    exact qcmkx_2
  · exact qcmkx_1
set_option maxRecDepth 100000 in
set_option maxHeartbeats 2000000 in
theorem ref_MarkedAll (v u : Value) (l : List Blob) (ds : List ByteArray) (w : World) (h : RBl w v l) (g : RT w u ds) :
 Calls Tryz.prog 161 #[v, u] w (MarkPost l ds w) := by
 have hR := hid h
 have hT := hid g
 have hfit := hid (fit_B h)
 have hcp := hid (ref_BlobsCopy v l w h)
 obtain ⟨a, c, rfl, hlc, hcm, hre, -⟩ := h
 obtain ⟨a2, c2, rfl, -⟩ := g
 go_enter Tryz.func161, Tryz.ntmps161
 go_wp2_with fail
 ((with_reducible refine hcp.out.mono ?_); rintro e w1 ⟨va, rfl, o1', b1⟩)
 have o1 : Hid (OBlob w1 w.heap.size va l) := hid o1'
 replace b1 := hid b1
 clear o1'
 go_wp2_with fail
 ((with_reducible refine (ref_ReachFrom _ _ l ds _ (hR.out.mono EBlob.stable b1.out) (hT.out.mono EStr.stable b1.out)).mono ?_); rintro e w2 ⟨v2, L, rfl, hC, -, hsz, r2, o2, b2⟩)
 have hb2 := hid (b_call b1.out b2)
 have o12 := hid (OBlob.after o1.out b2)
 have hs1 := b1.out.size
 replace o2 := hid (OS.mono o2 b1.out.size)
 replace hC := hid hC
 replace hsz := hid hsz
 have hLl : L.length * 16 ≤ 140737488351232 := by obtain ⟨_, _, _, _, _, hh, _⟩ := r2; exact hh
 obtain ⟨a3, c3, rfl, -⟩ := id r2
 have hal0 := hid (Alike.refl l)
 have o0 : Hid (OBlob w2 w.heap.size va (marked l (L.take 0))) := hid o12.out
 clear r2 b2 b1 o1 hcp o12
 go_wp2_with fail
 go_loopw [7, 14] (fun _ i2 wr => ∃ j : Nat, j ≤ L.length ∧ i2 = .int .i64 (j : Int) ∧ Hid (Alike l (marked l (L.take j))) ∧ Hid (OBlob wr w.heap.size va (marked l (L.take j))) ∧ Hid (OS 9 1 cStr wr w.heap.size (.slice a3 L.length c3) L) ∧ Hid (Below w.heap.size w wr)) (fun _ i2 _ => L.length - (intOf i2).toNat)
 case atStart => exact ⟨0, by omega, rfl, hal0, o0, o2, hb2⟩
 case round =>
  obtain ⟨j, hj, rfl, hal, hob, hol, hbr⟩ := hrel
  by_cases hlt : j < L.length
  · have hn : L[j]? = some L[j] := List.getElem?_eq_getElem hlt
    have htk := marked_next (l := l) (List.take_succ_eq_append_getElem hlt)
    have hin := ((hC.out.2 _).1 (List.getElem_mem hlt)).inB
    have hsd := hsz.out _ (List.getElem_mem hlt)
    generalize L[j] = d at *
    obtain ⟨g3, rfl⟩ : ∃ g3, a3 = some ⟨g3, 0, none⟩ := by
     exact qcmkx_3
    have hcell := raw_at (raw_str hol.out hLl) hn
    have hlen := hal.out.len
    have hatd := hal.out.at_ d
    have hrd := hid (hob.out.toR (by rw [hlen]; exact hre) (hal.out.fit hfit.out))
    have hx : (marked l (L.take j))[atKey (fun x : Blob => x.digest) d l]? = some ((marked l (L.take j))[atKey (fun x : Blob => x.digest) d l]'qcmkx_4) := List.getElem?_eq_getElem qcmkx_4
    generalize (marked l (L.take j))[atKey (fun x : Blob => x.digest) d l]'qcmkx_4 = x at hx
    have hnext := hid (htk.trans (markAt_some hx))
    have hal2 := hal.out.set hx true
    rw [← hnext.out] at hal2
    replace hal2 := hid hal2
    have hput := hid (fun (W : World) (g cap n : Nat) (h : OBlob W w.heap.size (.slice (some ⟨g, 0, none⟩) n cap) (marked l (L.take j))) => OBlob.mark true h hx)
    rw [← hnext.out] at hput
    have hA := hid (ref_BlobAt _ l d _ (hR.out.mono EBlob.stable hbr.out))
    have hil : atKey (fun x : Blob => x.digest) d l < (marked l (L.take j)).length := by rw [hlen]; exact hin
    have hi1 : (atKey (fun x : Blob => x.digest) d l : Int) < (l.length : Int) := by unfold InB at hin; omega
    have hi0 : (0 : Int) ≤ (atKey (fun x : Blob => x.digest) d l : Int) := by omega
    generalize atKey (fun x : Blob => x.digest) d l = i at *
    clear hn htk hin hx hatd hal hnext
    go_wp2_with fail
    ((with_reducible refine hA.out.mono ?_); rintro e w5 ⟨rfl, rfl⟩)
    clear hA hcell
    obtain ⟨gg, cap, hv, hgB, hgl, ⟨uu, hcu⟩, hfr⟩ := OX.spot hob.out (i := i) (o := 3) hil (by decide)
    have hgt := obt hob.out hv
    subst hv
    have hi2 : (i : Int) < ((marked l (L.take j)).length : Int) := by rw [hlen]; exact hi1
    clear hlen hi1
    obtain ⟨cs9, T9, fr9, hg9, hT9⟩ := hgt
    have ob9 := hid (hput.out _ _ _ _ hob.out)
    have ol9 := hid (OS.other (o := i * 4 + 3) (u := .bool true) hol.out hg9 (by rw [hT9]; decide))
    have hb9 := hid (b_set hbr.out (p := ⟨gg, i * 4 + 3, none⟩) hgB (.bool true))
    exact qcmkx_2
  · exact qcmkx_1
end Go.Proofs.YtkbijjglodnfbaaGreat
