import Derived.Test.YtpkpgehiplhkpaaGreatTzChn
namespace Go.Proofs.YtpkpgehiplhkpaaGreat
open Go.RowKit Go.Maps
theorem qzchc_9 {P : Prop} (h : P := by omega) : P := h
theorem qzchc_8 {P : Prop} (h : P := by
 go_wp2_with fail
 go_roundw
 case rel => exact ⟨k + 1, by omega, by go_num, hown1, hb1⟩
 case measure => simp [intOf]; omega) : P := h
theorem qzchc_7 {P : Prop} (h : P := by
 replace hk := hid hk
 replace h0 := hid h0
 go_enter Tryz.func122, Tryz.ntmps122
 go_wp2_with fail
 go_ret
 exact ⟨ret_i hr.out.symm, hbA.out⟩) : P := h
theorem qzchc_6 {P : Prop} (h : P := by
 go_wp2_with fail
 ((with_reducible refine hwi.out.mono ?_); rintro e w10 ⟨rfl, b10⟩)
 have hb10 := hid (b_call hb5.out b10)
 clear b10
 go_wp2_with fail
 go_ret
 exact ⟨ret_i hd.out.symm, hb10.out⟩) : P := h
theorem qzchc_5 {P : Prop} (h : P := by
 go_wp2_with fail
 ((with_reducible refine hwi.out.mono ?_); rintro e w10 ⟨rfl, b10⟩)
 have hb10 := hid (b_call hb9.out b10)
 clear b10
 go_wp2_with fail
 go_ret
 exact ⟨ret_i hd.out.symm, hb10.out⟩) : P := h
theorem qzchc_1 {P : Prop} (h : P := by
 go_enter Tryz.func122, Tryz.ntmps122
 go_wp2_with fail
 ((with_reducible refine (hx.out _).mono ?_); rintro e w1 ⟨rfl, b1⟩)
 have hq1 := stays b1 hqA.out
 have hb1 := hid (b_call hbA.out b1)
 obtain ⟨x0, x1, x2, -⟩ := box3f hq1
 clear b1
 go_wp2_with fail
 go_ret
 exact ⟨ret_i hr.out.symm, hb1.out⟩) : P := h
theorem qzchc_4 {P : Prop} (h : P := by
 have hr := hid (e2.out (fun h => h.2.1.elim (fun e => by rw [e] at hl0; simp at hl0) (fun e => by cases e)))
 have l1 : decide ((gy.length : Int) > 0) = true := decide_eq_true qzchc_9
 have l2 : decide (0 < gy.length) = true := decide_eq_true qzchc_9
 replace hl0 := hid hl0
 clear e2 e3
 exact qzchc_1) : P := h
theorem qzchc_3 {P : Prop} (h : P := by
 have hr := hid (hb5.out a2)
 clear hall hn hbad hnx hb5 hn5 a2 hp
 go_wp2_with fail
 ((with_reducible refine hxd.out.mono ?_); rintro e w1 ⟨rfl, b1⟩)
 have hq1 := stays b1 hqr
 obtain ⟨x0, x1, x2, -⟩ := box3f hq1
 have he6 := cell_stays b1 (Nat.lt_of_lt_of_le hgl (Nat.le_refl _)) he5
 have hb1 := hid (b_call hbk.out b1)
 clear b1 hxd he4 he5
 go_wp2_with fail
 go_ret
 exact ⟨ret_i hr.out.symm, hb1.out⟩) : P := h
theorem qzchc_2 {P : Prop} (h : P := by
 by_cases hl0 : 0 < gy.length
 · have hr := hid (e2.out (fun h => h.2.1.elim (fun e => by rw [e] at hl0; simp at hl0) (fun e => by cases e)))
   have l1 : decide ((gy.length : Int) > 0) = true := decide_eq_true qzchc_9
   have l2 : decide (0 < gy.length) = true := decide_eq_true qzchc_9
   replace hl0 := hid hl0
   clear e2 e3
   go_enter Tryz.func122, Tryz.ntmps122
   go_wp2_with fail
   go_ret
   exact ⟨ret_i hr.out.symm, hbA.out⟩
 · have hgy : gy = [] := List.eq_nil_of_length_eq_zero qzchc_9
   have hr := hid (e3.out (⟨.inl rfl, .inl hgy, hgy ▸ goodG_nil⟩))
   have l0 : gy.length = 0 := by rw [hgy]; rfl
   have l1 : decide ((gy.length : Int) > 0) = false := decide_eq_false qzchc_9
   have l2 : decide (0 < gy.length) = false := decide_eq_false qzchc_9
   replace hl0 := hid hl0
   clear e2 e3
   subst hgy
   go_enter Tryz.func122, Tryz.ntmps122
   go_wp2_with fail
   (try (refine wp_loop_rounds 1 ?_; rw [rounds_succ]; go_wp2_with fail))
   go_ret
   exact ⟨ret_i hr.out.symm, hbA.out⟩) : P := h
theorem rising_blobs' {l : List Blob} (h : blobsFault l = 0) : Rising (fun x : Blob => x.digest) l := by
 unfold blobsFault at h
 split at h
 · cases h
 refine (rising_of (fun p x h => ?_) h).1
 unfold blobFault at h
 split at h
 · split at h
   · cases h
   rename_i h2; simpa using h2
 rename_i h1; exact absurd h h1
def markedD (bs : List Blob) : List ByteArray := (bs.filter (·.mark)).map (·.digest)
theorem marked_yes {bs : List Blob} {j : Nat} {x : Blob} (h : bs.take (j + 1) = bs.take j ++ [x]) (hp : x.mark = true) : markedD (bs.take (j + 1)) = markedD (bs.take j) ++ [x.digest] := by
 unfold markedD
 rw [h, List.filter_append]
 simp [hp]
theorem marked_no {bs : List Blob} {j : Nat} {x : Blob} (h : bs.take (j + 1) = bs.take j ++ [x]) (hp : x.mark = false) : markedD (bs.take (j + 1)) = markedD (bs.take j) := by
 unfold markedD
 rw [h, List.filter_append]
 simp [hp]
theorem marked_len (bs : List Blob) : (markedD bs).length ≤ bs.length := by
 unfold markedD
 rw [List.length_map]
 exact List.length_filter_le _ _
theorem marked_size {bs : List Blob} (hb : ∀ x ∈ bs, FitBlob x) : ∀ x ∈ markedD bs, x.size ≤ 140737488351232 := fun x hx => by
 obtain ⟨y, hy, rfl⟩ := List.mem_map.1 hx
 exact (hb y (List.mem_filter.1 hy).1).1.1
def deepD (bs : List Blob) : List ByteArray := (bs.filter (·.mark)).flatMap digsOf
theorem deep_yes {bs : List Blob} {j : Nat} {x : Blob} (h : bs.take (j + 1) = bs.take j ++ [x]) (hp : x.mark = true) : deepD (bs.take (j + 1)) = deepD (bs.take j) ++ digsOf x := by
 unfold deepD
 rw [h, List.filter_append, List.flatMap_append]
 simp [hp]
theorem deep_no {bs : List Blob} {j : Nat} {x : Blob} (h : bs.take (j + 1) = bs.take j ++ [x]) (hp : x.mark = false) : deepD (bs.take (j + 1)) = deepD (bs.take j) := by
 unfold deepD
 rw [h, List.filter_append, List.flatMap_append]
 simp [hp]
theorem flat_small : ∀ l : List Blob, (l.flatMap digsOf).length ≤ l.length * 8
 | [] => by simp
 | x :: l => by
   have h1 := (digs_small x).1
   have h2 := flat_small l
   rw [List.flatMap_cons, List.length_append, List.length_cons]
   omega
theorem deep_len (bs : List Blob) : (deepD bs).length ≤ bs.length * 8 := by
 unfold deepD
 have h1 := flat_small (bs.filter (·.mark))
 have h2 := List.length_filter_le (·.mark) bs
 omega
theorem deep_size (bs : List Blob) : ∀ x ∈ deepD bs, x.size ≤ 140737488351232 := fun x hx => by
 obtain ⟨y, hy, h⟩ := List.mem_flatMap.1 hx
 exact (digs_small y).2 x h
def isSub (A B : List ByteArray) : Bool := A.all (fun d => isIn d B)
theorem isSub_iff {A B : List ByteArray} : isSub A B = true ↔ ∀ d ∈ A, d ∈ B := by
 unfold isSub
 rw [List.all_eq_true]
 exact ⟨fun h d hd => isIn_iff.1 (h d hd), fun h d hd => isIn_iff.2 (h d hd)⟩
theorem comes_one {l : List Blob} {d : ByteArray} {L : List ByteArray} (h : Comes l [d] L) : L.length = 0 ↔ ¬ InB l d := by
 constructor
 · intro h0 hb
   have := (h.2 d).2 (.root (List.mem_singleton_self _) hb)
   rw [List.eq_nil_of_length_eq_zero h0] at this
   cases this
 intro hb
 have key : ∀ x, ¬ Come l [d] x := fun x hx => by
  induction hx with
  | root h1 h2 => rw [List.mem_singleton] at h1; subst h1; exact hb h2
  | step _ _ _ ih => exact ih
 cases L with
 | nil => rfl
 | cons x L => exact absurd ((h.2 x).1 List.mem_cons_self) (key x)
open Classical in
noncomputable def inBb (l : List Blob) (d : ByteArray) : Bool := decide (InB l d)
open Classical in
theorem inBb_iff {l : List Blob} {d : ByteArray} : inBb l d = true ↔ InB l d := by unfold inBb; rw [decide_eq_true_eq]
def okMust (bs : List Blob) (gy D : List ByteArray) : Prop := ∀ d ∈ D, ∀ x, bs[atKey (fun x : Blob => x.digest) d bs]? = some x → x.mark = true ∨ d ∈ gy
theorem marked_at {bs : List Blob} (hr : Rising (fun x : Blob => x.digest) bs) {d : ByteArray} {x : Blob} (hx : bs[atKey (fun x : Blob => x.digest) d bs]? = some x) : d ∈ markedD bs ↔ x.mark = true := by
 constructor
 · intro h
   obtain ⟨y, hy, he⟩ := List.mem_map.1 h
   obtain ⟨hy1, hy2⟩ := List.mem_filter.1 hy
   have hxd := atKey_key hx
   have hxm := List.mem_of_getElem? hx
   have hxy : x = y := by
    obtain ⟨i, hi⟩ := List.getElem?_of_mem hxm
    obtain ⟨j, hj⟩ := List.getElem?_of_mem hy1
    obtain ⟨hi1, hi2⟩ := List.getElem?_eq_some_iff.1 hi
    obtain ⟨hj1, hj2⟩ := List.getElem?_eq_some_iff.1 hj
    have hp := List.pairwise_iff_getElem.1 hr
    rcases Nat.lt_trichotomy i j with h1 | h1 | h1
    · have := hp i j hi1 hj1 h1
      simp only [hi2, hj2] at this
      rw [hxd, he, slt_irrefl] at this
      cases this
    · subst h1; rw [hi] at hj; exact Option.some.inj hj
    have := hp j i hj1 hi1 h1
    simp only [hi2, hj2] at this
    rw [hxd, he, slt_irrefl] at this
    cases this
   rw [hxy]; exact hy2
 intro h
 exact List.mem_map.2 ⟨x, List.mem_filter.2 ⟨List.mem_of_getElem? hx, h⟩, atKey_key hx⟩
theorem inB_some {bs : List Blob} {d : ByteArray} : InB bs d ↔ ∃ x, bs[atKey (fun x : Blob => x.digest) d bs]? = some x := by
 unfold InB
 constructor
 · intro h; exact ⟨_, List.getElem?_eq_getElem h⟩
 rintro ⟨x, hx⟩; exact (List.getElem?_eq_some_iff.1 hx).1
theorem sub_there {bs : List Blob} (hr : Rising (fun x : Blob => x.digest) bs) (gy D : List ByteArray) : isSub (D.filter (inBb bs)) (markedD bs ++ gy) = true ↔ okMust bs gy D := by
 rw [isSub_iff]
 constructor
 · intro h d hd x hx
   have := h d (List.mem_filter.2 ⟨hd, inBb_iff.2 (inB_some.2 ⟨x, hx⟩)⟩)
   rcases List.mem_append.1 this with h1 | h1
   · exact .inl ((marked_at hr hx).1 h1)
   exact .inr h1
 intro h d hd
 obtain ⟨h1, h2⟩ := List.mem_filter.1 hd
 obtain ⟨x, hx⟩ := inB_some.1 (inBb_iff.1 h2)
 rcases h d h1 x hx with h3 | h3
 · exact List.mem_append_left _ ((marked_at hr hx).2 h3)
 exact List.mem_append_right _ h3
theorem sub_all {bs : List Blob} (hr : Rising (fun x : Blob => x.digest) bs) {D : List ByteArray} (hD : ∀ d ∈ D, InB bs d) : isSub D (markedD bs) = true ↔ okMust bs [] D := by
 rw [isSub_iff]
 constructor
 · intro h d hd x hx
   exact .inl ((marked_at hr hx).1 (h d hd))
 intro h d hd
 obtain ⟨x, hx⟩ := inB_some.1 (hD d hd)
 rcases h d hd x hx with h3 | h3
 · exact (marked_at hr hx).2 h3
 cases h3
def goodG (gy : List ByteArray) : Prop := ∀ i d, gy[i]? = some d → hexFault d = 0 ∧ ∀ p, 0 < i → gy[i - 1]? = some p → slt p d = true
def goodC (ph : Int) (gy : List ByteArray) (pl : ByteArray) : Prop := (pl = ⟨#[]⟩ ∨ ph = 2 ∧ hexFault pl = 0) ∧ (gy = [] ∨ ph = 1) ∧ goodG gy
open Classical in
noncomputable def shapeE (ph : Int) (gy : List ByteArray) (pl : ByteArray) : Int := if ph < 0 ∨ 2 < ph then 2 else if goodC ph gy pl then 0 else 3
theorem shape_kind {ph : Int} {gy : List ByteArray} {pl : ByteArray} (h : ph < 0 ∨ 2 < ph) : shapeE ph gy pl = 2 := if_pos h
theorem shape_bad {ph : Int} {gy : List ByteArray} {pl : ByteArray} (h : ¬ (ph < 0 ∨ 2 < ph)) (h2 : ¬ goodC ph gy pl) : shapeE ph gy pl = 3 := by unfold shapeE; rw [if_neg h, if_neg h2]
theorem shape_ok {ph : Int} {gy : List ByteArray} {pl : ByteArray} (h : ¬ (ph < 0 ∨ 2 < ph)) (h2 : goodC ph gy pl) : shapeE ph gy pl = 0 := by unfold shapeE; rw [if_neg h, if_pos h2]
theorem shape_zero {ph : Int} {gy : List ByteArray} {pl : ByteArray} (h : shapeE ph gy pl = 0) : (ph = 0 ∨ ph = 1 ∨ ph = 2) ∧ goodC ph gy pl := by
 unfold shapeE at h
 split at h
 · cases h
 split at h
 · rename_i h1 h2
   exact ⟨by omega, h2⟩
 cases h
noncomputable def mustD (ph : Int) (bs : List Blob) (es : List Entry) : List ByteArray := if ph = 1 then rootsL bs es ++ deepD bs else if ph = 2 then allOf bs es else []
open Classical in
noncomputable def collE (z s ph : Int) (bs : List Blob) (es : List Entry) (gy : List ByteArray) : Int := if z ≠ 0 then z else if s ≠ 0 then s else if okMust bs gy (mustD ph bs es) then 0 else 12
theorem coll_z {z s ph : Int} {bs : List Blob} {es : List Entry} {gy : List ByteArray} (h : z ≠ 0) : collE z s ph bs es gy = z := if_pos h
theorem coll_s {s ph : Int} {bs : List Blob} {es : List Entry} {gy : List ByteArray} (h : s ≠ 0) : collE 0 s ph bs es gy = s := by unfold collE; rw [if_neg (by simp), if_pos h]
theorem coll_ok {ph : Int} {bs : List Blob} {es : List Entry} {gy : List ByteArray} (h : okMust bs gy (mustD ph bs es)) : collE 0 0 ph bs es gy = 0 := by unfold collE; rw [if_neg (by simp), if_neg (by simp), if_pos h]
theorem coll_bad {ph : Int} {bs : List Blob} {es : List Entry} {gy : List ByteArray} (h : ¬ okMust bs gy (mustD ph bs es)) : collE 0 0 ph bs es gy = 12 := by unfold collE; rw [if_neg (by simp), if_neg (by simp), if_neg h]
set_option maxRecDepth 100000 in
set_option maxHeartbeats 2000000 in
theorem collect_marked (v : Value) (bs : List Blob) (w : World) (h : RBl w v bs) :
 Calls Tryz.prog 123 #[v] w fun e w' => ∃ v', e = .returned v' ∧ RT w' v' (markedD bs) ∧ Below w.heap.size w w' := by
 obtain ⟨i0, ii0, hz0, hz1, hz2⟩ := info_parts info_str
 have hws := hid (marked_size (fit_B h))
 obtain ⟨a, c, rfl, hlc, hcm, hre, -, hat⟩ := h
 unfold maxLen at hcm
 replace hat := hid hat
 have hown0 : Hid (OS 9 1 cStr w w.heap.size (.slice none 0 0) (markedD (bs.take 0))) := hid OS.nil
 go_enter Tryz.func123, Tryz.ntmps123
 go_wp2_with fail
 go_loopw [3, 5, 8] (fun o _ i wr => ∃ k : Nat, k ≤ bs.length ∧ i = .int .i64 (k : Int) ∧ Hid (OS 9 1 cStr wr w.heap.size o (markedD (bs.take k))) ∧ Hid (Below w.heap.size w wr)) (fun _ _ i _ => bs.length - (intOf i).toNat)
 case atStart => exact ⟨0, by omega, rfl, hown0, hid (Below.refl _ _)⟩
 obtain ⟨k, hk, rfl, hown, hbr⟩ := hrel
 have hsB := hbr.out.size
 by_cases hlt2 : k < bs.length
 · have hn : bs[k]? = some bs[k] := List.getElem?_eq_getElem hlt2
   have hyes := hid (marked_yes (List.take_succ_eq_append_getElem hlt2))
   have hno := hid (marked_no (List.take_succ_eq_append_getElem hlt2))
   generalize bs[k] = x at *
   obtain ⟨bb, off, rfl, hbb, pv, k0, k1, k2, k3, rp, s0, -⟩ := hat.out k _ hn
   have c0 := cell_stays hbr.out hbb k0
   have c1 := cell_stays hbr.out hbb k1
   have c2' := cell_stays hbr.out hbb k2
   have c3 := cell_stays hbr.out hbb k3
   have hbw : bb < wr.heap.size := Nat.lt_of_lt_of_le hbb hbr.out.size
   obtain ⟨xa, xc, rfl, -⟩ := rp
   have hhk := marked_len (bs.take k)
   rw [List.length_take] at hhk
   have hown1 := hid (OS.alloc hown.out (Obj.cells #[.string x.digest, .slice xa x.data.length xc, .int .i64 x.pins, .bool x.mark] 50))
   have hb1 := hid (hbr.out.alloc hsB (Obj.cells #[.string x.digest, .slice xa x.data.length xc, .int .i64 x.pins, .bool x.mark] 50))
   clear k0 k1 k2 k3 hn
   cases hm : x.mark with
   | true =>
     rw [hm] at c3 hown1 hb1
     replace hyes := hid (hyes.out hm)
     clear hno
     have hrow := row_one (s := 1) (bs := 16) (cells := cStr) (wr.alloc (Obj.cells #[.string x.digest, .slice xa x.data.length xc, .int .i64 x.pins, .bool true] 50)) 9 x.digest #[.string x.digest] (wr.heap.size + 1) (by simp) rfl (by decide)
     go_wp2_with (at_builtin; go_must (refine wpL_append flat_rstr rfl (.tmp 14) (.tmp 17) 30 rfl 9 i0 _ Tryz.underlying30 ii0 hz0 hz1 hz2 rfl w.heap.size _ _ rfl (OS.alloc hown1.out _) _ [x.digest] rfl hrow ?c1 ?c2 ?c3 ?_))
     case c1 => simp only [List.length_cons, List.length_nil]; omega
     case c2 => simp only [List.length_cons, List.length_nil, maxLen]; omega
     case c3 => simp; omega
     intro v8 w8 ho8 hg8
     have hbr8 := hid ((hb1.out.alloc (by simp; omega) (Obj.cells #[.string x.digest] 9)).grown hg8 (by simp; omega) (OS.block hown.out))
     rw [← hyes.out] at ho8
     replace ho8 := hid ho8
     clear hg8 hrow hown1 hown hbr hyes hb1 c0 c1 c2' c3
     go_wp2_with fail
     go_roundw
     case rel => exact ⟨k + 1, by omega, by go_num, ho8, hbr8⟩
     case measure => simp [intOf]; omega
   | false =>
     rw [hm] at c3 hown1 hb1
     replace hno := hid (hno.out hm)
     rw [← hno.out] at hown1
     clear hno hyes hown hbr
     exact qzchc_8
 obtain rfl : k = bs.length := by omega
 rw [List.take_length] at hown
 have hwl := marked_len bs
 have rT := hid (reads_str hown.out qzchc_9 hws.out)
 clear hown
 go_wp2_with fail
 go_ret
 exact ⟨_, rfl, rT.out, hbr.out⟩
set_option maxRecDepth 100000 in
set_option maxHeartbeats 400000 in
theorem idxFunc_S (g : Nat) (lb : Array Value) (q : ByteArray → Bool) (eg : ∀ args w, (callFunc g args).run Tryz.prog w = .ok (.enter g args) w) (v : Value) (l : List ByteArray) (w : World) (h : RT w v l)
 (hp : ∀ W x, Below w.heap.size w W → x.size ≤ 140737488351232 → Calls Tryz.prog g (#[.string x] ++ lb) W fun e w' => e = .returned (.bool (q x)) ∧ Below W.heap.size W w') :
 Calls Tryz.prog 193 #[v, .func (.func g) #[] lb] w fun e w' => e = .returned (.int .i64 (idxOf q l)) ∧ Below w.heap.size w w' := by
 obtain ⟨a, c, rfl, hlc, hcm, hre, hno, hat⟩ := h
 unfold maxLen at hcm
 replace hat := hid hat
 replace hp := hid hp
 have hy := hid (fun k x hx hq ha => idxOf_hit (q := q) (l := l) (k := k) (x := x) hx hq ha)
 have hn := hid (fun ha => idxOf_miss (q := q) (l := l) ha)
 clear hno
 go_enter Tryz.func193, Tryz.ntmps193
 go_wp2_with fail
 go_loopw [5, 8] (fun _ i wr => ∃ k : Nat, k ≤ l.length ∧ i = .int .i64 k ∧ Hid (∀ j x, j < k → l[j]? = some x → q x = false) ∧ Hid (Below w.heap.size w wr)) (fun _ i _ => l.length - (intOf i).toNat)
 case atStart => exact ⟨0, by omega, rfl, hid (fun j x hj => by omega), hid (Below.refl _ _)⟩
 obtain ⟨k, hk, rfl, hall, hb⟩ := hrel
 by_cases hlt : k < l.length
 · have hx : l[k]? = some l[k] := List.getElem?_eq_getElem hlt
   generalize l[k] = x at hx
   obtain ⟨bb, off, rfl, hbb, he⟩ := hat.out k _ hx
   obtain ⟨c0, okx⟩ := EStr.stable _ _ _ _ _ hb.out hbb he
   rw [Nat.mul_one] at c0
   have hbw : bb < wr.heap.size := Nat.lt_of_lt_of_le hbb hb.out.size
   have hcall := hp.out wr x hb.out okx
   have hy1 := hid (fun hq => hy.out k x hx hq hall.out)
   have hnx := hid (fun (hq : q x = false) => upto_next_l hall.out hx hq)
   clear hx he
   cases hq : q x with
   | true =>
     rw [hq] at hcall
     replace hcall := hid hcall
     have hr := hid (hy1.out hq)
     clear hq hall
     go_wp2_with fail
     ((with_reducible refine hcall.out.mono ?_); rintro e w1 ⟨rfl, b1⟩)
     go_wp2_with fail
     go_ret
     exact ⟨ret_i hr.out.symm, b_call hb.out b1⟩
   | false =>
     rw [hq] at hcall
     replace hcall := hid hcall
     have hr := hid (hnx.out hq)
     clear hq hall
     go_wp2_with fail
     ((with_reducible refine hcall.out.mono ?_); rintro e w1 ⟨rfl, b1⟩)
     have hb1 := hid (b_call hb.out b1)
     clear b1
     go_wp2_with fail
     go_roundw
     case rel => exact ⟨k + 1, by omega, by go_num, hr, hb1⟩
     case measure => simp [intOf]; omega
 obtain rfl : k = l.length := by omega
 have hr := hid (hn.out (fun j x hj => hall.out j x (List.getElem?_eq_some_iff.1 hj).1 hj))
 clear hall
 go_wp2_with fail
 go_ret
 exact ⟨ret_i hr.out.symm, hb.out⟩
theorem idx_any {α : Type} (q : α → Bool) : ∀ l : List α, (0 ≤ idxOf q l) ↔ l.any q = true
 | [] => by simp [idxOf]
 | x :: l => by
   have ih := idx_any q l
   rw [idxOf, List.any_cons]
   cases hq : q x with
   | true => simp
   | false =>
     rw [if_neg (by decide), Bool.false_or, ← ih]
     split
     · rename_i h; rw [h]
     rename_i h
     constructor
     · intro h2; omega
     intro h2; omega
set_option maxRecDepth 100000 in
set_option maxHeartbeats 400000 in
theorem containsFunc_S (g : Nat) (lb : Array Value) (q : ByteArray → Bool) (eg : ∀ args w, (callFunc g args).run Tryz.prog w = .ok (.enter g args) w) (v : Value) (l : List ByteArray) (w : World) (h : RT w v l)
 (hp : ∀ W x, Below w.heap.size w W → x.size ≤ 140737488351232 → Calls Tryz.prog g (#[.string x] ++ lb) W fun e w' => e = .returned (.bool (q x)) ∧ Below W.heap.size W w') :
 Calls Tryz.prog 195 #[v, .func (.func g) #[] lb] w fun e w' => e = .returned (.bool (l.any q)) ∧ Below w.heap.size w w' := by
 have hi := hid (idxFunc_S g lb q eg v l w h hp)
 have hm := idx_any q l
 have hd : l.any q = decide (0 ≤ idxOf q l) := by rw [Bool.eq_iff_iff, decide_eq_true_eq]; exact hm.symm
 rw [hd]
 clear hd hm
 generalize idxOf q l = r at *
 go_enter Tryz.func195, Tryz.ntmps195
 go_wp2_with fail
 ((with_reducible refine hi.out.mono ?_); rintro e w1 ⟨rfl, b1⟩)
 go_wp2_with fail
 go_ret
 exact ⟨rfl, b1⟩
set_option maxRecDepth 100000 in
set_option maxHeartbeats 400000 in
theorem within1 (x : ByteArray) (v : Value) (B : List ByteArray) (p : Nat) (w : World) (hc : w.cell? ⟨p, 0, none⟩ = some v) (hp : p < w.heap.size) (h : RT w v B) :
 Calls Tryz.prog 196 #[.string x, .pointer (some ⟨p, 0, none⟩)] w fun e w' => e = .returned (.bool (!isIn x B)) ∧ Below w.heap.size w w' := by
 have hcon := hid (slices_Contains_str v B x w h)
 obtain ⟨a, c, rfl, -⟩ := h
 go_enter Tryz.func196, Tryz.ntmps196
 go_wp2_with fail
 ((with_reducible refine hcon.out.mono ?_); rintro e w1 ⟨rfl, rfl⟩)
 go_wp2_with fail
 go_ret
 exact ⟨rfl, Below.refl _ _⟩
theorem sub_any (A B : List ByteArray) : (!A.any (fun d => !isIn d B)) = isSub A B := by
 unfold isSub
 induction A with
 | nil => rfl
 | cons x l ih => rw [List.any_cons, List.all_cons, Bool.not_or, Bool.not_not, ih]
set_option maxRecDepth 100000 in
set_option maxHeartbeats 400000 in
theorem collect_within (v u : Value) (A B : List ByteArray) (w : World) (h : RT w v A) (g : RT w u B) :
 Calls Tryz.prog 130 #[v, u] w fun e w' => e = .returned (.bool (isSub A B)) ∧ Below w.heap.size w w' := by
 have hG := g
 have hH := h
 obtain ⟨a, c, rfl, -⟩ := h
 obtain ⟨b, f, rfl, -⟩ := g
 have ba := b_alloc (Below.refl _ w) (Obj.cells #[.slice b B.length f] 30)
 have hc := hid (containsFunc_S 196 #[.pointer (some ⟨w.heap.size, 0, none⟩)] (fun d => !isIn d B) (enters_of Tryz.func196 (by kernel_rfl) rfl) (.slice a A.length c) A _ (hH.mono EStr.stable ba)
  (fun W x hb _ => within1 x (.slice b B.length f) B w.heap.size W (by rw [hb.cell (p := ⟨w.heap.size, 0, none⟩) (by simp)]; rw [cell_of_row _ _ _ _ _ _ (heap_alloc_new w _)]; rfl) (by have := hb.size; simp at this; omega) ((hG.mono EStr.stable ba).mono EStr.stable hb)))
 rw [← sub_any A B]
 replace ba := hid ba
 go_enter Tryz.func130, Tryz.ntmps130
 go_wp2_with fail
 ((with_reducible refine hc.out.mono ?_); rintro e w1 ⟨rfl, b1⟩)
 go_wp2_with fail
 go_ret
 exact ⟨rfl, b_call ba.out b1⟩
set_option maxRecDepth 100000 in
set_option maxHeartbeats 400000 in
theorem check1 (x : ByteArray) (v u : Value) (bs : List Blob) (m : Nat) (r t : Int) (p : Nat) (w : World) (hx : x.size ≤ 140737488351232) (hc : w.heap[p]? = some (.cells #[v, u, .int .i64 r, .int .i64 t] 29 (0, 0))) (h : RBl w v bs) (hu : ∃ a c, u = .slice a m c) :
 Calls Tryz.prog 128 #[.string x, .pointer (some ⟨p, 0, none⟩)] w fun e w' => e = .returned (.bool (!inBb bs x)) ∧ Below w.heap.size w w' := by
 have hR := hid h
 obtain ⟨a, c, rfl, -⟩ := h
 obtain ⟨a2, c2, rfl⟩ := hu
 obtain ⟨x0, -⟩ := box4f hc
 have ba := b_alloc (Below.refl _ w) (Obj.cells #[.string x] 9)
 have hrow : RT (w.alloc (Obj.cells #[.string x] 9)) (.slice (some ⟨w.heap.size, 0, none⟩) 1 1) [x] :=
  reads_str (B := w.heap.size) (World.ownsRow_lit w #[.string x] 1 (Nat.le_refl _) (by decide) rfl) (by simp) (fun y hy => by rw [List.mem_singleton] at hy; subst hy; exact hx)
 have hf := hid (reach_From _ _ bs [x] _ (hR.out.mono EBlob.stable ba) hrow)
 have hxl := heap_lt hc
 replace ba := hid ba
 clear hrow hc
 unfold FromPost at hf
 go_enter Tryz.func128, Tryz.ntmps128
 go_wp2_with fail
 ((with_reducible refine hf.out.mono ?_); rintro e w1 ⟨v1, L, rfl, hC, hl, -, r1, -, b1⟩)
 obtain ⟨la, lc, rfl, -⟩ := r1
 have hone := comes_one hC
 have hb := hid (b_call ba.out b1)
 have hd : (!inBb bs x) = decide (L.length = 0) := by
  rw [Bool.eq_iff_iff, decide_eq_true_eq, hone, Bool.not_eq_true', ← inBb_iff, Bool.not_eq_true]
 have hd2 : ((L.length : Int) == 0) = (!inBb bs x) := by
  rw [hd, Bool.eq_iff_iff, decide_eq_true_eq, beq_iff_eq]
  omega
 clear hone hd hC
 replace hd2 := hid hd2
 go_wp2_with fail
 go_ret
 exact ⟨ret_b hd2.out, hb.out⟩
theorem filter_none {α : Type} {q : α → Bool} : ∀ {l : List α}, idxOf q l = -1 → l.filter (fun x => !q x) = l
 | [], _ => rfl
 | x :: l, h => by
   rw [idxOf] at h
   cases hq : q x with
   | true => rw [hq] at h; simp at h
   | false =>
     rw [hq, if_neg (by decide)] at h
     have h2 : idxOf q l = -1 := by
      split at h
      · assumption
      rename_i h3
      have := idxOf_ge q l
      omega
     rw [List.filter_cons, hq, filter_none h2]
     rfl
 where idxOf_ge {α : Type} (q : α → Bool) : ∀ l : List α, -1 ≤ idxOf q l
  | [] => by simp [idxOf]
  | x :: l => by
    have := idxOf_ge q l
    rw [idxOf]
    split
    · omega
    split <;> omega
structure DelInv {α : Type} (q : α → Bool) (l M : List α) (i j : Nat) : Prop where
 len : M.length = l.length
 head : M.take i = (l.take j).filter (fun x => !q x)
 tail : M.drop j = l.drop j
 lt : i < j
 le : j ≤ l.length
theorem DelInv.start {α : Type} {q : α → Bool} {l : List α} {i : Nat} (hi : i < l.length) (hq : q l[i] = true) (ha : ∀ j y, j < i → l[j]? = some y → q y = false) : DelInv q l l i (i + 1) := by
 refine ⟨rfl, ?_, rfl, by omega, by omega⟩
 rw [List.take_succ_eq_append_getElem hi, List.filter_append]
 have h1 : (l.take i).filter (fun x => !q x) = l.take i := List.filter_eq_self.2 fun x hx => by
  obtain ⟨k, hk⟩ := List.mem_iff_getElem?.1 hx
  have hk2 : k < i := by have := (List.getElem?_eq_some_iff.1 hk).1; rw [List.length_take] at this; omega
  rw [List.getElem?_take_of_lt hk2] at hk
  rw [ha k x hk2 hk]; rfl
 rw [h1]
 simp [hq]
theorem DelInv.at_ {α : Type} {q : α → Bool} {l M : List α} {i j : Nat} (h : DelInv q l M i j) : M[j]? = l[j]? := by
 have := congrArg (fun L => L[0]?) h.tail
 simpa using this
theorem DelInv.skip {α : Type} {q : α → Bool} {l M : List α} {i j : Nat} {x : α} (h : DelInv q l M i j) (hx : l[j]? = some x) (hq : q x = true) : DelInv q l M i (j + 1) := by
 obtain ⟨hj, rfl⟩ := List.getElem?_eq_some_iff.1 hx
 refine ⟨h.len, ?_, ?_, by have := h.lt; omega, by omega⟩
 · rw [h.head, List.take_succ_eq_append_getElem hj, List.filter_append]
   simp [hq]
 have := congrArg (List.drop 1) h.tail
 rw [List.drop_drop, List.drop_drop] at this
 exact this
theorem DelInv.keep {α : Type} {q : α → Bool} {l M : List α} {i j : Nat} {x : α} (h : DelInv q l M i j) (hx : l[j]? = some x) (hq : q x = false) : DelInv q l (M.set i x) (i + 1) (j + 1) := by
 obtain ⟨hj, rfl⟩ := List.getElem?_eq_some_iff.1 hx
 have hlt := h.lt
 have hlen := h.len
 refine ⟨by rw [List.length_set]; exact hlen, ?_, ?_, by omega, by omega⟩
 · rw [List.take_succ_eq_append_getElem (by rw [List.length_set]; omega), List.getElem_set_self, List.take_set_of_le (Nat.le_refl i), h.head, List.take_succ_eq_append_getElem hj, List.filter_append]
   simp [hq]
 rw [List.drop_set_of_lt qzchc_9]
 have := congrArg (List.drop 1) h.tail
 rw [List.drop_drop, List.drop_drop] at this
 exact this
theorem DelInv.done {α : Type} {q : α → Bool} {l M : List α} {i : Nat} (h : DelInv q l M i l.length) : M.take i = l.filter (fun x => !q x) := by
 rw [h.head, List.take_length]
theorem idx_split {α : Type} (q : α → Bool) : ∀ l : List α, idxOf q l = -1 ∨ ∃ i, ∃ hi : i < l.length, idxOf q l = (i : Int) ∧ q l[i] = true ∧ ∀ j y, j < i → l[j]? = some y → q y = false
 | [] => .inl rfl
 | x :: l => by
   cases hq : q x with
   | true => exact .inr ⟨0, by simp, by rw [idxOf, if_pos hq]; rfl, hq, fun j y hj => by omega⟩
   | false =>
     rcases idx_split q l with h | ⟨i, hi, h1, h2, h3⟩
     · exact .inl (by rw [idxOf, if_neg (by rw [hq]; decide), if_pos h])
     refine .inr ⟨i + 1, by simpa using hi, by rw [idxOf, if_neg (by rw [hq]; decide), if_neg qzchc_9, h1]; omega, h2, fun j y hj hy => ?_⟩
     cases j with
     | zero => simp only [List.getElem?_cons_zero, Option.some.injEq] at hy; rw [← hy]; exact hq
     | succ j => exact h3 j y qzchc_9 (by simpa using hy)
theorem info_strz : (Tryz.prog.info? 9).map (fun i => (i.zero, i.size, i.bytes)) = some (some (.string ⟨#[]⟩), 1, 16) := by kernel_rfl
set_option maxRecDepth 100000 in
set_option maxHeartbeats 2000000 in
theorem deleteFunc_S (gf : Nat) (lb : Array Value) (q : ByteArray → Bool) (eg : ∀ args w, (callFunc gf args).run Tryz.prog w = .ok (.enter gf args) w) (v : Value) (l : List ByteArray) (B : Nat) (w : World) (h : OS 9 1 cStr w B v l) (hB : B ≤ w.heap.size) (hl : l.length * 16 ≤ 140737488351232) (hs : ∀ x ∈ l, x.size ≤ 140737488351232)
 (hp : ∀ W x, Below B w W → x.size ≤ 140737488351232 → Calls Tryz.prog gf (#[.string x] ++ lb) W fun e w' => e = .returned (.bool (q x)) ∧ Below W.heap.size W w') :
 Calls Tryz.prog 127 #[v, .func (.func gf) #[] lb] w fun e w' => ∃ v', e = .returned v' ∧ OS 9 1 cStr w' B v' (l.filter (fun x => !q x)) ∧ Below B w w' := by
 obtain ⟨i0, hi0, hz0, hz1, hz2⟩ := info_parts info_strz
 have hrd := reads_str h hl hs
 have hidx := hid (idxFunc_S gf lb q eg v l w hrd (fun W x hb hx => hp W x (hb.mono hB) hx))
 have hown := hid h
 replace hp := hid hp
 replace hs := hid hs
 rcases os_forms h with ⟨rfl, rfl⟩ | ⟨g, cap, rfl, hcap⟩
 · have h0 : idxOf q [] = -1 := rfl
   rw [h0] at hidx
   go_enter Tryz.func127, Tryz.ntmps127
   go_wp2_with fail
   ((with_reducible refine hidx.out.mono ?_); rintro e w1 ⟨rfl, b1⟩)
   have hb1 := hid (b1.mono hB)
   clear b1
   go_wp2_with fail
   go_ret
   exact ⟨_, rfl, OS.nil, hb1.out⟩
 rcases idx_split q l with h1 | ⟨i, hi, h1, h2, h3⟩
 · rw [h1] at hidx
   have hfl := hid (filter_none h1)
   clear h1
   go_enter Tryz.func127, Tryz.ntmps127
   go_wp2_with fail
   ((with_reducible refine hidx.out.mono ?_); rintro e w1 ⟨rfl, b1⟩)
   have hb1 := hid (b1.mono hB)
   have ho1 := hid (OS.below hown.out b1)
   clear b1
   go_wp2_with fail
   go_ret
   exact ⟨_, rfl, by rw [hfl.out]; exact ho1.out, hb1.out⟩
 rw [h1] at hidx
 have hD0 := hid (DelInv.start hi h2 h3)
 have hm1 : ((i : Int) == -1) = false := beq_eq_false_iff_ne.2 qzchc_9
 clear h1 h2 h3 h hrd
 go_enter Tryz.func127, Tryz.ntmps127
 go_wp2_with fail
 ((with_reducible refine hidx.out.mono ?_); rintro e w1 ⟨rfl, b1⟩)
 have hb1 := hid (b1.mono hB)
 have ho1 := hid (OS.below hown.out b1)
 clear b1 hidx hown
 go_wp2_with fail
 go_loopw [5, 6, 7] (fun i5 j6 _ wr => ∃ (i j : Nat) (M : List ByteArray), i5 = .int .i64 (i : Int) ∧ j6 = .int .i64 (j : Int) ∧ Hid (DelInv q l M i j) ∧ Hid (OS 9 1 cStr wr B (.slice (some ⟨g, 0, none⟩) l.length cap) M) ∧ Hid (Below B w wr)) (fun _ j6 _ _ => l.length - (intOf j6).toNat)
 case atStart => exact ⟨i, i + 1, l, rfl, by go_num, hD0, ho1, hb1⟩
 obtain ⟨i, j, M, rfl, rfl, hD, ho, hbr⟩ := hrel
 have hij := hD.out.lt
 have hjl := hD.out.le
 have hMl := hD.out.len
 obtain ⟨cur, hcur⟩ := OS.owns ho.out
 have hgB := OS.block ho.out g rfl
 by_cases hlt : j < l.length
 · have hx : l[j]? = some l[j] := List.getElem?_eq_getElem hlt
   have hsx := hs.out _ (List.getElem_mem hlt)
   generalize l[j] = x at *
   have hxM : M[j]? = some x := hD.out.at_.trans hx
   have hxi : M[i]? = some M[i] := List.getElem?_eq_getElem qzchc_9
   generalize M[i] = y at hxi
   have hraw := raw_str ho.out (by rw [hMl]; exact hl)
   have hc := raw_at hraw hxM
   have hci := raw_at hraw hxi
   have hf := frozen_heap hcur i
   have hcall := hp.out wr x hbr.out hsx
   have hskip := hid (fun hq => hD.out.skip hx hq)
   have hkeep := hid (fun hq => hD.out.keep hx hq)
   have hj0 : (0 : Int) ≤ (j : Int) := by omega
   have hj1 : (j : Int) < (l.length : Int) := by omega
   have hi0' : (0 : Int) ≤ (i : Int) := by omega
   have hi1 : (i : Int) < (l.length : Int) := by omega
   clear hx hraw hxM hcur
   cases hq : q x with
   | true =>
     rw [hq] at hcall
     replace hcall := hid hcall
     have hD2 := hid (hskip.out hq)
     clear hq hskip hkeep hci hf hxi
     go_wp2_with fail
     ((with_reducible refine hcall.out.mono ?_); rintro e w2 ⟨rfl, b2⟩)
     have ho2 := hid (OS.below ho.out b2)
     have hb2 := hid (hbr.out.trans (b2.mono (by have := hbr.out.size; omega)))
     clear b2
     go_wp2_with fail
     go_roundw
     case rel => exact ⟨i, j + 1, M, rfl, by go_num, hD2, ho2, hb2⟩
     case measure => simp [intOf]; omega
   | false =>
     rw [hq] at hcall
     replace hcall := hid hcall
     have hD2 := hid (hkeep.out hq)
     clear hq hskip hkeep hci hf
     go_wp2_with fail
     ((with_reducible refine hcall.out.mono ?_); rintro e w2 ⟨rfl, b2⟩)
     have ho2 := OS.below ho.out b2
     obtain ⟨cur2, hcur2⟩ := OS.owns ho2
     have hci := raw_at (raw_str ho2 (by rw [hMl]; exact hl)) hxi
     have hf := frozen_heap hcur2 i
     have hput := OS.put (o := 0) (u := .string x) (x' := x) ho2 (fun _ => rfl) hxi (by decide) rfl
     rw [Nat.mul_one, Nat.add_zero] at hput
     replace hput := hid hput
     have hb2 := hid ((hbr.out.trans (b2.mono (by have := hbr.out.size; omega))).setCell (p := ⟨g, i, none⟩) hgB (.string x))
     clear b2 hc ho2 hcur2
     go_wp2_with fail
     go_roundw
     case rel => exact ⟨i + 1, j + 1, M.set i x, by go_num, by go_num, hD2, hput, hb2⟩
     case measure => simp [intOf]; omega
 obtain rfl : j = l.length := by omega
 have hdone := hid hD.out.done
 have hup := OS.upto (s := 1) (cells := cStr) (fun _ => rfl) ho.out i qzchc_9
 have hzv : ∀ w, (zeroValue 9).run Tryz.prog w = .ok (.string ⟨#[]⟩) w := fun w => by simp [zeroValue, typeInfo, hi0, hz0]
 obtain ⟨w3, hcl, ho3, hg3⟩ := clear_own (s := 1) (t := 30) (cells := cStr) Tryz.underlying30 hzv rfl (by simp [Value.cells, Value.oneCell']) hup (l.length - i) (cap - i) qzchc_9 qzchc_9
 rw [Nat.mul_one] at hcl
 rw [hdone.out] at ho3
 have hb3 := hid (hbr.out.grown hg3 (by have := hbr.out.size; omega) (fun k hk => by simp at hk; omega))
 replace ho3 := hid ho3
 have hi0' : (0 : Int) ≤ (i : Int) := by omega
 have hi1 : (i : Int) ≤ (l.length : Int) := by omega
 have hne : ¬ cap = i := by omega
 clear hzv hg3 hup ho hD hbr hi0 hz0 hz1 hz2 hcur
 go_wp2_with fail
 go_ret
 exact ⟨_, rfl, ho3.out, hb3.out⟩
theorem str_full {s : ByteArray} (h : s ≠ ⟨#[]⟩) : s.toList.isEmpty = false ∧ (s.toList == []) = false := by
 have h1 : s.toList ≠ [] := fun e => h (toList_inj (by rw [e, toList_data]))
 constructor
 · cases hs : s.toList with
   | nil => exact absurd hs h1
   | cons a l => rfl
 simp only [beq_eq_false_iff_ne]; exact h1
theorem goodG_nil : goodG [] := fun i d h => by simp at h
set_option maxRecDepth 100000 in
set_option maxHeartbeats 4000000 in
theorem collect_shape (ph : Int) (gv : Value) (gy : List ByteArray) (pl : ByteArray) (w : World) (hg : RT w gv gy) (hpl : pl.size ≤ 140737488351232) :
 Calls Tryz.prog 122 #[.agg #[.int .i64 ph, gv, .string pl]] w fun e w' => e = .returned (.int .i64 (shapeE ph gy pl)) ∧ Below w.heap.size w w' := by
 have hG := hid hg
 have hgs := hid (rt_sizes hg)
 have hgb := rt_bound hg
 obtain ⟨ga, gc, rfl, -⟩ := hg
 have e1 := hid (@shape_kind ph gy pl)
 have e2 := hid (@shape_bad ph gy pl)
 have e3 := hid (@shape_ok ph gy pl)
 generalize shapeE ph gy pl = z at *
 have hx := hid (fun w => hex_Check_any pl w hpl)
 generalize hzx : hexFault pl = hz at hx
 replace hzx := hid hzx
 have hbA := hid (b_alloc (Below.refl _ w) (Obj.cells #[.int .i64 ph, .slice ga gy.length gc, .string pl] 32))
 have hqA := hid (heap_alloc_new w (Obj.cells #[.int .i64 ph, .slice ga gy.length gc, .string pl] 32))
 by_cases hk : ph < 0 ∨ 2 < ph
 · have hr := hid (e1.out hk)
   clear e1 e2 e3
   by_cases h0 : ph < 0
   · have d1 : decide (ph < 0) = true := decide_eq_true h0
     exact qzchc_7
   have d1 : decide (ph < 0) = false := decide_eq_false h0
   have d2 : decide (ph > 2) = true := decide_eq_true qzchc_9
   have d3 : decide (2 < ph) = true := decide_eq_true qzchc_9
   exact qzchc_7
 replace e2 := hid (e2.out hk)
 replace e3 := hid (e3.out hk)
 clear e1
 have hp3 : ph = 0 ∨ ph = 1 ∨ ph = 2 := by omega
 by_cases hpe : pl = ⟨#[]⟩
 · subst hpe
   clear hx hzx
   rcases hp3 with rfl | rfl | rfl
   · exact qzchc_2
   · have hsz : gy.length ≤ 140737488351232 := by omega
     go_enter Tryz.func122, Tryz.ntmps122
     go_wp2_with fail
     generalize w.alloc (Obj.cells #[.int .i64 1, .slice ga gy.length gc, .string ⟨#[]⟩] 32) = W0 at *
     go_loopw [3, 4, 46] (fun _ _ i wr => ∃ k : Nat, k ≤ gy.length ∧ i = .int .i64 (k : Int) ∧ Hid (∀ j d, j < k → gy[j]? = some d → hexFault d = 0 ∧ ∀ p, 0 < j → gy[j - 1]? = some p → slt p d = true) ∧ Hid (Below W0.heap.size W0 wr)) (fun _ _ i _ => gy.length - (intOf i).toNat)
     case atStart => exact ⟨0, by omega, rfl, hid (fun j d hj => by omega), hid (Below.refl _ _)⟩
     obtain ⟨k, hk9, rfl, hall, hbr⟩ := hrel
     have hbk := hid (b_call hbA.out hbr.out)
     have hqr := stays hbr.out hqA.out
     have hlr := heap_lt hqr
     by_cases hlt : k < gy.length
     · have hn : gy[k]? = some gy[k] := List.getElem?_eq_getElem hlt
       have hsd := hgs.out _ (List.getElem_mem hlt)
       generalize gy[k] = d at *
       obtain ⟨gb, go, rfl, hgl, he4, -⟩ := rt_at (hG.out.mono EStr.stable hbk.out) hn
       rw [Nat.mul_one] at he4
       have hxd := hid (hex_Check_any d wr hsd)
       have hbad := hid (fun (h : ¬ (hexFault d = 0 ∧ ∀ p, 0 < k → gy[k - 1]? = some p → slt p d = true)) => e2.out (fun (hc : goodC 1 gy ⟨#[]⟩) => h (hc.2.2 k d hn)))
       have hnx := hid (fun (h : hexFault d = 0 ∧ ∀ p, 0 < k → gy[k - 1]? = some p → slt p d = true) j y (hj : j < k + 1) (hy : gy[j]? = some y) => (show hexFault y = 0 ∧ ∀ p, 0 < j → gy[j - 1]? = some p → slt p y = true from by
        by_cases e : j = k
        · subst e
          rw [hn] at hy
          cases hy
          exact h
        · exact hall.out j y qzchc_9 hy))
       have hk0 : (0 : Int) ≤ (k : Int) := by omega
       have hk1 : (k : Int) < (gy.length : Int) := by omega
       generalize hhd : hexFault d = hd at hxd
       replace hhd := hid hhd
       by_cases hz : hd = 0
       · subst hz
         by_cases hkz : k = 0
         · subst hkz
           have hr := hid (hnx.out ⟨hhd.out, fun p hp => by omega⟩)
           rw [Nat.add_zero] at he4
           clear hall hn hbad hnx
           go_wp2_with fail
           ((with_reducible refine hxd.out.mono ?_); rintro e w1 ⟨rfl, b1⟩)
           have hb1 := hid (hbr.out.trans (b1.mono hbr.out.size))
           clear b1 hxd he4
           go_wp2_with fail
           go_roundw
           case rel => exact ⟨1, by omega, by go_num, hr, hb1⟩
           case measure => simp [intOf]; omega
         obtain ⟨m, rfl⟩ : ∃ m, k = m + 1 := ⟨k - 1, by omega⟩
         have hp : gy[m]? = some gy[m] := List.getElem?_eq_getElem qzchc_9
         generalize gy[m] = p at hp
         obtain ⟨gb', go', hab, -, he5, -⟩ := rt_at (hG.out.mono EStr.stable hbk.out) hp
         simp only [Option.some.injEq, Addr.mk.injEq, and_true] at hab
         obtain ⟨rfl, rfl⟩ := hab
         rw [Nat.mul_one] at he5
         have hw1 : wrap64 ((m : Int) + 1 - 1) = (m : Int) := by unfold wrap64; omega
         have hw2 : wrap64 (m : Int) = (m : Int) := by unfold wrap64; omega
         have hm0 : (0 : Int) ≤ (m : Int) := by omega
         have hm1 : (m : Int) < (gy.length : Int) := by omega
         have hg0 : decide (((m + 1 : Nat) : Int) > 0) = true := decide_eq_true qzchc_9
         have hg1 : decide ((m : Int) + 1 > 0) = true := decide_eq_true qzchc_9
         have hg2 : decide (0 < (m : Int) + 1) = true := decide_eq_true qzchc_9
         have hb5 := hid (fun (h : slt p d = false) => hbad.out (fun h2 => by have := h2.2 p qzchc_9 (by simpa using hp); rw [h] at this; cases this))
         have hn5 := hid (fun (h : slt p d = true) => hnx.out ⟨hhd.out, fun p' _ hp' => by rw [Nat.add_sub_cancel, hp] at hp'; cases hp'; exact h⟩)
         rcases sle_atoms d p with ⟨a1, a2⟩ | ⟨a1, rfl, a2⟩ | ⟨a1, a2, a3⟩
         · exact qzchc_3
         · exact qzchc_3
         have hr := hid (hn5.out a3)
         clear hall hn hbad hnx hb5 hn5 a3 hp
         go_wp2_with fail
         ((with_reducible refine hxd.out.mono ?_); rintro e w1 ⟨rfl, b1⟩)
         have hq1 := stays b1 hqr
         obtain ⟨x0, x1, x2, -⟩ := box3f hq1
         have he6 := cell_stays b1 (Nat.lt_of_lt_of_le hgl (Nat.le_refl _)) he5
         have hb1 := hid (hbr.out.trans (b1.mono hbr.out.size))
         clear b1 hxd he4 he5
         go_wp2_with fail
         go_roundw
         case rel => exact ⟨m + 1 + 1, by omega, by go_num, hr, hb1⟩
         case measure => simp [intOf]; omega
       have hr := hid (hbad.out (fun h => hz (hhd.out ▸ h.1)))
       have hz' : (hd != 0) = true := by simp [hz]
       clear hall hn hbad hnx
       go_wp2_with fail
       ((with_reducible refine hxd.out.mono ?_); rintro e w1 ⟨rfl, b1⟩)
       have hb1 := hid (b_call hbk.out b1)
       clear b1 hxd he4
       go_wp2_with fail
       go_ret
       exact ⟨ret_i hr.out.symm, hb1.out⟩
     obtain rfl : k = gy.length := by omega
     have hr := hid (e3.out ⟨.inl rfl, .inr rfl, fun j d hd => hall.out j d (List.getElem?_eq_some_iff.1 hd).1 hd⟩)
     clear hall
     go_wp2_with fail
     go_ret
     exact ⟨ret_i hr.out.symm, hbk.out⟩
   exact qzchc_2
 obtain ⟨s1, s2⟩ := str_full hpe
 by_cases h0 : hz = 0
 · subst h0
   rcases hp3 with rfl | rfl | rfl
   · by_cases hl0 : 0 < gy.length
     · exact qzchc_4
     have hgy : gy = [] := List.eq_nil_of_length_eq_zero qzchc_9
     have hr := hid (e2.out (fun h => h.1.elim hpe (fun h => by cases h.1)))
     have l0 : gy.length = 0 := by rw [hgy]; rfl
     replace hl0 := hid hl0
     clear e2 e3
     subst hgy
     exact qzchc_1
   · have hr := hid (e2.out (fun h => h.1.elim hpe (fun h => by cases h.1)))
     clear e2 e3
     exact qzchc_1
   by_cases hl0 : 0 < gy.length
   · exact qzchc_4
   have hgy : gy = [] := List.eq_nil_of_length_eq_zero qzchc_9
   have hr := hid (e3.out (⟨.inr ⟨rfl, hzx.out⟩, .inl hgy, hgy ▸ goodG_nil⟩))
   have l0 : gy.length = 0 := by rw [hgy]; rfl
   have l1 : decide ((gy.length : Int) > 0) = false := decide_eq_false qzchc_9
   have l2 : decide (0 < gy.length) = false := decide_eq_false qzchc_9
   replace hl0 := hid hl0
   clear e2 e3
   subst hgy
   go_enter Tryz.func122, Tryz.ntmps122
   go_wp2_with fail
   ((with_reducible refine (hx.out _).mono ?_); rintro e w1 ⟨rfl, b1⟩)
   have hq1 := stays b1 hqA.out
   have hb1 := hid (b_call hbA.out b1)
   obtain ⟨x0, x1, x2, -⟩ := box3f hq1
   clear b1
   go_wp2_with fail
   (try (refine wp_loop_rounds 1 ?_; rw [rounds_succ]; go_wp2_with fail))
   go_ret
   exact ⟨ret_i hr.out.symm, hb1.out⟩
 have hr := hid (e2.out (fun h => h.1.elim hpe (fun h => h0 (hzx.out ▸ h.2))))
 have h0' : (hz != 0) = true := by simp [h0]
 clear e2 e3
 rcases hp3 with rfl | rfl | rfl
 · exact qzchc_1
 · exact qzchc_1
 exact qzchc_1
theorem all_inB {bs : List Blob} {es : List Entry} {w w' : World} {e : Ending} (h : FromPost bs (rootsL bs es) w e w') : ∀ d ∈ allOf bs es, InB bs d := fun d hd => ((h.comes.2 d).1 hd).inB
theorem filter_nn (bs : List Blob) (D : List ByteArray) : D.filter (fun x => !(!inBb bs x)) = D.filter (inBb bs) := by
 congr 1
 funext x
 rw [Bool.not_not]
set_option maxRecDepth 100000 in
set_option maxHeartbeats 8000000 in
theorem collect_Check' (v u gv : Value) (bs : List Blob) (es : List Entry) (r t ph : Int) (pl : ByteArray) (gy : List ByteArray) (w : World) (h : RBl w v bs) (g : RE w u es) (hg : RT w gv gy) (hpl : pl.size ≤ 140737488351232) (hgl : gy.length ≤ 8388608) (z : Int)
 (hch : ∀ w, RBl w v bs → RE w u es → Calls Tryz.prog 50 #[.agg #[v, u, .int .i64 r, .int .i64 t]] w fun e w' => e = .returned (.int .i64 z) ∧ Below w.heap.size w w')
 (hN : z = 0 → bulkN bs es ≤ 104) (hr : z = 0 → Rising (fun x : Blob => x.digest) bs) (hb24 : z = 0 → bs.length ≤ 24) :
 Calls Tryz.prog 69 #[.agg #[v, u, .int .i64 r, .int .i64 t], .agg #[.int .i64 ph, gv, .string pl]] w fun e w' => e = .returned (.int .i64 (collE z (shapeE ph gy pl) ph bs es gy)) ∧ Below w.heap.size w w' := by
 obtain ⟨i0, ii0, hz0, hz1, hz2⟩ := info_parts info_str
 replace hch := hid hch
 have hR := hid h
 have hE := hid g
 have hG := hid hg
 have hgs := hid (rt_sizes hg)
 have hds := hid (rootsL_size (fit_B h) (fit_E g))
 have hms := hid (marked_size (fit_B h))
 have hsh := hid (fun W (hg : RT W gv gy) => collect_shape ph gv gy pl W hg hpl)
 have hmk := hid (fun W (h : RBl W v bs) => collect_marked v bs W h)
 have e1 := hid (fun (h : z ≠ 0) => (coll_z h : collE z (shapeE ph gy pl) ph bs es gy = z))
 have e2 := hid (fun (h : z = 0) (h2 : shapeE ph gy pl ≠ 0) => (show collE z (shapeE ph gy pl) ph bs es gy = shapeE ph gy pl by rw [h]; exact coll_s h2))
 have e3 := hid (fun (h : z = 0) (h2 : shapeE ph gy pl = 0) (h3 : okMust bs gy (mustD ph bs es)) => (show collE z (shapeE ph gy pl) ph bs es gy = 0 by rw [h, h2]; exact coll_ok h3))
 have e4 := hid (fun (h : z = 0) (h2 : shapeE ph gy pl = 0) (h3 : ¬ okMust bs gy (mustD ph bs es)) => (show collE z (shapeE ph gy pl) ph bs es gy = 12 by rw [h, h2]; exact coll_bad h3))
 have hsz := hid (@shape_zero ph gy pl)
 generalize collE z (shapeE ph gy pl) ph bs es gy = ce at *
 generalize shapeE ph gy pl = s at *
 replace hr := hid hr
 replace hN := hid hN
 replace hb24 := hid hb24
 obtain ⟨a, c, rfl, hlc, hcm, hre, -, hat⟩ := h
 obtain ⟨a2, c2, rfl, -⟩ := g
 obtain ⟨ga, gc, rfl, -⟩ := hg
 unfold maxLen at hcm
 replace hat := hid hat
 obtain ⟨w1, hw1⟩ : ∃ w1 : World, w1 = (w.alloc (Obj.cells #[.slice a bs.length c, .slice a2 es.length c2, .int .i64 r, .int .i64 t] 29)).alloc (Obj.cells #[.int .i64 ph, .slice ga gy.length gc, .string pl] 32) := ⟨_, rfl⟩
 have hb1 := hid (show Below w.heap.size w w1 by rw [hw1]; exact b_alloc (b_alloc (Below.refl _ _) _) _)
 have hq1 := hid (show w1.heap[w.heap.size]? = some (.cells #[.slice a bs.length c, .slice a2 es.length c2, .int .i64 r, .int .i64 t] 29 (0, 0)) by
  rw [hw1]
  exact (heap_alloc_old _ _ (by simp)).trans (heap_alloc_new w _))
 have hk1 := hid (show w1.heap[w.heap.size + 1]? = some (.cells #[.int .i64 ph, .slice ga gy.length gc, .string pl] 32 (0, 0)) by
  rw [hw1]
  exact heap_put _ _ _ (by simp))
 obtain ⟨x0, x1, x2, x3⟩ := box4f hq1.out
 go_enter Tryz.func69, Tryz.ntmps69
 go_wp2_with fail
 rw [← hw1]
 clear hw1
 ((with_reducible refine (hch.out _ (hR.out.mono EBlob.stable hb1.out) (hE.out.mono EEntry.stable hb1.out)).mono ?_); rintro e w2 ⟨rfl, b2⟩)
 have hq2 := hid (stays b2 hq1.out)
 have hk2 := hid (stays b2 hk1.out)
 have hb2 := hid (b_call hb1.out b2)
 clear b2 hq1 hk1 hb1 x0 x1 x2 x3
 by_cases hz : z = 0
 · subst hz
   replace e2 := hid (e2.out rfl)
   replace e3 := hid (e3.out rfl)
   replace e4 := hid (e4.out rfl)
   replace hr := hid (hr.out rfl)
   replace hN := hid (hN.out rfl)
   replace hb24 := hb24.out rfl
   have hNN := hN.out
   obtain ⟨y0, y1, y2, -⟩ := box3f hk2.out
   clear e1 hch
   go_wp2_with fail
   ((with_reducible refine (hsh.out _ (hG.out.mono EStr.stable hb2.out)).mono ?_); rintro e w3 ⟨rfl, b3⟩)
   have hq3 := hid (stays b3 hq2.out)
   have hk3 := hid (stays b3 hk2.out)
   have hb3 := hid (b_call hb2.out b3)
   clear b3 hq2 hk2 hb2 y0 y1 y2 hsh
   by_cases hs : s = 0
   · subst hs
     obtain ⟨hph, hgc⟩ := hsz.out rfl
     replace e3 := hid (e3.out rfl)
     replace e4 := hid (e4.out rfl)
     replace hgc := hid hgc
     clear e2 hsz
     obtain ⟨x0, x1, x2, x3⟩ := box4f hq3.out
     go_wp2_with fail
     ((with_reducible refine (hmk.out _ (hR.out.mono EBlob.stable hb3.out)).mono ?_); rintro e w4 ⟨v4, rfl, r4, b4⟩)
     obtain ⟨ba, bc, rfl, -⟩ := id r4
     have hq4 := hid (stays b4 hq3.out)
     have hk4 := hid (stays b4 hk3.out)
     have hb4 := hid (b_call hb3.out b4)
     replace r4 := hid r4
     clear b4 hq3 hk3 hb3 x0 x1 x2 x3 hmk
     obtain ⟨x0, x1, x2, x3⟩ := box4f hq4.out
     obtain ⟨y0, y1, y2, -⟩ := box3f hk4.out
     rcases hph with rfl | rfl | rfl
     · have hd := hid (e3.out (fun d hd => by unfold mustD at hd; simp at hd))
       clear e3 e4
       go_wp2_with fail
       go_ret
       exact ⟨ret_i hd.out.symm, hb4.out⟩
     · have hst := hid (sub_there hr.out gy (rootsL bs es ++ deepD bs))
       have hmu : mustD 1 bs es = rootsL bs es ++ deepD bs := if_pos rfl
       rw [← hmu] at hst
       have hrt := hid (fun W (h : RBl W (.slice a bs.length c) bs) (g : RE W (.slice a2 es.length c2) es) => reach_Roots _ _ bs es r t W h g (by have := hN.out; omega))
       unfold RootsPost at hrt
       have hrl := rootsL_len bs es
       have hdl := deep_len bs
       have hml := marked_len bs
       rw [hmu] at hst
       have hDs : Hid (∀ x ∈ rootsL bs es ++ deepD bs, x.size ≤ 140737488351232) := hid (fun x hx => (List.mem_append.1 hx).elim (hds.out x) (deep_size bs x))
       have hfin1 := hid (fun (h : isSub ((rootsL bs es ++ deepD bs).filter (inBb bs)) (markedD bs ++ gy) = true) => e3.out (by rw [hmu]; exact hst.out.1 h))
       have hfin2 := hid (fun (h : isSub ((rootsL bs es ++ deepD bs).filter (inBb bs)) (markedD bs ++ gy) = false) => e4.out (fun h2 => by rw [hmu] at h2; rw [hst.out.2 h2] at h; cases h))
       clear e3 e4 hst hmu
       generalize rootsL bs es = RL at *
       go_wp2_with fail
       ((with_reducible refine (hrt.out _ (hR.out.mono EBlob.stable hb4.out) (hE.out.mono EEntry.stable hb4.out)).mono ?_); rintro e w5 ⟨v5, rfl, r5, -, b5⟩)
       go_wp2_with fail
       ((with_reducible refine (slices_Clone_str _ _ _ r5).mono ?_); rintro e w6 ⟨v6, rfl, o6, b6⟩)
       have b56 := b_call b5 b6
       have hq6 := hid (stays b56 hq4.out)
       have hk6 := hid (stays b56 hk4.out)
       have hb6 := hid (b_call hb4.out b56)
       have r6 := hid (r4.out.mono EStr.stable b56)
       have ho6 : Hid (OS 9 1 cStr w6 w5.heap.size v6 (RL ++ deepD (bs.take 0))) := hid (by rw [List.take_zero]; unfold deepD; simpa using o6)
       have hb56 := hid (show Below w5.heap.size w5 w6 from b6)
       have hqB : w.heap.size + 1 < w5.heap.size := Nat.lt_of_lt_of_le (heap_lt hk4.out) b5.size
       have hb5 := hid (b_call hb4.out b5)
       have hq5 := hid (stays b5 hq4.out)
       have hk5 := hid (stays b5 hk4.out)
       have r45 := hid (r4.out.mono EStr.stable b5)
       clear b5 b6 b56 o6 r5 x0 x1 x2 x3 y0 y1 y2 hq4 hk4 hb4 r4 hrt
       obtain ⟨x0, x1, x2, x3⟩ := box4f hq6.out
       go_wp2_with fail
       clear x0 x1 x2 x3
       go_loopw [8, 10, 35] (fun o _ i wr => ∃ k : Nat, k ≤ bs.length ∧ i = .int .i64 (k : Int) ∧ Hid (OS 9 1 cStr wr w5.heap.size o (RL ++ deepD (bs.take k))) ∧ Hid (Below w5.heap.size w5 wr)) (fun _ _ i _ => bs.length - (intOf i).toNat)
       case atStart => exact ⟨0, by omega, rfl, ho6, hb56⟩
       obtain ⟨k, hk, rfl, hown, hbr⟩ := hrel
       have hbk := hid (b_call hb5.out hbr.out)
       have hsB := hbr.out.size
       by_cases hlt2 : k < bs.length
       · have hn : bs[k]? = some bs[k] := List.getElem?_eq_getElem hlt2
         have hyes := hid (deep_yes (List.take_succ_eq_append_getElem hlt2))
         have hno := hid (deep_no (List.take_succ_eq_append_getElem hlt2))
         generalize bs[k] = x at *
         obtain ⟨bb, off, rfl, hbb, pv, k0, k1, k2, k3, rp, s0, -⟩ := hat.out k _ hn
         have c0 := cell_stays hbk.out hbb k0
         have c1 := cell_stays hbk.out hbb k1
         have c2' := cell_stays hbk.out hbb k2
         have c3 := cell_stays hbk.out hbb k3
         have hbw : bb < wr.heap.size := Nat.lt_of_lt_of_le hbb hbk.out.size
         have rpx := rp.mono EU8.stable hbk.out
         obtain ⟨xa, xc, rfl, -⟩ := rp
         have hhk := deep_len (bs.take k)
         rw [List.length_take] at hhk
         have hown1 := hid (OS.alloc hown.out (Obj.cells #[.string x.digest, .slice xa x.data.length xc, .int .i64 x.pins, .bool x.mark] 50))
         have hb1 := hid (hbr.out.alloc hsB (Obj.cells #[.string x.digest, .slice xa x.data.length xc, .int .i64 x.pins, .bool x.mark] 50))
         have rp1 := hid (rpx.mono EU8.stable (b_alloc (Below.refl _ wr) (Obj.cells #[.string x.digest, .slice xa x.data.length xc, .int .i64 x.pins, .bool x.mark] 50)))
         clear k0 k1 k2 k3 hn rpx
         cases hm : x.mark with
         | true =>
           have hpa := hid (reach_PartsD x _ _ rp1.out)
           rw [hm] at c3 hown1 hb1 hpa rp1
           replace hyes := hid (hyes.out hm)
           have hdx := digs_small x
           have hyes2 := hid (show RL ++ deepD (bs.take (k + 1)) = (RL ++ deepD (bs.take k)) ++ digsOf x by rw [hyes.out, List.append_assoc])
           have hDk : (RL ++ deepD (bs.take k)).length ≤ 1000 := by rw [List.length_append]; omega
           clear hno hown hbr hyes
           generalize RL ++ deepD (bs.take k) = D8 at *
           go_wp2_with fail
           ((with_reducible refine hpa.out.mono ?_); rintro e w7 ⟨v7, rfl, o7, b7⟩)
           have r7 := hid (reads_str o7 qzchc_9 hdx.2)
           have o8 := hid (OS.below hown1.out b7)
           have hb8 := hid (hb1.out.trans (b7.mono hb1.out.size))
           have hs8 := hb8.out.size
           obtain ⟨oa, oc, rfl, -⟩ := id (OS.len_le o8.out)
           clear b7 o7 hpa hown1 hb1 rp1 c0 c1 c2' c3
           go_wp2_with (at_builtin; go_must (refine wpL_append flat_str rfl (.tmp 41) (.tmp 43) 30 rfl 9 i0 _ Tryz.underlying30 ii0 hz0 hz1 hz2 rfl w5.heap.size _ _ rfl o8.out _ (digsOf x) rfl r7.out ?c1 ?c2 ?c3 ?_))
           case c1 => omega
           case c2 => unfold maxLen; omega
           case c3 => omega
           intro v9 w9 ho9 hg9
           have hb9 := hid (hb8.out.grown hg9 hs8 (OS.block o8.out))
           rw [← hyes2.out] at ho9
           replace ho9 := hid ho9
           clear hg9 o8 hb8 r7 hyes2
           go_wp2_with fail
           go_roundw
           case rel => exact ⟨k + 1, by omega, by go_num, ho9, hb9⟩
           case measure => simp [intOf]; omega
         | false =>
           rw [hm] at c3 hown1 hb1
           replace hno := hid (hno.out hm)
           rw [← hno.out] at hown1
           clear hno hyes hown hbr rp1
           exact qzchc_8
       obtain rfl : k = bs.length := by omega
       rw [List.take_length] at hown
       have hDl : (RL ++ deepD bs).length ≤ 1000 := by rw [List.length_append]; omega
       have hqr := hid (hbr.out.block w.heap.size qzchc_9 |>.trans hq5.out)
       have hkr := hid (hbr.out.block (w.heap.size + 1) hqB |>.trans hk5.out)
       have hRr := hid (hR.out.mono EBlob.stable hbk.out)
       have hdf := hid (deleteFunc_S 128 #[.pointer (some ⟨w.heap.size, 0, none⟩)] (fun d => !inBb bs d) (enters_of Tryz.func128 (by kernel_rfl) rfl) _ (RL ++ deepD bs) w5.heap.size wr hown.out hsB qzchc_9 hDs.out
        (fun W x hb hx => check1 x _ _ bs es.length r t w.heap.size W hx ((hb.block w.heap.size qzchc_9).trans hqr.out) (hR.out.mono EBlob.stable (b_call hb5.out (hbr.out.trans hb))) ⟨_, _, rfl⟩))
       rw [filter_nn] at hdf
       have hfl : ((RL ++ deepD bs).filter (inBb bs)).length ≤ 1000 := Nat.le_trans (List.length_filter_le _ _) hDl
       have hfs : Hid (∀ x ∈ (RL ++ deepD bs).filter (inBb bs), x.size ≤ 140737488351232) := hid (fun x hx => hDs.out x (List.mem_filter.1 hx).1)
       generalize (RL ++ deepD bs).filter (inBb bs) = TH at *
       clear hown
       go_wp2_with fail
       ((with_reducible refine hdf.out.mono ?_); rintro e w7 ⟨v7, rfl, o7, b7⟩)
       have r7 := reads_str o7 qzchc_9 hfs.out
       have hb57 := hbr.out.trans b7
       have hk7 := hid (hb57.block (w.heap.size + 1) hqB |>.trans hk5.out)
       have hb7 := hid (b_call hb5.out hb57)
       have rb7 := hid (r45.out.mono EStr.stable hb57)
       have rg7 := hid (hG.out.mono EStr.stable hb7.out)
       have hAL := b_alloc (Below.refl w7.heap.size w7) (Obj.cells #[.slice ba (markedD bs).length bc, .slice ga gy.length gc] 30)
       have hcc := hid (slices_Concat_str _ _ (markedD bs) gy w7.heap.size _ (heap_alloc_new w7 (Obj.cells #[.slice ba (markedD bs).length bc, .slice ga gy.length gc] 30)) (rb7.out.mono EStr.stable hAL) (rg7.out.mono EStr.stable hAL) qzchc_9)
       have r8 := hid (r7.mono EStr.stable hAL)
       have hb8 := hid (b_alloc hb7.out (Obj.cells #[.slice ba (markedD bs).length bc, .slice ga gy.length gc] 30))
       obtain ⟨ta, tc, rfl, -⟩ := id r7
       obtain ⟨y0, y1, y2, -⟩ := box3f hk7.out
       clear hdf o7 b7 hb57 r7 hbr hbk rb7 rg7 hAL hb7
       go_wp2_with fail
       ((with_reducible refine hcc.out.mono ?_); rintro e w9 ⟨v9, rfl, o9, b9⟩)
       have hcs9 : Hid (∀ x ∈ markedD bs ++ gy, x.size ≤ 140737488351232) := hid (fun x hx => (List.mem_append.1 hx).elim (hms.out x) (hgs.out x))
       have r9 := hid (reads_str o9 (by rw [List.length_append]; omega) hcs9.out)
       have r10 := hid (r8.out.mono EStr.stable b9)
       have hb9 := hid (b_call hb8.out b9)
       have hwi := hid (collect_within _ v9 TH (markedD bs ++ gy) w9 r10.out r9.out)
       clear hcc o9 b9 r8 hb8 y0 y1 y2
       generalize isSub TH (markedD bs ++ gy) = bb at *
       cases bb with
       | true =>
         have hd := hid (hfin1.out rfl)
         exact qzchc_5
       | false =>
         have hd := hid (hfin2.out rfl)
         exact qzchc_5
     obtain rfl : gy = [] := hgc.out.2.1.elim id (fun h => by cases h)
     have hmu : mustD 2 bs es = allOf bs es := by unfold mustD; rw [if_neg (by decide), if_pos rfl]
     have hal := hid (fun W (h : RBl W (.slice a bs.length c) bs) (g : RE W (.slice a2 es.length c2) es) => (reach_All _ _ bs es r t W h g (by have := hN.out; omega)).mono (fun e w' h => (⟨h.all, all_inB h⟩ : AllPost bs (allOf bs es) W e w' ∧ ∀ d ∈ allOf bs es, InB bs d)))
     have hfin1 := hid (fun (hin : ∀ d ∈ allOf bs es, InB bs d) (h : isSub (allOf bs es) (markedD bs) = true) => e3.out (by rw [hmu]; exact (sub_all hr.out hin).1 h))
     have hfin2 := hid (fun (hin : ∀ d ∈ allOf bs es, InB bs d) (h : isSub (allOf bs es) (markedD bs) = false) => e4.out (fun h2 => by rw [hmu] at h2; rw [(sub_all hr.out hin).2 h2] at h; cases h))
     unfold AllPost at hal
     clear e3 e4 hmu
     generalize allOf bs es = AL at *
     go_wp2_with fail
     ((with_reducible refine (hal.out _ (hR.out.mono EBlob.stable hb4.out) (hE.out.mono EEntry.stable hb4.out)).mono ?_); rintro e w5 ⟨⟨v5, rfl, -, r5, -, b5⟩, hin⟩)
     have hb5 := hid (b_call hb4.out b5)
     have r45 := hid (r4.out.mono EStr.stable b5)
     have hwi := hid (collect_within v5 _ AL (markedD bs) w5 r5 r45.out)
     replace hfin1 := hid (hfin1.out hin)
     replace hfin2 := hid (hfin2.out hin)
     clear b5 hb4 r4 hal hin
     generalize isSub AL (markedD bs) = bb at *
     cases bb with
     | true =>
       have hd := hid (hfin1.out rfl)
       exact qzchc_6
     | false =>
       have hd := hid (hfin2.out rfl)
       exact qzchc_6
   have hs' : (s != 0) = true := by simp [hs]
   have hd := hid (e2.out hs)
   clear e2 e3 e4 hsz
   replace hs := hid hs
   go_wp2_with fail
   go_ret
   exact ⟨ret_i hd.out.symm, hb3.out⟩
 have ht : (z != 0) = true := by simp [hz]
 have hd := hid (e1.out hz)
 replace hz := hid hz
 clear e1 e2 e3 e4 hsz hr hN hb24 hch
 go_wp2_with fail
 go_ret
 exact ⟨ret_i hd.out.symm, hb2.out⟩
noncomputable def collF (bs : List Blob) (es : List Entry) (r t ph : Int) (gy : List ByteArray) (pl : ByteArray) : Int := collE (storeFault bs es r t) (shapeE ph gy pl) ph bs es gy
theorem collect_Check (v u gv : Value) (bs : List Blob) (es : List Entry) (r t ph : Int) (pl : ByteArray) (gy : List ByteArray) (w : World) (h : RBl w v bs) (g : RE w u es) (hg : RT w gv gy) (hpl : pl.size ≤ 140737488351232) (hgl : gy.length ≤ 8388608) :
 Calls Tryz.prog 69 #[.agg #[v, u, .int .i64 r, .int .i64 t], .agg #[.int .i64 ph, gv, .string pl]] w fun e w' => e = .returned (.int .i64 (collF bs es r t ph gy pl)) ∧ Below w.heap.size w w' :=
 collect_Check' v u gv bs es r t ph pl gy w h g hg hpl hgl _ (fun w h g => store_Check v u bs es r t w h g) (fun hz => (store_small hz).2.2) (fun hz => rising_blobs' (store_zero hz).1) (fun hz => (store_small hz).1)
end Go.Proofs.YtpkpgehiplhkpaaGreat
