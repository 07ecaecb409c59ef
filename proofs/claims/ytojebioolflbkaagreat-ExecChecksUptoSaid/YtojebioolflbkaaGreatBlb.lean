/-
  blob.Right, blob.Check and the references' BlobFault, BlobsFault: what each answers.
-/
import Derived.Test.YtojebioolflbkaaGreatSum
import Derived.Test.YtojebioolflbkaaGreatIdx
namespace Go.Proofs.YtojebioolflbkaaGreat
open Go.RowKit

/-- What is wrong with a blob whose bytes have the digest D. -/
def blobErrOf (D : ByteArray) (x : Blob) : Int :=
  if hexFault x.digest = 0 then (if 300 < x.data.length then 1 else if D = x.digest then pinErr x.pins else 9) else hexFault x.digest
def blobErr (x : Blob) : Int := blobErrOf (sumStr x.data) x
section
variable {D : ByteArray} {x : Blob}
theorem blobErr_digest (h : hexFault x.digest ≠ 0) : blobErrOf D x = hexFault x.digest := by unfold blobErrOf; rw [if_neg h]
theorem blobErr_size (h : hexFault x.digest = 0) (h2 : 300 < x.data.length) : blobErrOf D x = 1 := by unfold blobErrOf; rw [if_pos h, if_pos h2]
theorem blobErr_sum (h : hexFault x.digest = 0) (h2 : ¬ 300 < x.data.length) (h3 : D ≠ x.digest) : blobErrOf D x = 9 := by unfold blobErrOf; rw [if_pos h, if_neg h2, if_neg h3]
theorem blobErr_pins (h : hexFault x.digest = 0) (h2 : ¬ 300 < x.data.length) (h3 : D = x.digest) : blobErrOf D x = pinErr x.pins := by unfold blobErrOf; rw [if_pos h, if_neg h2, if_pos h3]
theorem blobErr_zero (h : blobErrOf D x = 0) : hexFault x.digest = 0 ∧ x.data.length ≤ 300 ∧ D = x.digest ∧ 0 ≤ x.pins ∧ x.pins ≤ 5 := by
  unfold blobErrOf at h
  split at h
  · rename_i h1
    split at h
    · cases h
    · rename_i h2
      split at h
      · rename_i h3; exact ⟨h1, by omega, h3, pinErr_zero h⟩
      · cases h
  · rename_i h1; exact absurd h h1
end
theorem str_ne {a b : ByteArray} (h : a ≠ b) : (a.toList == b.toList) = false := by
  simp only [beq_eq_false_iff_ne, ne_eq]
  exact fun e => h (toList_inj e)

set_option maxRecDepth 100000 in
set_option maxHeartbeats 1000000 in
theorem blob_Right' (D : ByteArray) (n : Int) (x : Blob) (dv : Value) (w : World) (hd : RB w dv x.data) (hs : x.digest.size ≤ 140737488351232)
    (hsum : ∀ w, RB w dv x.data → Calls Tryz.prog 169 #[dv] w fun e w' => e = .returned (.tuple #[.string D, .int .i64 n]) ∧ Below w.heap.size w w') :
    Calls Tryz.prog 131 #[.agg #[.string x.digest, dv, .int .i64 x.pins, .bool x.mark]] w fun e w' => e = .returned (.int .i64 (blobErrOf D x)) ∧ Below w.heap.size w w' := by
  replace hsum := hid hsum
  obtain ⟨da, dc, rfl, -⟩ := id hd
  by_cases hn : hexFault x.digest = 0
  · have t1 : (hexFault x.digest != 0) = false := by simp [hn]
    by_cases h3 : 300 < x.data.length
    · have hv := hid (blobErr_size (D := D) hn h3)
      clear hn
      go_enter Tryz.func131, Tryz.ntmps131
      go_wp2_with fail
      ((with_reducible refine (hex_Check_any _ _ hs).mono ?_); rintro e w1 ⟨rfl, b1⟩)
      obtain ⟨bc1, bf1⟩ := bcell b1
      have hsz1 : w.heap.size < w1.heap.size := by have := b1.size; simp at this; omega
      go_wp2_with fail
      go_ret
      exact ⟨ret_i hv.out.symm, b_call (b_alloc (Below.refl _ _) _) b1⟩
    · by_cases hD : D = x.digest
      · have hv := hid (blobErr_pins hn h3 hD)
        subst hD
        clear hn
        go_enter Tryz.func131, Tryz.ntmps131
        go_wp2_with fail
        ((with_reducible refine (hex_Check_any _ _ hs).mono ?_); rintro e w1 ⟨rfl, b1⟩)
        obtain ⟨bc1, bf1⟩ := bcell b1
        have hsz1 : w.heap.size < w1.heap.size := by have := b1.size; simp at this; omega
        go_wp2_with fail
        ((with_reducible refine (hsum.out _ (hd.mono EU8.stable (b_call (b_alloc (Below.refl _ w) _) b1))).mono ?_); rintro e w2 ⟨rfl, b2⟩)
        obtain ⟨bc2, bf2⟩ := bcell b2
        have hsz2 : w1.heap.size ≤ w2.heap.size := b2.size
        go_wp2_with fail
        ((with_reducible refine (pin_Check _ _).mono ?_); rintro e w3 ⟨rfl, rfl⟩)
        go_wp2_with fail
        go_ret
        exact ⟨ret_i hv.out.symm, b_call (b_call (b_alloc (Below.refl _ _) _) b1) b2⟩
      · have hv := hid (blobErr_sum hn h3 hD)
        have e1 := str_ne hD
        have e2 := str_ne (Ne.symm hD)
        replace hD := hid hD
        clear hn
        go_enter Tryz.func131, Tryz.ntmps131
        go_wp2_with fail
        ((with_reducible refine (hex_Check_any _ _ hs).mono ?_); rintro e w1 ⟨rfl, b1⟩)
        obtain ⟨bc1, bf1⟩ := bcell b1
        have hsz1 : w.heap.size < w1.heap.size := by have := b1.size; simp at this; omega
        go_wp2_with fail
        ((with_reducible refine (hsum.out _ (hd.mono EU8.stable (b_call (b_alloc (Below.refl _ w) _) b1))).mono ?_); rintro e w2 ⟨rfl, b2⟩)
        obtain ⟨bc2, bf2⟩ := bcell b2
        have hsz2 : w1.heap.size ≤ w2.heap.size := b2.size
        go_wp2_with fail
        go_ret
        exact ⟨ret_i hv.out.symm, b_call (b_call (b_alloc (Below.refl _ _) _) b1) b2⟩
  · have t1 : (hexFault x.digest != 0) = true := by simp [hn]
    have hv := hid (blobErr_digest (D := D) hn)
    clear hn
    go_enter Tryz.func131, Tryz.ntmps131
    go_wp2_with fail
    ((with_reducible refine (hex_Check_any _ _ hs).mono ?_); rintro e w1 ⟨rfl, b1⟩)
    obtain ⟨bc1, bf1⟩ := bcell b1
    have hsz1 : w.heap.size < w1.heap.size := by have := b1.size; simp at this; omega
    go_wp2_with fail
    go_ret
    exact ⟨ret_i hv.out.symm, b_call (b_alloc (Below.refl _ _) _) b1⟩
theorem blob_Right (x : Blob) (dv : Value) (w : World) (hd : RB w dv x.data) (hs : x.digest.size ≤ 140737488351232) :
    Calls Tryz.prog 131 #[.agg #[.string x.digest, dv, .int .i64 x.pins, .bool x.mark]] w fun e w' => e = .returned (.int .i64 (blobErr x)) ∧ Below w.heap.size w w' :=
  blob_Right' (sumStr x.data) (padErr x.data) x dv w hd hs (fun w g => sha_Sum _ _ w g)

set_option maxRecDepth 100000 in
set_option maxHeartbeats 1000000 in
theorem ref_BlobFault' (D : ByteArray) (n : Int) (x : Blob) (dv : Value) (w : World) (hd : RB w dv x.data) (hs : x.digest.size ≤ 140737488351232)
    (hsum : ∀ w, RB w dv x.data → Calls Tryz.prog 178 #[dv] w fun e w' => e = .returned (.tuple #[.string D, .int .i64 n]) ∧ Below w.heap.size w w') :
    Calls Tryz.prog 149 #[.agg #[.string x.digest, dv, .int .i64 x.pins, .bool x.mark]] w fun e w' => e = .returned (.int .i64 (blobErrOf D x)) ∧ Below w.heap.size w w' := by
  replace hsum := hid hsum
  obtain ⟨da, dc, rfl, -⟩ := id hd
  by_cases hn : hexFault x.digest = 0
  · have t1 : (hexFault x.digest != 0) = false := by simp [hn]
    by_cases h3 : 300 < x.data.length
    · have hv := hid (blobErr_size (D := D) hn h3)
      clear hn
      go_enter Tryz.func149, Tryz.ntmps149
      go_wp2_with fail
      ((with_reducible refine (ref_HexFault_any _ _ hs).mono ?_); rintro e w1 ⟨rfl, b1⟩)
      obtain ⟨bc1, bf1⟩ := bcell b1
      have hsz1 : w.heap.size < w1.heap.size := by have := b1.size; simp at this; omega
      go_wp2_with fail
      go_ret
      exact ⟨ret_i hv.out.symm, b_call (b_alloc (Below.refl _ _) _) b1⟩
    · by_cases hD : D = x.digest
      · have hv := hid (blobErr_pins hn h3 hD)
        subst hD
        clear hn
        by_cases g1 : x.pins < 0
        · have q1 : decide (x.pins < 0) = true := by simp; omega
          have hp := hid (pinErr_bad (n := x.pins) (.inl g1))
          go_enter Tryz.func149, Tryz.ntmps149
          go_wp2_with fail
          ((with_reducible refine (ref_HexFault_any _ _ hs).mono ?_); rintro e w1 ⟨rfl, b1⟩)
          obtain ⟨bc1, bf1⟩ := bcell b1
          have hsz1 : w.heap.size < w1.heap.size := by have := b1.size; simp at this; omega
          go_wp2_with fail
          ((with_reducible refine (hsum.out _ (hd.mono EU8.stable (b_call (b_alloc (Below.refl _ w) _) b1))).mono ?_); rintro e w2 ⟨rfl, b2⟩)
          obtain ⟨bc2, bf2⟩ := bcell b2
          have hsz2 : w1.heap.size ≤ w2.heap.size := b2.size
          go_wp2_with fail
          go_ret
          exact ⟨ret_i (hv.out.trans hp.out).symm, b_call (b_call (b_alloc (Below.refl _ _) _) b1) b2⟩
        · have q1 : decide (x.pins < 0) = false := by simp; omega
          by_cases g2 : 5 < x.pins
          · have q2 : decide (5 < x.pins) = true := by simp; omega
            have hp := hid (pinErr_bad (n := x.pins) (.inr g2))
            go_enter Tryz.func149, Tryz.ntmps149
            go_wp2_with fail
            ((with_reducible refine (ref_HexFault_any _ _ hs).mono ?_); rintro e w1 ⟨rfl, b1⟩)
            obtain ⟨bc1, bf1⟩ := bcell b1
            have hsz1 : w.heap.size < w1.heap.size := by have := b1.size; simp at this; omega
            go_wp2_with fail
            ((with_reducible refine (hsum.out _ (hd.mono EU8.stable (b_call (b_alloc (Below.refl _ w) _) b1))).mono ?_); rintro e w2 ⟨rfl, b2⟩)
            obtain ⟨bc2, bf2⟩ := bcell b2
            have hsz2 : w1.heap.size ≤ w2.heap.size := b2.size
            go_wp2_with fail
            go_ret
            exact ⟨ret_i (hv.out.trans hp.out).symm, b_call (b_call (b_alloc (Below.refl _ _) _) b1) b2⟩
          · have q2 : decide (5 < x.pins) = false := by simp; omega
            have hp := hid (pinErr_ok (n := x.pins) (by omega))
            go_enter Tryz.func149, Tryz.ntmps149
            go_wp2_with fail
            ((with_reducible refine (ref_HexFault_any _ _ hs).mono ?_); rintro e w1 ⟨rfl, b1⟩)
            obtain ⟨bc1, bf1⟩ := bcell b1
            have hsz1 : w.heap.size < w1.heap.size := by have := b1.size; simp at this; omega
            go_wp2_with fail
            ((with_reducible refine (hsum.out _ (hd.mono EU8.stable (b_call (b_alloc (Below.refl _ w) _) b1))).mono ?_); rintro e w2 ⟨rfl, b2⟩)
            obtain ⟨bc2, bf2⟩ := bcell b2
            have hsz2 : w1.heap.size ≤ w2.heap.size := b2.size
            go_wp2_with fail
            go_ret
            exact ⟨ret_i (hv.out.trans hp.out).symm, b_call (b_call (b_alloc (Below.refl _ _) _) b1) b2⟩
      · have hv := hid (blobErr_sum hn h3 hD)
        have e1 := str_ne hD
        have e2 := str_ne (Ne.symm hD)
        replace hD := hid hD
        clear hn
        go_enter Tryz.func149, Tryz.ntmps149
        go_wp2_with fail
        ((with_reducible refine (ref_HexFault_any _ _ hs).mono ?_); rintro e w1 ⟨rfl, b1⟩)
        obtain ⟨bc1, bf1⟩ := bcell b1
        have hsz1 : w.heap.size < w1.heap.size := by have := b1.size; simp at this; omega
        go_wp2_with fail
        ((with_reducible refine (hsum.out _ (hd.mono EU8.stable (b_call (b_alloc (Below.refl _ w) _) b1))).mono ?_); rintro e w2 ⟨rfl, b2⟩)
        obtain ⟨bc2, bf2⟩ := bcell b2
        have hsz2 : w1.heap.size ≤ w2.heap.size := b2.size
        go_wp2_with fail
        go_ret
        exact ⟨ret_i hv.out.symm, b_call (b_call (b_alloc (Below.refl _ _) _) b1) b2⟩
  · have t1 : (hexFault x.digest != 0) = true := by simp [hn]
    have hv := hid (blobErr_digest (D := D) hn)
    clear hn
    go_enter Tryz.func149, Tryz.ntmps149
    go_wp2_with fail
    ((with_reducible refine (ref_HexFault_any _ _ hs).mono ?_); rintro e w1 ⟨rfl, b1⟩)
    obtain ⟨bc1, bf1⟩ := bcell b1
    have hsz1 : w.heap.size < w1.heap.size := by have := b1.size; simp at this; omega
    go_wp2_with fail
    go_ret
    exact ⟨ret_i hv.out.symm, b_call (b_alloc (Below.refl _ _) _) b1⟩
theorem ref_BlobFault (x : Blob) (dv : Value) (w : World) (hd : RB w dv x.data) (hs : x.digest.size ≤ 140737488351232) :
    Calls Tryz.prog 149 #[.agg #[.string x.digest, dv, .int .i64 x.pins, .bool x.mark]] w fun e w' => e = .returned (.int .i64 (blobErr x)) ∧ Below w.heap.size w w' :=
  ref_BlobFault' (sumStr x.data) (padErr x.data) x dv w hd hs (fun w g => ref_ShaSum _ _ w g)

/-- What is wrong with a blob beside the one ahead of it. -/
def blobFault (p : Option Blob) (x : Blob) : Int := if blobErr x = 0 then (if notAfter (p.map (·.digest)) x.digest = true then 6 else 0) else blobErr x
def blobsFault (l : List Blob) : Int := if 24 < l.length then 1 else faultFrom blobFault none l
section
variable {p : Option Blob} {x : Blob}
theorem blobFault_err (h : blobErr x ≠ 0) : blobFault p x = blobErr x := by unfold blobFault; rw [if_neg h]
theorem blobFault_twice (h : blobErr x = 0) (h2 : notAfter (p.map (·.digest)) x.digest = true) : blobFault p x = 6 := by unfold blobFault; rw [if_pos h, if_pos h2]
theorem blobFault_ok (h : blobErr x = 0) (h2 : notAfter (p.map (·.digest)) x.digest = false) : blobFault p x = 0 := by unfold blobFault; rw [if_pos h, if_neg (by rw [h2]; decide)]
end
theorem blobsFault_long {l : List Blob} (h : 24 < l.length) : blobsFault l = 1 := by unfold blobsFault; rw [if_pos h]
theorem blobsFault_short {l : List Blob} (h : ¬ 24 < l.length) : blobsFault l = faultFrom blobFault (ahead l 0) (l.drop 0) := by unfold blobsFault; rw [if_neg h]; rfl
theorem blobErr_pos {x : Blob} (h : blobErr x = 0) : 1 ≤ x.digest.size := hexFault_pos (blobErr_zero h).1

set_option maxRecDepth 100000 in
set_option maxHeartbeats 2000000 in
theorem blob_Check' (E : Blob → Int) (F : Option Blob → Blob → Int) (z : Int) (v : Value) (l : List Blob) (w : World) (h : RBl w v l)
    (her : ∀ p x, E x ≠ 0 → F p x = E x) (htw : ∀ p x, E x = 0 → notAfter (p.map (·.digest)) x.digest = true → F p x = 6) (hok : ∀ p x, E x = 0 → notAfter (p.map (·.digest)) x.digest = false → F p x = 0) (hpos : ∀ x, E x = 0 → 1 ≤ x.digest.size)
    (hlong : 24 < l.length → z = 1) (hshort : ¬ 24 < l.length → z = faultFrom F (ahead l 0) (l.drop 0))
    (cr : ∀ (x : Blob) (dv : Value) (w : World), RB w dv x.data → x.digest.size ≤ 140737488351232 → Calls Tryz.prog 131 #[.agg #[.string x.digest, dv, .int .i64 x.pins, .bool x.mark]] w fun e w' => e = .returned (.int .i64 (E x)) ∧ Below w.heap.size w w') :
    Calls Tryz.prog 82 #[v] w fun e w' => e = .returned (.int .i64 z) ∧ Below w.heap.size w w' := by
  obtain ⟨a, c, rfl, hlc, hcm, hre, hno, hat⟩ := h
  unfold maxLen at hcm
  clear hno
  replace cr := hid cr
  by_cases h8 : 24 < l.length
  · have hr := hid (hlong h8)
    clear her htw hok hpos hlong hshort
    go_enter Tryz.func82, Tryz.ntmps82
    go_wp2_with fail
    go_ret
    exact ⟨ret_i hr.out.symm, Below.refl _ _⟩
  · have hr := hid (hshort h8)
    have her' := hid her
    have htw' := hid htw
    have hok' := hid hok
    have hpos' := hid hpos
    clear her htw hok hpos hlong hshort
    go_enter Tryz.func82, Tryz.ntmps82
    go_wp2_with fail
    go_loopw [3, 5, 11] (fun _ _ i wr => ∃ (k : Nat), k ≤ l.length ∧ i = .int .i64 k ∧ Hid (z = faultFrom F (ahead l k) (l.drop k)) ∧ Below w.heap.size w wr) (fun _ _ i _ => l.length - (intOf i).toNat)
    case atStart => exact ⟨0, by omega, rfl, hr, Below.refl _ _⟩
    case round =>
      obtain ⟨k, hk, rfl, hz, hb⟩ := hrel
      by_cases hlt : k < l.length
      · have hx : l[k]? = some l[k] := List.getElem?_eq_getElem hlt
        generalize l[k] = x at hx
        obtain ⟨bb, off, rfl, hbb, he⟩ := hat k _ hx
        obtain ⟨pv, c0, c1, c2, c3, hp, s0, wf⟩ := EBlob.stable _ _ _ _ _ hb hbb he
        obtain ⟨pa, pc, rfl, -⟩ := id hp
        have hbw : bb < wr.heap.size := Nat.lt_of_lt_of_le hbb hb.size
        have hstep := hid (fun h0 => fault_step hz.out hx h0)
        have hstop := hid (fun h0 => fault_stop hz.out hx h0)
        have hat0 := hid hat
        clear hr hz hat he
        replace hx := hid hx
        by_cases hn : E x = 0
        · have t1 : (E x != 0) = false := by simp [hn]
          have hne := hpos'.out x hn
          by_cases hk0 : k = 0
          · have d0 : decide (0 < k) = false := by simp; omega
            have q : notAfter ((ahead l k).map (·.digest)) x.digest = false := by rw [hk0, ahead_zero]; rfl
            replace hk0 := hid hk0
            have hz2 := hid (hstep.out (hok'.out (ahead l k) x hn q))
            clear hstep hstop hn q hne
            go_wp2_with fail
            ((with_reducible refine (cr.out x _ _ (hp.mono EU8.stable (b_alloc (Below.refl _ wr) _)) s0).mono ?_); rintro e w1 ⟨rfl, b1⟩)
            obtain ⟨bc1, bf1⟩ := bcell b1
            have hsz1 : wr.heap.size < w1.heap.size := by have := b1.size; simp at this; omega
            go_wp2_with fail
            go_quiet (fail)
            go_wp2_with fail
            go_roundw
            case rel => exact ⟨k + 1, by omega, by go_num, hz2, below_drewN (b_call (b_alloc hb _) b1) _⟩
            case measure => simp [intOf]; omega
          · have d0 : decide (0 < k) = true := by simp; omega
            have hy : l[k - 1]? = some l[k - 1] := List.getElem?_eq_getElem (by omega)
            generalize l[k - 1] = y at hy
            obtain ⟨b2, off2, e2, hbb2, he2⟩ := hat0.out (k - 1) _ hy
            simp only [Option.some.injEq, Addr.mk.injEq, and_true] at e2
            obtain ⟨rfl, rfl⟩ := e2
            obtain ⟨pv2, p0, -⟩ := EBlob.stable _ _ _ _ _ hb hbb2 he2
            have hah : Hid (ahead l k = some y) := by
              obtain ⟨m, rfl⟩ : ∃ m, k = m + 1 := ⟨k - 1, by omega⟩
              exact hid hy
            have hpos2 : 0 < l.length := by omega
            have e1 : IntKind.i64.wrap ((k : Int) - 1) = (k : Int) - 1 := IntWalk.i64_in _ (by omega)
            have e3 : (0 : Int) ≤ (k : Int) - 1 := by omega
            have e4 : (1 : Int) ≤ (k : Int) := by omega
            have e5 : (k : Int) - 1 < (l.length : Int) := by omega
            have e6 : ((k : Int) - 1).toNat = k - 1 := by omega
            clear he2 hy hat0 hne
            rcases sle_atoms x.digest y.digest with ⟨a1, a2⟩ | ⟨a1, a3, a2⟩ | ⟨a1, a3, a2⟩
            · have q : notAfter ((ahead l k).map (·.digest)) x.digest = true := by rw [hah.out]; simp [notAfter, a2]
              have hv := hid (hstop.out (by rw [htw'.out (ahead l k) x hn q]; decide))
              have hv2 := hid (htw'.out (ahead l k) x hn q)
              clear hstep hstop hn q a2
              go_wp2_with fail
              ((with_reducible refine (cr.out x _ _ (hp.mono EU8.stable (b_alloc (Below.refl _ wr) _)) s0).mono ?_); rintro e w1 ⟨rfl, b1⟩)
              obtain ⟨bc1, bf1⟩ := bcell b1
              have hsz1 : wr.heap.size < w1.heap.size := by have := b1.size; simp at this; omega
              go_wp2_with fail
              go_quiet (fail)
              go_wp2_with fail
              go_ret
              exact ⟨ret_i (hv.out.trans hv2.out).symm, below_drewN (b_call (b_alloc hb _) b1) _⟩
            · have q : notAfter ((ahead l k).map (·.digest)) x.digest = true := by rw [hah.out]; simp [notAfter, a2]
              have hv := hid (hstop.out (by rw [htw'.out (ahead l k) x hn q]; decide))
              have hv2 := hid (htw'.out (ahead l k) x hn q)
              have a4 : (x.digest.toList == y.digest.toList) = true := by rw [a3]; simp
              replace a3 := hid a3
              clear hstep hstop hn q a2
              go_wp2_with fail
              ((with_reducible refine (cr.out x _ _ (hp.mono EU8.stable (b_alloc (Below.refl _ wr) _)) s0).mono ?_); rintro e w1 ⟨rfl, b1⟩)
              obtain ⟨bc1, bf1⟩ := bcell b1
              have hsz1 : wr.heap.size < w1.heap.size := by have := b1.size; simp at this; omega
              go_wp2_with fail
              go_quiet (fail)
              go_wp2_with fail
              go_ret
              exact ⟨ret_i (hv.out.trans hv2.out).symm, below_drewN (b_call (b_alloc hb _) b1) _⟩
            · have q : notAfter ((ahead l k).map (·.digest)) x.digest = false := by rw [hah.out]; simp [notAfter, a2]
              have hz2 := hid (hstep.out (hok'.out (ahead l k) x hn q))
              clear hstep hstop hn q a2
              go_wp2_with fail
              ((with_reducible refine (cr.out x _ _ (hp.mono EU8.stable (b_alloc (Below.refl _ wr) _)) s0).mono ?_); rintro e w1 ⟨rfl, b1⟩)
              obtain ⟨bc1, bf1⟩ := bcell b1
              have hsz1 : wr.heap.size < w1.heap.size := by have := b1.size; simp at this; omega
              go_wp2_with fail
              go_quiet (fail)
              go_wp2_with fail
              go_roundw
              case rel => exact ⟨k + 1, by omega, by go_num, hz2, below_drewN (b_call (b_alloc hb _) b1) _⟩
              case measure => simp [intOf]; omega
        · have t1 : (E x != 0) = true := by simp [hn]
          have hv := hid (hstop.out (by rw [her'.out (ahead l k) x hn]; exact hn))
          have hv2 := hid (her'.out (ahead l k) x hn)
          clear hstep hstop hn
          go_wp2_with fail
          ((with_reducible refine (cr.out x _ _ (hp.mono EU8.stable (b_alloc (Below.refl _ wr) _)) s0).mono ?_); rintro e w1 ⟨rfl, b1⟩)
          obtain ⟨bc1, bf1⟩ := bcell b1
          have hsz1 : wr.heap.size < w1.heap.size := by have := b1.size; simp at this; omega
          go_wp2_with fail
          go_ret
          exact ⟨ret_i (hv.out.trans hv2.out).symm, b_call (b_alloc hb _) b1⟩
      · obtain rfl : k = l.length := by omega
        have hr0 := hid (fault_end hz.out)
        go_wp2_with fail
        go_ret
        exact ⟨ret_i hr0.out.symm, hb⟩
theorem blob_Check (v : Value) (l : List Blob) (w : World) (h : RBl w v l) :
    Calls Tryz.prog 82 #[v] w fun e w' => e = .returned (.int .i64 (blobsFault l)) ∧ Below w.heap.size w w' :=
  blob_Check' blobErr blobFault (blobsFault l) v l w h (fun _ _ => blobFault_err) (fun _ _ => blobFault_twice) (fun _ _ => blobFault_ok) (fun _ => blobErr_pos) blobsFault_long blobsFault_short blob_Right

set_option maxRecDepth 100000 in
set_option maxHeartbeats 2000000 in
theorem ref_BlobsFault' (E : Blob → Int) (F : Option Blob → Blob → Int) (z : Int) (v : Value) (l : List Blob) (w : World) (h : RBl w v l)
    (her : ∀ p x, E x ≠ 0 → F p x = E x) (htw : ∀ p x, E x = 0 → notAfter (p.map (·.digest)) x.digest = true → F p x = 6) (hok : ∀ p x, E x = 0 → notAfter (p.map (·.digest)) x.digest = false → F p x = 0) (hpos : ∀ x, E x = 0 → 1 ≤ x.digest.size)
    (hlong : 24 < l.length → z = 1) (hshort : ¬ 24 < l.length → z = faultFrom F (ahead l 0) (l.drop 0))
    (cr : ∀ (x : Blob) (dv : Value) (w : World), RB w dv x.data → x.digest.size ≤ 140737488351232 → Calls Tryz.prog 149 #[.agg #[.string x.digest, dv, .int .i64 x.pins, .bool x.mark]] w fun e w' => e = .returned (.int .i64 (E x)) ∧ Below w.heap.size w w') :
    Calls Tryz.prog 93 #[v] w fun e w' => e = .returned (.int .i64 z) ∧ Below w.heap.size w w' := by
  obtain ⟨a, c, rfl, hlc, hcm, hre, hno, hat⟩ := h
  unfold maxLen at hcm
  clear hno
  replace cr := hid cr
  by_cases h8 : 24 < l.length
  · have hr := hid (hlong h8)
    clear her htw hok hpos hlong hshort
    go_enter Tryz.func93, Tryz.ntmps93
    go_wp2_with fail
    go_ret
    exact ⟨ret_i hr.out.symm, Below.refl _ _⟩
  · have hr := hid (hshort h8)
    have her' := hid her
    have htw' := hid htw
    have hok' := hid hok
    have hpos' := hid hpos
    clear her htw hok hpos hlong hshort
    go_enter Tryz.func93, Tryz.ntmps93
    go_wp2_with fail
    go_loopw [3, 6, 12] (fun s _ i wr => ∃ (k : Nat) (la : ByteArray), k ≤ l.length ∧ i = .int .i64 k ∧ s = .string la ∧ Hid (la = lastOf ((ahead l k).map (·.digest))) ∧ Hid (z = faultFrom F (ahead l k) (l.drop k)) ∧ Below w.heap.size w wr) (fun _ _ i _ => l.length - (intOf i).toNat)
    case atStart => exact ⟨0, ⟨#[]⟩, by omega, rfl, rfl, hid rfl, hr, Below.refl _ _⟩
    case round =>
      obtain ⟨k, la, hk, rfl, rfl, hla, hz, hb⟩ := hrel
      by_cases hlt : k < l.length
      · have hx : l[k]? = some l[k] := List.getElem?_eq_getElem hlt
        generalize l[k] = x at hx
        obtain ⟨bb, off, rfl, hbb, he⟩ := hat k _ hx
        obtain ⟨pv, c0, c1, c2, c3, hp, s0, wf⟩ := EBlob.stable _ _ _ _ _ hb hbb he
        obtain ⟨pa, pc, rfl, -⟩ := id hp
        have hbw : bb < wr.heap.size := Nat.lt_of_lt_of_le hbb hb.size
        have hstep := hid (fun h0 => fault_step hz.out hx h0)
        have hstop := hid (fun h0 => fault_stop hz.out hx h0)
        have hat0 := hid hat
        clear hr hz hat he
        replace hx := hid hx
        by_cases hn : E x = 0
        · have t1 : (E x != 0) = false := by simp [hn]
          have hne := hpos'.out x hn
          rcases sle_atoms x.digest la with ⟨a1, a2⟩ | ⟨a1, a3, a2⟩ | ⟨a1, a3, a2⟩
          · have q : notAfter ((ahead l k).map (·.digest)) x.digest = true := by rw [notAfter_last _ _ hne, ← hla.out, a2]; rfl
            have hv := hid (hstop.out (by rw [htw'.out (ahead l k) x hn q]; decide))
            have hv2 := hid (htw'.out (ahead l k) x hn q)
            clear hstep hstop hn q a2 hne
            go_wp2_with fail
            ((with_reducible refine (cr.out x _ _ (hp.mono EU8.stable (b_alloc (Below.refl _ wr) _)) s0).mono ?_); rintro e w1 ⟨rfl, b1⟩)
            obtain ⟨bc1, bf1⟩ := bcell b1
            have hsz1 : wr.heap.size < w1.heap.size := by have := b1.size; simp at this; omega
            go_wp2_with fail
            go_ret
            exact ⟨ret_i (hv.out.trans hv2.out).symm, b_call (b_alloc hb _) b1⟩
          · have q : notAfter ((ahead l k).map (·.digest)) x.digest = true := by rw [notAfter_last _ _ hne, ← hla.out, a2]; rfl
            have hv := hid (hstop.out (by rw [htw'.out (ahead l k) x hn q]; decide))
            have hv2 := hid (htw'.out (ahead l k) x hn q)
            have a4 : (x.digest.toList == la.toList) = true := by rw [a3]; simp
            replace a3 := hid a3
            clear hstep hstop hn q a2 hne
            go_wp2_with fail
            ((with_reducible refine (cr.out x _ _ (hp.mono EU8.stable (b_alloc (Below.refl _ wr) _)) s0).mono ?_); rintro e w1 ⟨rfl, b1⟩)
            obtain ⟨bc1, bf1⟩ := bcell b1
            have hsz1 : wr.heap.size < w1.heap.size := by have := b1.size; simp at this; omega
            go_wp2_with fail
            go_ret
            exact ⟨ret_i (hv.out.trans hv2.out).symm, b_call (b_alloc hb _) b1⟩
          · have q : notAfter ((ahead l k).map (·.digest)) x.digest = false := by rw [notAfter_last _ _ hne, ← hla.out, a2]; rfl
            have hla2 : Hid (x.digest = lastOf ((ahead l (k + 1)).map (·.digest))) := by rw [ahead_succ, hx.out]; exact hid rfl
            have hz2 := hid (hstep.out (hok'.out (ahead l k) x hn q))
            clear hstep hstop hn q a2 hne hx
            go_wp2_with fail
            ((with_reducible refine (cr.out x _ _ (hp.mono EU8.stable (b_alloc (Below.refl _ wr) _)) s0).mono ?_); rintro e w1 ⟨rfl, b1⟩)
            obtain ⟨bc1, bf1⟩ := bcell b1
            have hsz1 : wr.heap.size < w1.heap.size := by have := b1.size; simp at this; omega
            go_wp2_with fail
            go_roundw
            case rel => exact ⟨k + 1, x.digest, by omega, by go_num, rfl, hla2, hz2, b_call (b_alloc hb _) b1⟩
            case measure => simp [intOf]; omega
        · have t1 : (E x != 0) = true := by simp [hn]
          have hv := hid (hstop.out (by rw [her'.out (ahead l k) x hn]; exact hn))
          have hv2 := hid (her'.out (ahead l k) x hn)
          clear hstep hstop hn
          go_wp2_with fail
          ((with_reducible refine (cr.out x _ _ (hp.mono EU8.stable (b_alloc (Below.refl _ wr) _)) s0).mono ?_); rintro e w1 ⟨rfl, b1⟩)
          obtain ⟨bc1, bf1⟩ := bcell b1
          have hsz1 : wr.heap.size < w1.heap.size := by have := b1.size; simp at this; omega
          go_wp2_with fail
          go_ret
          exact ⟨ret_i (hv.out.trans hv2.out).symm, b_call (b_alloc hb _) b1⟩
      · obtain rfl : k = l.length := by omega
        have hr0 := hid (fault_end hz.out)
        go_wp2_with fail
        go_ret
        exact ⟨ret_i hr0.out.symm, hb⟩
theorem ref_BlobsFault (v : Value) (l : List Blob) (w : World) (h : RBl w v l) :
    Calls Tryz.prog 93 #[v] w fun e w' => e = .returned (.int .i64 (blobsFault l)) ∧ Below w.heap.size w w' :=
  ref_BlobsFault' blobErr blobFault (blobsFault l) v l w h (fun _ _ => blobFault_err) (fun _ _ => blobFault_twice) (fun _ _ => blobFault_ok) (fun _ => blobErr_pos) blobsFault_long blobsFault_short ref_BlobFault
end Go.Proofs.YtojebioolflbkaaGreat
