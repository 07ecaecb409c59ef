import Derived.Test.YtpkpgehiplhkpaaGreatTzSrt
import Derived.Test.YtpkpgehiplhkpaaGreatTzOpC
import Derived.Laws.CopyOwn
import Derived.Great.BuildSlice
import Derived.StillTailTactics
namespace Go.Proofs.YtpkpgehiplhkpaaGreat
open Go.RowKit
theorem qzidx_2 {P : Prop} (h : P := by
 clear hstep hstop hn q a2
 go_wp2_with fail
 refine (hex_Check_any _ _ s0).mono ?_
 rintro e w1 ⟨rfl, b1⟩
 obtain ⟨bc1, bf1⟩ := bcell b1
 have hsz1 : wr.heap.size < w1.heap.size := by have := b1.size; simp at this; omega
 go_wp2_with fail
 go_quiet (fail)
 go_wp2_with fail
 go_ret
 exact ⟨ret_i (hv.out.trans hv2.out).symm, below_drewN (b_call (b_alloc hb _) b1) _⟩) : P := h
theorem qzidx_1 {P : Prop} (h : P := by
 by_cases hd : partsFault x.parts = 0
 · have t2 : (partsFault x.parts != 0) = false := by simp [hd]
   by_cases hpi : x.pins < 0 ∨ 5 < x.pins
   · have hpe := pinErr_bad hpi
     have hv := hid (hstop.out (by rw [entryFault_pins hn q hd (by rw [hpe]; decide)]; decide))
     have hv2 := hid (entryFault_pins hn q hd (by rw [hpe]; decide))
     clear hstep hstop hd hn q
     have t3 : (pinErr x.pins != 0) = true := by rw [hpe]; rfl
     have hv3 : Hid (pinErr x.pins = 4) := hid hpe
     clear hpe hpi
     go_wp2_with fail
     refine (hex_Check_any _ _ s0).mono ?_
     rintro e w1 ⟨rfl, b1⟩
     obtain ⟨bc1, bf1⟩ := bcell b1
     have hsz1 : wr.heap.size < w1.heap.size := by have := b1.size; simp at this; omega
     go_wp2_with fail
     go_quiet (fail)
     go_wp2_with fail
     refine (manifest_Check _ _ _ (hp.mono EPart.stable (below_drewN (b_call (b_alloc (Below.refl _ wr) _) b1) _))).mono ?_
     rintro e w2 ⟨rfl, b2⟩
     obtain ⟨bc2, bf2⟩ := bcell (b_call (below_drewN (Below.refl _ w1) _) b2)
     have hsz2 : w1.heap.size ≤ w2.heap.size := b2.size
     go_wp2_with fail
     refine (pin_Check _ _).mono ?_
     rintro e w3 ⟨rfl, rfl⟩
     go_wp2_with fail
     go_ret
     exact ⟨ret_i (hv3.out.trans (hv.out.trans hv2.out).symm), b_call (below_drewN (b_call (b_alloc hb _) b1) _) b2⟩
   · have hpe := pinErr_ok hpi
     have r1 : decide (x.pins < 0) = false := by simp; omega
     have r2 : decide (5 < x.pins) = false := by simp; omega
     have t3 : (pinErr x.pins != 0) = false := by rw [hpe]; rfl
     by_cases g1 : x.stamp < 0
     · have q1 : decide (x.stamp < 0) = true := by simp; omega
       have hv := hid (hstop.out (by rw [entryFault_stamp hn q hd hpe (by simp [stampBad, q1])]; decide))
       have hv2 := hid (entryFault_stamp hn q hd hpe (by simp [stampBad, q1]))
       clear hstep hstop hd hn q g1 hpe hpi
       go_wp2_with fail
       refine (hex_Check_any _ _ s0).mono ?_
       rintro e w1 ⟨rfl, b1⟩
       obtain ⟨bc1, bf1⟩ := bcell b1
       have hsz1 : wr.heap.size < w1.heap.size := by have := b1.size; simp at this; omega
       go_wp2_with fail
       go_quiet (fail)
       go_wp2_with fail
       refine (manifest_Check _ _ _ (hp.mono EPart.stable (below_drewN (b_call (b_alloc (Below.refl _ wr) _) b1) _))).mono ?_
       rintro e w2 ⟨rfl, b2⟩
       obtain ⟨bc2, bf2⟩ := bcell (b_call (below_drewN (Below.refl _ w1) _) b2)
       have hsz2 : w1.heap.size ≤ w2.heap.size := b2.size
       go_wp2_with fail
       refine (pin_Check _ _).mono ?_
       rintro e w3 ⟨rfl, rfl⟩
       go_wp2_with fail
       go_ret
       exact ⟨ret_i (hv.out.trans hv2.out).symm, b_call (below_drewN (b_call (b_alloc hb _) b1) _) b2⟩
     · have q1 : decide (x.stamp < 0) = false := by simp; omega
       by_cases g2 : 1099511627776 < x.stamp
       · have q2 : decide (1099511627776 < x.stamp) = true := by simp; omega
         have hv := hid (hstop.out (by rw [entryFault_stamp hn q hd hpe (by simp [stampBad, q2])]; decide))
         have hv2 := hid (entryFault_stamp hn q hd hpe (by simp [stampBad, q2]))
         clear hstep hstop hd hn q g1 g2 hpe hpi
         go_wp2_with fail
         refine (hex_Check_any _ _ s0).mono ?_
         rintro e w1 ⟨rfl, b1⟩
         obtain ⟨bc1, bf1⟩ := bcell b1
         have hsz1 : wr.heap.size < w1.heap.size := by have := b1.size; simp at this; omega
         go_wp2_with fail
         go_quiet (fail)
         go_wp2_with fail
         refine (manifest_Check _ _ _ (hp.mono EPart.stable (below_drewN (b_call (b_alloc (Below.refl _ wr) _) b1) _))).mono ?_
         rintro e w2 ⟨rfl, b2⟩
         obtain ⟨bc2, bf2⟩ := bcell (b_call (below_drewN (Below.refl _ w1) _) b2)
         have hsz2 : w1.heap.size ≤ w2.heap.size := b2.size
         go_wp2_with fail
         refine (pin_Check _ _).mono ?_
         rintro e w3 ⟨rfl, rfl⟩
         go_wp2_with fail
         go_ret
         exact ⟨ret_i (hv.out.trans hv2.out).symm, b_call (below_drewN (b_call (b_alloc hb _) b1) _) b2⟩
       · have q2 : decide (1099511627776 < x.stamp) = false := by simp; omega
         have hz2 := hid (hstep.out (entryFault_ok hn q hd hpe (by simp only [stampBad, q1, q2]; rfl)))
         clear hstep hstop hd hn q g1 g2 hpe hpi
         go_wp2_with fail
         refine (hex_Check_any _ _ s0).mono ?_
         rintro e w1 ⟨rfl, b1⟩
         obtain ⟨bc1, bf1⟩ := bcell b1
         have hsz1 : wr.heap.size < w1.heap.size := by have := b1.size; simp at this; omega
         go_wp2_with fail
         go_quiet (fail)
         go_wp2_with fail
         refine (manifest_Check _ _ _ (hp.mono EPart.stable (below_drewN (b_call (b_alloc (Below.refl _ wr) _) b1) _))).mono ?_
         rintro e w2 ⟨rfl, b2⟩
         obtain ⟨bc2, bf2⟩ := bcell (b_call (below_drewN (Below.refl _ w1) _) b2)
         have hsz2 : w1.heap.size ≤ w2.heap.size := b2.size
         go_wp2_with fail
         refine (pin_Check _ _).mono ?_
         rintro e w3 ⟨rfl, rfl⟩
         go_wp2_with fail
         go_roundw
         case rel => exact ⟨k + 1, by omega, by go_num, hz2, b_call (below_drewN (b_call (b_alloc hb _) b1) _) b2⟩
         case measure => simp [intOf]; omega
 · have t2 : (partsFault x.parts != 0) = true := by simp [hd]
   have hv := hid (hstop.out (by rw [entryFault_parts hn q hd]; exact hd))
   have hv2 := hid (entryFault_parts hn q hd)
   clear hstep hstop hd hn q
   go_wp2_with fail
   refine (hex_Check_any _ _ s0).mono ?_
   rintro e w1 ⟨rfl, b1⟩
   obtain ⟨bc1, bf1⟩ := bcell b1
   have hsz1 : wr.heap.size < w1.heap.size := by have := b1.size; simp at this; omega
   go_wp2_with fail
   go_quiet (fail)
   go_wp2_with fail
   refine (manifest_Check _ _ _ (hp.mono EPart.stable (below_drewN (b_call (b_alloc (Below.refl _ wr) _) b1) _))).mono ?_
   rintro e w2 ⟨rfl, b2⟩
   obtain ⟨bc2, bf2⟩ := bcell (b_call (below_drewN (Below.refl _ w1) _) b2)
   have hsz2 : w1.heap.size ≤ w2.heap.size := b2.size
   go_wp2_with fail
   go_ret
   exact ⟨ret_i (hv.out.trans hv2.out).symm, b_call (below_drewN (b_call (b_alloc hb _) b1) _) b2⟩) : P := h
def stampBad (n : Int) : Bool := decide (n < 0) || decide (1099511627776 < n)
def entryFault (p : Option Entry) (x : Entry) : Int :=
 if hexFault x.key = 0 then (if notAfter (p.map (·.key)) x.key = true then 6 else if partsFault x.parts = 0 then (if pinErr x.pins = 0 then (if stampBad x.stamp = true then 4 else 0) else 4) else partsFault x.parts) else hexFault x.key
def entriesFault (l : List Entry) : Int := if 10 < l.length then 1 else faultFrom entryFault none l
theorem pinErr_bad {n : Int} (h : n < 0 ∨ 5 < n) : pinErr n = 4 := by unfold pinErr; rw [if_pos h]
theorem pinErr_ok {n : Int} (h : ¬ (n < 0 ∨ 5 < n)) : pinErr n = 0 := by unfold pinErr; rw [if_neg h]
theorem pinErr_zero {n : Int} (h : pinErr n = 0) : 0 ≤ n ∧ n ≤ 5 := by
 unfold pinErr at h
 split at h
 · cases h
 omega
section
variable {p : Option Entry} {x : Entry}
theorem entryFault_key (h : hexFault x.key ≠ 0) : entryFault p x = hexFault x.key := by unfold entryFault; rw [if_neg h]
theorem entryFault_twice (h : hexFault x.key = 0) (h2 : notAfter (p.map (·.key)) x.key = true) : entryFault p x = 6 := by unfold entryFault; rw [if_pos h, if_pos h2]
theorem entryFault_parts (h : hexFault x.key = 0) (h2 : notAfter (p.map (·.key)) x.key = false) (h3 : partsFault x.parts ≠ 0) : entryFault p x = partsFault x.parts := by unfold entryFault; rw [if_pos h, if_neg (by rw [h2]; decide), if_neg h3]
theorem entryFault_pins (h : hexFault x.key = 0) (h2 : notAfter (p.map (·.key)) x.key = false) (h3 : partsFault x.parts = 0) (h4 : pinErr x.pins ≠ 0) : entryFault p x = 4 := by unfold entryFault; rw [if_pos h, if_neg (by rw [h2]; decide), if_pos h3, if_neg h4]
theorem entryFault_stamp (h : hexFault x.key = 0) (h2 : notAfter (p.map (·.key)) x.key = false) (h3 : partsFault x.parts = 0) (h4 : pinErr x.pins = 0) (h5 : stampBad x.stamp = true) : entryFault p x = 4 := by unfold entryFault; rw [if_pos h, if_neg (by rw [h2]; decide), if_pos h3, if_pos h4, if_pos h5]
theorem entryFault_ok (h : hexFault x.key = 0) (h2 : notAfter (p.map (·.key)) x.key = false) (h3 : partsFault x.parts = 0) (h4 : pinErr x.pins = 0) (h5 : stampBad x.stamp = false) : entryFault p x = 0 := by unfold entryFault; rw [if_pos h, if_neg (by rw [h2]; decide), if_pos h3, if_pos h4, if_neg (by rw [h5]; decide)]
theorem entryFault_zero (h : entryFault p x = 0) : hexFault x.key = 0 ∧ notAfter (p.map (·.key)) x.key = false ∧ partsFault x.parts = 0 ∧ (0 ≤ x.pins ∧ x.pins ≤ 5) ∧ 0 ≤ x.stamp ∧ x.stamp ≤ 1099511627776 := by
 unfold entryFault at h
 split at h
 · rename_i h1
   split at h
   · cases h
   rename_i h2
   split at h
   · rename_i h3
     split at h
     · rename_i h4
       split at h
       · cases h
       rename_i h5
       simp only [stampBad, Bool.or_eq_true, decide_eq_true_eq] at h5
       exact ⟨h1, by simpa using h2, h3, pinErr_zero h4, by omega, by omega⟩
     cases h
   rename_i h3; exact absurd h h3
 rename_i h1; exact absurd h h1
end
theorem entriesFault_long {l : List Entry} (h : 10 < l.length) : entriesFault l = 1 := by unfold entriesFault; rw [if_pos h]
theorem entriesFault_short {l : List Entry} (h : ¬ 10 < l.length) : entriesFault l = faultFrom entryFault (ahead l 0) (l.drop 0) := by unfold entriesFault; rw [if_neg h]; rfl
theorem hexFault_pos {s : ByteArray} (h : hexFault s = 0) : 1 ≤ s.size := by have := (hexFault_zero h).1; omega
set_option maxRecDepth 100000 in
set_option maxHeartbeats 2000000 in
theorem index_Check (v : Value) (l : List Entry) (w : World) (h : RE w v l) :
 Calls Tryz.prog 104 #[v] w fun e w' => e = .returned (.int .i64 (entriesFault l)) ∧ Below w.heap.size w w' := by
 obtain ⟨a, c, rfl, hlc, hcm, hre, hno, hat⟩ := h
 unfold maxLen at hcm
 clear hno
 by_cases h8 : 10 < l.length
 · have hr := hid (entriesFault_long h8)
   go_enter Tryz.func104, Tryz.ntmps104
   go_wp2_with fail
   go_ret
   exact ⟨ret_i hr.out.symm, Below.refl _ _⟩
 have hr := hid (entriesFault_short h8)
 generalize entriesFault l = z at *
 go_enter Tryz.func104, Tryz.ntmps104
 go_wp2_with fail
 go_loopw [3, 5, 6, 7, 13] (fun _ _ _ _ i wr => ∃ (k : Nat), k ≤ l.length ∧ i = .int .i64 k ∧ Hid (z = faultFrom entryFault (ahead l k) (l.drop k)) ∧ Below w.heap.size w wr) (fun _ _ _ _ i _ => l.length - (intOf i).toNat)
 case atStart => exact ⟨0, by omega, rfl, hr, Below.refl _ _⟩
 obtain ⟨k, hk, rfl, hz, hb⟩ := hrel
 by_cases hlt : k < l.length
 · have hx : l[k]? = some l[k] := List.getElem?_eq_getElem hlt
   generalize l[k] = x at hx
   obtain ⟨bb, off, rfl, hbb, he⟩ := hat k _ hx
   obtain ⟨pv, c0, c1, c2, c3, hp, s0, wf, wf2⟩ := EEntry.stable _ _ _ _ _ hb hbb he
   obtain ⟨pa, pc, rfl, -⟩ := id hp
   have hbw : bb < wr.heap.size := Nat.lt_of_lt_of_le hbb hb.size
   have hstep := hid (fun h0 => fault_step hz.out hx h0)
   have hstop := hid (fun h0 => fault_stop hz.out hx h0)
   have hat0 := hid hat
   clear hr hz hat he
   replace hx := hid hx
   by_cases hn : hexFault x.key = 0
   · have t1 : (hexFault x.key != 0) = false := by simp [hn]
     by_cases hk0 : k = 0
     · have d0 : decide (0 < k) = false := by simp; omega
       have q : notAfter ((ahead l k).map (·.key)) x.key = false := by rw [hk0, ahead_zero]; rfl
       replace hk0 := hid hk0
       exact qzidx_1
     have d0 : decide (0 < k) = true := by simp; omega
     have hy : l[k - 1]? = some l[k - 1] := List.getElem?_eq_getElem (by omega)
     generalize l[k - 1] = y at hy
     obtain ⟨b2, off2, e2, hbb2, he2⟩ := hat0.out (k - 1) _ hy
     simp only [Option.some.injEq, Addr.mk.injEq, and_true] at e2
     obtain ⟨rfl, rfl⟩ := e2
     obtain ⟨pv2, p0, -⟩ := EEntry.stable _ _ _ _ _ hb hbb2 he2
     have hah : Hid (ahead l k = some y) := by
      obtain ⟨m, rfl⟩ : ∃ m, k = m + 1 := ⟨k - 1, by omega⟩
      exact hid hy
     have hpos : 0 < l.length := by omega
     have e1 : IntKind.i64.wrap ((k : Int) - 1) = (k : Int) - 1 := IntWalk.i64_in _ (by omega)
     have e3 : (0 : Int) ≤ (k : Int) - 1 := by omega
     have e4 : (1 : Int) ≤ (k : Int) := by omega
     have e5 : (k : Int) - 1 < (l.length : Int) := by omega
     have e6 : ((k : Int) - 1).toNat = k - 1 := by omega
     clear he2 hy hat0
     rcases sle_atoms x.key y.key with ⟨a1, a2⟩ | ⟨a1, a3, a2⟩ | ⟨a1, a3, a2⟩
     · have q : notAfter ((ahead l k).map (·.key)) x.key = true := by rw [hah.out]; simp [notAfter, a2]
       have hv := hid (hstop.out (by rw [entryFault_twice hn q]; decide))
       have hv2 := hid (entryFault_twice hn q)
       exact qzidx_2
     · have q : notAfter ((ahead l k).map (·.key)) x.key = true := by rw [hah.out]; simp [notAfter, a2]
       have hv := hid (hstop.out (by rw [entryFault_twice hn q]; decide))
       have hv2 := hid (entryFault_twice hn q)
       have a4 : (x.key.toList == y.key.toList) = true := by rw [a3]; simp
       replace a3 := hid a3
       exact qzidx_2
     have q : notAfter ((ahead l k).map (·.key)) x.key = false := by rw [hah.out]; simp [notAfter, a2]
     clear a2
     exact qzidx_1
   have t1 : (hexFault x.key != 0) = true := by simp [hn]
   have hv := hid (hstop.out (by rw [entryFault_key hn]; exact hn))
   have hv2 := hid (entryFault_key (p := ahead l k) hn)
   clear hstep hstop hn
   go_wp2_with fail
   refine (hex_Check_any _ _ s0).mono ?_
   rintro e w1 ⟨rfl, b1⟩
   obtain ⟨bc1, bf1⟩ := bcell b1
   have hsz1 : wr.heap.size < w1.heap.size := by have := b1.size; simp at this; omega
   go_wp2_with fail
   go_ret
   exact ⟨ret_i (hv.out.trans hv2.out).symm, b_call (b_alloc hb _) b1⟩
 obtain rfl : k = l.length := by omega
 have hr0 := hid (fault_end hz.out)
 go_wp2_with fail
 go_ret
 exact ⟨ret_i hr0.out.symm, hb⟩
end Go.Proofs.YtpkpgehiplhkpaaGreat

namespace Go.Proofs.YtpkpgehiplhkpaaGreat
open Go.RowKit
theorem qzshb_6 {P : Prop} (h : P := by first | rfl | simp) : P := h
theorem qzshb_5 {P : Prop} (h : P := by omega) : P := h
theorem qzshb_4 {P : Prop} (h : P := by
 go_wp2_with fail
 go_ret
 exact ⟨ret_i hv.out.symm, b_call (b_call (b_alloc (Below.refl _ _) _) b1) b2⟩) : P := h
theorem qzshb_3 {P : Prop} (h : P := by
 clear hn
 go_enter Tryz.func185, Tryz.ntmps185
 go_wp2_with fail
 ((with_reducible refine (hex_Check_any _ _ hs).mono ?_); rintro e w1 ⟨rfl, b1⟩)
 obtain ⟨bc1, bf1⟩ := bcell b1
 have hsz1 : w.heap.size < w1.heap.size := by have := b1.size; simp at this; omega
 go_wp2_with fail
 go_ret
 exact ⟨ret_i hv.out.symm, b_call (b_alloc (Below.refl _ _) _) b1⟩) : P := h
theorem qzshb_2 {P : Prop} (h : P := by
 clear hstep hstop hn q a2
 go_wp2_with fail
 ((with_reducible refine (cr.out x _ _ (hp.mono EU8.stable (b_alloc (Below.refl _ wr) _)) s0).mono ?_); rintro e w1 ⟨rfl, b1⟩)
 obtain ⟨bc1, bf1⟩ := bcell b1
 have hsz1 : wr.heap.size < w1.heap.size := by have := b1.size; simp at this; omega
 go_wp2_with fail
 go_quiet (fail)
 go_wp2_with fail
 go_ret
 exact ⟨ret_i (hv.out.trans hv2.out).symm, below_drewN (b_call (b_alloc hb _) b1) _⟩) : P := h
theorem qzshb_1 {P : Prop} (h : P := by
 go_wp2_with fail
 ((with_reducible refine (cr.out x _ _ (hp.mono EU8.stable (b_alloc (Below.refl _ wr) _)) s0).mono ?_); rintro e w1 ⟨rfl, b1⟩)
 obtain ⟨bc1, bf1⟩ := bcell b1
 have hsz1 : wr.heap.size < w1.heap.size := by have := b1.size; simp at this; omega
 go_wp2_with fail
 go_quiet (fail)
 go_wp2_with fail
 go_roundw
 case rel => exact ⟨k + 1, by omega, by go_num, hz2, below_drewN (b_call (b_alloc hb _) b1) _⟩
 case measure => simp [intOf]; omega) : P := h
def padZ (n : Nat) : Nat := (119 - n % 64) % 64
theorem padZ_spec (n : Nat) : (n + 1 + padZ n) % 64 = 56 := by unfold padZ; omega
theorem padZ_least (n z : Nat) (h : z < padZ n) : (n + 1 + z) % 64 ≠ 56 := by unfold padZ at h; omega
theorem padZ_lt (n : Nat) : padZ n < 64 := by unfold padZ; omega
def be (m k : Nat) : UInt8 := UInt8.ofNat (m / 2 ^ (8 * k))
def be8 (m : Nat) : List UInt8 := [be m 7, be m 6, be m 5, be m 4, be m 3, be m 2, be m 1, be m 0]
def padZs (l : List UInt8) (z : Nat) : List UInt8 := l ++ [128] ++ List.replicate z 0
def padRes (l : List UInt8) : List UInt8 := padZs l (padZ l.length) ++ be8 (8 * l.length)
theorem padZs_len (l : List UInt8) (z : Nat) : (padZs l z).length = l.length + 1 + z := by simp [padZs]; omega
theorem padZs_snoc (l : List UInt8) (z : Nat) : padZs l z ++ [0] = padZs l (z + 1) := by
 unfold padZs
 rw [List.append_assoc, ← List.replicate_succ']
theorem padRes_len (l : List UInt8) : (padRes l).length = l.length + 9 + padZ l.length := by
 unfold padRes
 rw [List.length_append, padZs_len]
 simp [be8]
 omega
theorem be_val (m k : Nat) : ((be m k).toNat : Int) = ((m / 2 ^ (8 * k) % 256 : Nat) : Int) := by
 unfold be
 rw [UInt8.toNat_ofNat']
def padErr (l : List UInt8) : Int := if 2000 < l.length then 1 else 0
def padOut (l : List UInt8) : List UInt8 := if 2000 < l.length then [] else padRes l
theorem padOut_len (l : List UInt8) : (padOut l).length ≤ 2072 := by
 unfold padOut
 split
 · simp
 rw [padRes_len]; have := padZ_lt l.length; omega
theorem padOut_short {l : List UInt8} (h : l.length ≤ 2000) : (padOut l).length ≤ 2072 ∧ (padOut l).length % 64 = 0 ∧ padOut l = padRes l := by
 refine ⟨padOut_len l, ?_, ?_⟩
 · unfold padOut; rw [if_neg qzshb_5, padRes_len]; have := padZ_spec l.length; omega
 unfold padOut; rw [if_neg qzshb_5]
set_option maxRecDepth 100000 in
set_option maxHeartbeats 2000000 in
theorem sha_Pad_ok (v : Value) (l : List UInt8) (w : World) (hl : RB w v l) (h : l.length ≤ 2000) :
 Calls Tryz.prog 137 #[v] w fun e w' => ∃ v', e = .returned (.tuple #[v', .int .i64 0]) ∧ OS 5 1 cU8 w' w.heap.size v' (padRes l) ∧ Below w.heap.size w w' := by
 obtain ⟨i0, hi, hz0, hz1, hz2⟩ := info_parts info_u8
 have hR := hl
 obtain ⟨a, c, rfl, hlc, hcm, hre, hno, _⟩ := hl
 unfold maxLen at hcm
 have hpz := padZ_lt l.length
 go_enter Tryz.func137, Tryz.ntmps137
 go_wp2_with (at_builtin; go_must (refine wpL_append flat_u8 rfl (.const (.slice none 0 0)) (.tmp 10) 41 rfl 5 i0 (.int .u8 0) Tryz.underlying41 hi hz0 hz1 hz2 rfl w.heap.size _ [] rfl OS.nil _ l rfl hR ?c1 ?c2 ?c3 ?_))
 case c1 => simp; omega
 case c2 => simp [maxLen]; omega
 case c3 => simp
 intro v1 w1 own1 hgr
 have b1 := b_grown (Below.refl _ _) hgr (fun k hk => by simp [Value.ownBlock] at hk)
 clear hgr
 have s1 := b1.size
 go_wp2_with (at_builtin; go_must (refine wpL_append flat_u8 rfl (.tmp 11) (.tmp 12) 41 rfl 5 i0 (.int .u8 0) Tryz.underlying41 hi hz0 hz1 hz2 rfl w.heap.size _ l rfl (OS.alloc own1 _) _ [128] rfl (one_u8 _ _ _ _ _ qzshb_6 rfl) ?c1 ?c2 ?c3 ?_))
 case c1 => simp; omega
 case c2 => simp [maxLen]; omega
 case c3 => simp; omega
 intro v2 w2 own2 hgr
 have b2 := b_grown (b_alloc b1 _) hgr (OS.block own1)
 have own2 : OS 5 1 cU8 w2 w.heap.size v2 (padZs l 0) := by simpa [padZs] using own2
 clear hgr own1 b1 s1
 go_wp2_with fail
 go_loopw [4] (fun v wr => ∃ z : Nat, z ≤ padZ l.length ∧ OS 5 1 cU8 wr w.heap.size v (padZs l z) ∧ Below w.heap.size w wr) (fun v _ => 4000 - (match v with | .slice _ n _ => n | _ => 0))
 case atStart => exact ⟨0, by omega, own2, b2⟩
 obtain ⟨z, hz, hown, hb⟩ := hrel
 obtain ⟨ad, cp, rfl, hlcp, hcpm, hno2⟩ := OS.len_le hown
 have hlz := padZs_len l z
 unfold maxLen at hcpm
 have hs := hb.size
 by_cases hlt : z < padZ l.length
 · have hne := padZ_least l.length z hlt
   have q1 : ((((padZs l z).length : Int) % 64) != 56) = true := by rw [hlz]; simp; omega
   have hsn := hid (padZs_snoc l z)
   replace hlz := hid hlz
   clear hne
   have hln : (padZs l z).length ≤ 2100 := by rw [hlz.out]; omega
   go_wp2_with (at_builtin; go_must (refine wpL_append flat_u8 rfl (.tmp 18) (.tmp 19) 41 rfl 5 i0 (.int .u8 0) Tryz.underlying41 hi hz0 hz1 hz2 rfl w.heap.size _ (padZs l z) rfl (OS.alloc hown _) _ [0] rfl (one_u8 _ _ _ _ _ qzshb_6 rfl) ?c1 ?c2 ?c3 ?_))
   case c1 => simp; omega
   case c2 => simp [maxLen]; omega
   case c3 => simp; omega
   intro v' w3 hown1 hgr
   have hb2 := b_grown (b_alloc hb _) hgr (OS.block hown)
   rw [hsn.out] at hown1
   clear hgr hb hown
   obtain ⟨ad2, cp2, rfl, -⟩ := id (OS.len_le hown1)
   have hl2 := hid (padZs_len l (z + 1))
   go_wp2_with fail
   go_roundw
   case rel => exact ⟨z + 1, by omega, hown1, hb2⟩
   case measure => have := hl2.out; have := hlz.out; simp; omega
 obtain rfl : z = padZ l.length := by omega
 have hsp := padZ_spec l.length
 have q1 : ((((padZs l (padZ l.length)).length : Int) % 64) != 56) = false := by rw [hlz]; simp; omega
 have hln : (padZs l (padZ l.length)).length ≤ 2100 := by omega
 clear hsp
 replace hlz := hid hlz
 go_wp2_with fail
 refine wp_loop_rounds 9 ?_
 rw [rounds_succ]
 have e0 : Hid ((8 * (l.length : Int)) / 72057594037927936 % 256 = ((be (8 * l.length) 7).toNat : Int)) := by
  refine hid ?_
  rw [be_val]
  omega
 go_wp2_with (at_builtin; go_must (refine wpL_append flat_u8 rfl (.tmp 28) (.tmp 34) 41 rfl 5 i0 (.int .u8 0) Tryz.underlying41 hi hz0 hz1 hz2 rfl w.heap.size _ (padZs l (padZ l.length)) rfl (OS.alloc hown _) _ [be (8 * l.length) 7] rfl (one_u8 _ _ _ _ _ qzshb_6 (by first | exact e0.out | (have := e0.out; omega))) ?c1 ?c2 ?c3 ?_))
 case c1 => simp; omega
 case c2 => simp [maxLen]; omega
 case c3 => have := hb.size; simp; omega
 intro y1 W1 own11 hgr
 have bb1 := b_grown (b_alloc hb _) hgr (OS.block hown)
 clear hgr
 clear hown hb
 go_wp2_with fail
 rw [rounds_succ]
 have e1 : Hid ((8 * (l.length : Int)) / 281474976710656 % 256 = ((be (8 * l.length) 6).toNat : Int)) := by
  refine hid ?_
  rw [be_val]
  omega
 go_wp2_with (at_builtin; go_must (refine wpL_append flat_u8 rfl (.tmp 28) (.tmp 34) 41 rfl 5 i0 (.int .u8 0) Tryz.underlying41 hi hz0 hz1 hz2 rfl w.heap.size _ (padZs l (padZ l.length) ++ [be (8 * l.length) 7]) rfl (OS.alloc own11 _) _ [be (8 * l.length) 6] rfl (one_u8 _ _ _ _ _ qzshb_6 (by first | exact e1.out | (have := e1.out; omega))) ?c1 ?c2 ?c3 ?_))
 case c1 => simp; omega
 case c2 => simp [maxLen]; omega
 case c3 => have := bb1.size; simp; omega
 intro y2 W2 own12 hgr
 have bb2 := b_grown (b_alloc bb1 _) hgr (OS.block own11)
 clear hgr
 clear own11 bb1
 go_wp2_with fail
 rw [rounds_succ]
 have e2 : Hid ((8 * (l.length : Int)) / 1099511627776 % 256 = ((be (8 * l.length) 5).toNat : Int)) := by
  refine hid ?_
  rw [be_val]
  omega
 go_wp2_with (at_builtin; go_must (refine wpL_append flat_u8 rfl (.tmp 28) (.tmp 34) 41 rfl 5 i0 (.int .u8 0) Tryz.underlying41 hi hz0 hz1 hz2 rfl w.heap.size _ (padZs l (padZ l.length) ++ [be (8 * l.length) 7, be (8 * l.length) 6]) rfl (OS.alloc own12 _) _ [be (8 * l.length) 5] rfl (one_u8 _ _ _ _ _ qzshb_6 (by first | exact e2.out | (have := e2.out; omega))) ?c1 ?c2 ?c3 ?_))
 case c1 => simp; omega
 case c2 => simp [maxLen]; omega
 case c3 => have := bb2.size; simp; omega
 intro y3 W3 own13 hgr
 have bb3 := b_grown (b_alloc bb2 _) hgr (OS.block own12)
 clear hgr
 clear own12 bb2
 go_wp2_with fail
 rw [rounds_succ]
 have e3 : Hid ((8 * (l.length : Int)) / 4294967296 % 256 = ((be (8 * l.length) 4).toNat : Int)) := by
  refine hid ?_
  rw [be_val]
  omega
 go_wp2_with (at_builtin; go_must (refine wpL_append flat_u8 rfl (.tmp 28) (.tmp 34) 41 rfl 5 i0 (.int .u8 0) Tryz.underlying41 hi hz0 hz1 hz2 rfl w.heap.size _ (padZs l (padZ l.length) ++ [be (8 * l.length) 7, be (8 * l.length) 6, be (8 * l.length) 5]) rfl (OS.alloc own13 _) _ [be (8 * l.length) 4] rfl (one_u8 _ _ _ _ _ qzshb_6 (by first | exact e3.out | (have := e3.out; omega))) ?c1 ?c2 ?c3 ?_))
 case c1 => simp; omega
 case c2 => simp [maxLen]; omega
 case c3 => have := bb3.size; simp; omega
 intro y4 W4 own14 hgr
 have bb4 := b_grown (b_alloc bb3 _) hgr (OS.block own13)
 clear hgr
 clear own13 bb3
 go_wp2_with fail
 rw [rounds_succ]
 have e4 : Hid ((8 * (l.length : Int)) / 16777216 % 256 = ((be (8 * l.length) 3).toNat : Int)) := by
  refine hid ?_
  rw [be_val]
  omega
 go_wp2_with (at_builtin; go_must (refine wpL_append flat_u8 rfl (.tmp 28) (.tmp 34) 41 rfl 5 i0 (.int .u8 0) Tryz.underlying41 hi hz0 hz1 hz2 rfl w.heap.size _ (padZs l (padZ l.length) ++ [be (8 * l.length) 7, be (8 * l.length) 6, be (8 * l.length) 5, be (8 * l.length) 4]) rfl (OS.alloc own14 _) _ [be (8 * l.length) 3] rfl (one_u8 _ _ _ _ _ qzshb_6 (by first | exact e4.out | (have := e4.out; omega))) ?c1 ?c2 ?c3 ?_))
 case c1 => simp; omega
 case c2 => simp [maxLen]; omega
 case c3 => have := bb4.size; simp; omega
 intro y5 W5 own15 hgr
 have bb5 := b_grown (b_alloc bb4 _) hgr (OS.block own14)
 clear hgr
 clear own14 bb4
 go_wp2_with fail
 rw [rounds_succ]
 have e5 : Hid ((8 * (l.length : Int)) / 65536 % 256 = ((be (8 * l.length) 2).toNat : Int)) := by
  refine hid ?_
  rw [be_val]
  omega
 go_wp2_with (at_builtin; go_must (refine wpL_append flat_u8 rfl (.tmp 28) (.tmp 34) 41 rfl 5 i0 (.int .u8 0) Tryz.underlying41 hi hz0 hz1 hz2 rfl w.heap.size _ (padZs l (padZ l.length) ++ [be (8 * l.length) 7, be (8 * l.length) 6, be (8 * l.length) 5, be (8 * l.length) 4, be (8 * l.length) 3]) rfl (OS.alloc own15 _) _ [be (8 * l.length) 2] rfl (one_u8 _ _ _ _ _ qzshb_6 (by first | exact e5.out | (have := e5.out; omega))) ?c1 ?c2 ?c3 ?_))
 case c1 => simp; omega
 case c2 => simp [maxLen]; omega
 case c3 => have := bb5.size; simp; omega
 intro y6 W6 own16 hgr
 have bb6 := b_grown (b_alloc bb5 _) hgr (OS.block own15)
 clear hgr
 clear own15 bb5
 go_wp2_with fail
 rw [rounds_succ]
 have e6 : Hid ((8 * (l.length : Int)) / 256 % 256 = ((be (8 * l.length) 1).toNat : Int)) := by
  refine hid ?_
  rw [be_val]
  omega
 go_wp2_with (at_builtin; go_must (refine wpL_append flat_u8 rfl (.tmp 28) (.tmp 34) 41 rfl 5 i0 (.int .u8 0) Tryz.underlying41 hi hz0 hz1 hz2 rfl w.heap.size _ (padZs l (padZ l.length) ++ [be (8 * l.length) 7, be (8 * l.length) 6, be (8 * l.length) 5, be (8 * l.length) 4, be (8 * l.length) 3, be (8 * l.length) 2]) rfl (OS.alloc own16 _) _ [be (8 * l.length) 1] rfl (one_u8 _ _ _ _ _ qzshb_6 (by first | exact e6.out | (have := e6.out; omega))) ?c1 ?c2 ?c3 ?_))
 case c1 => simp; omega
 case c2 => simp [maxLen]; omega
 case c3 => have := bb6.size; simp; omega
 intro y7 W7 own17 hgr
 have bb7 := b_grown (b_alloc bb6 _) hgr (OS.block own16)
 clear hgr
 clear own16 bb6
 go_wp2_with fail
 rw [rounds_succ]
 have e7 : Hid ((8 * (l.length : Int)) / 1 % 256 = ((be (8 * l.length) 0).toNat : Int)) := by
  refine hid ?_
  rw [be_val]
  omega
 go_wp2_with (at_builtin; go_must (refine wpL_append flat_u8 rfl (.tmp 28) (.tmp 34) 41 rfl 5 i0 (.int .u8 0) Tryz.underlying41 hi hz0 hz1 hz2 rfl w.heap.size _ (padZs l (padZ l.length) ++ [be (8 * l.length) 7, be (8 * l.length) 6, be (8 * l.length) 5, be (8 * l.length) 4, be (8 * l.length) 3, be (8 * l.length) 2, be (8 * l.length) 1]) rfl (OS.alloc own17 _) _ [be (8 * l.length) 0] rfl (one_u8 _ _ _ _ _ qzshb_6 (by first | exact e7.out | (have := e7.out; omega))) ?c1 ?c2 ?c3 ?_))
 case c1 => simp; omega
 case c2 => simp [maxLen]; omega
 case c3 => have := bb7.size; simp; omega
 intro y8 W8 own18 hgr
 have bb8 := b_grown (b_alloc bb7 _) hgr (OS.block own17)
 clear hgr
 clear own17 bb7
 go_wp2_with fail
 rw [rounds_succ]
 have hfin : OS 5 1 cU8 W8 w.heap.size y8 (padRes l) := by simpa [padRes, be8] using own18
 clear own18
 have hpl := padRes_len l
 obtain ⟨ad3, cp3, rfl, -⟩ := id (OS.len_le hfin)
 have hrd := reads_u8 hfin qzshb_5
 replace hpl := hid hpl
 go_wp2_with (at_builtin; go_must (refine wpL_append flat_u8 rfl (.const (.slice none 0 0)) (.tmp 36) 41 rfl 5 i0 (.int .u8 0) Tryz.underlying41 hi hz0 hz1 hz2 rfl w.heap.size _ [] rfl OS.nil _ (padRes l) rfl hrd ?c1 ?c2 ?c3 ?_))
 case c1 => have := hpl.out; simp; omega
 case c2 => have := hpl.out; simp [maxLen]; omega
 case c3 => have := bb8.size; omega
 intro v5 w5 own5 hgr
 have b5 := b_grown bb8 hgr (fun k hk => by simp [Value.ownBlock] at hk)
 clear hgr
 go_wp2_with fail
 go_ret2
 exact ⟨_, rfl, by simpa using own5, b5⟩
set_option maxRecDepth 100000 in
theorem sha_Pad_no (v : Value) (l : List UInt8) (w : World) (hl : RB w v l) (h : 2000 < l.length) :
 Calls Tryz.prog 137 #[v] w fun e w' => e = .returned (.tuple #[.slice none 0 0, .int .i64 1]) ∧ w = w' := by
 obtain ⟨a, c, rfl, hlc, hcm, hre, hno, _⟩ := hl
 go_enter Tryz.func137, Tryz.ntmps137
 go_wp2_with fail
 go_ret2
 exact ⟨rfl, rfl⟩
theorem lit8 (w : World) (t : TypeId) (cs : Array Value) (l : List UInt8) (k n : Nat) (hk : k = w.heap.size) (h : cs.toList = l.flatMap cU8) (hn : n = l.length) (hm : l.length ≤ 140737488351232) : RB (w.alloc (.cells cs t)) (.slice (some ⟨k, 0, none⟩) n n) l := by
 subst hk hn
 refine ⟨_, _, rfl, Nat.le_refl _, by simp [maxLen]; omega, by omega, fun h => by simp at h, fun j x hj => ⟨w.heap.size, 0, rfl, by simp, ?_⟩⟩
 unfold EU8
 rw [cell_of_row _ _ _ cs t (0, 0) (heap_alloc_new w _), ← Array.getElem?_toList, h, flat_get (cells := cU8) (fun _ => rfl) (by decide)]
 simp [hj, cU8, Nat.mod_one]
theorem lit32 (w : World) (t : TypeId) (cs : Array Value) (l : List UInt32) (k n : Nat) (hk : k = w.heap.size) (h : cs.toList = l.flatMap cU32) (hn : n = l.length) (hm : l.length ≤ 35184372087808) : RW (w.alloc (.cells cs t)) (.slice (some ⟨k, 0, none⟩) n n) l := by
 subst hk hn
 refine ⟨_, _, rfl, Nat.le_refl _, by simp [maxLen]; omega, by omega, fun h => by simp at h, fun j x hj => ⟨w.heap.size, 0, rfl, by simp, ?_⟩⟩
 unfold EU32
 rw [cell_of_row _ _ _ cs t (0, 0) (heap_alloc_new w _), ← Array.getElem?_toList, h, flat_get (cells := cU32) (fun _ => rfl) (by decide)]
 simp [hj, cU32, Nat.mod_one]
def startW : List UInt32 := [0x6a09e667, 0xbb67ae85, 0x3c6ef372, 0xa54ff53a, 0x510e527f, 0x9b05688c, 0x1f83d9ab, 0x5be0cd19]
set_option maxRecDepth 100000 in
theorem sha_Start (w : World) : Calls Tryz.prog 139 #[] w fun e w' => ∃ v, e = .returned v ∧ RW w' v startW ∧ Below w.heap.size w w' := by
 go_enter Tryz.func139, Tryz.ntmps139
 go_wp2_with fail
 go_ret
 exact ⟨_, rfl, lit32 _ _ _ _ _ _ rfl rfl rfl (by decide), b_alloc (Below.refl _ _) _⟩
def BW (w : World) (g : Nat) (t : TypeId) (l : List UInt32) : Prop := w.heap[g]? = some (.cells (l.flatMap cU32).toArray t (0, 0))
theorem fm32_len (l : List UInt32) : (l.flatMap cU32).length = l.length := by rw [flat_len (s := 1) (cells := cU32) (fun _ => rfl)]; omega
theorem BW.cell {w : World} {g : Nat} {t : TypeId} {l : List UInt32} (h : BW w g t l) (k : Nat) (x : UInt32) (hk : l[k]? = some x) : w.cell? ⟨g, k, none⟩ = some (.int .u32 (x.toNat : Int)) := by
 rw [cell_of_row w g k _ t (0, 0) h, List.getElem?_toArray, flat_get (cells := cU32) (fun _ => rfl) (by decide)]
 simp [hk, cU32, Nat.mod_one]
theorem BW.cellD {w : World} {g : Nat} {t : TypeId} {l : List UInt32} (h : BW w g t l) (k : Nat) (hk : k < l.length) : w.cell? ⟨g, k, none⟩ = some (.int .u32 ((l.getD k 0).toNat : Int)) :=
 h.cell k _ (by rw [List.getD_eq_getElem?_getD, List.getElem?_eq_getElem hk]; rfl)
theorem BW.frozen {w : World} {g : Nat} {t : TypeId} {l : List UInt32} (h : BW w g t l) (k : Nat) : w.frozen? ⟨g, k, none⟩ = false := frozen_of_row w g k _ t h
theorem BW.lt {w : World} {g : Nat} {t : TypeId} {l : List UInt32} (h : BW w g t l) : g < w.heap.size := (Array.getElem?_eq_some_iff.1 h).1
theorem BW.below {w w' : World} {g : Nat} {t : TypeId} {l : List UInt32} (h : BW w g t l) (hb : Below w.heap.size w w') : BW w' g t l := (hb.block g h.lt).trans h
theorem BW.set {w : World} {g : Nat} {t : TypeId} {l : List UInt32} (h : BW w g t l) (k : Nat) (y : UInt32) : BW (w.setCell ⟨g, k, none⟩ (.int .u32 (y.toNat : Int))) g t (l.set k y) := by
 unfold BW
 rw [heap_setCell_same w g k _ t _ h, ← flat1_set l k y (.int .u32 (y.toNat : Int)) (fun _ => rfl) rfl]
 simp
theorem BW.set_other {w : World} {g : Nat} {t : TypeId} {l : List UInt32} (h : BW w g t l) (a : Addr) (v : Value) (hne : g ≠ a.block) : BW (w.setCell a v) g t l := by
 unfold BW
 rw [heap_setCell_other w a g v hne]; exact h
theorem old_alloc (w : World) (o : Obj) (g : Nat) (h : g < w.heap.size) : (w.alloc o).heap[g]? = w.heap[g]? := ((Below.refl _ w).alloc (Nat.le_refl _) o).block g h
theorem BW.alloc {w : World} {g : Nat} {t : TypeId} {l : List UInt32} (h : BW w g t l) (o : Obj) : BW (w.alloc o) g t l := by
 unfold BW
 rw [old_alloc w o g h.lt]; exact h
def roundW : List UInt32 := [
 0x428a2f98, 0x71374491, 0xb5c0fbcf, 0xe9b5dba5, 0x3956c25b, 0x59f111f1, 0x923f82a4, 0xab1c5ed5,
 0xd807aa98, 0x12835b01, 0x243185be, 0x550c7dc3, 0x72be5d74, 0x80deb1fe, 0x9bdc06a7, 0xc19bf174,
 0xe49b69c1, 0xefbe4786, 0x0fc19dc6, 0x240ca1cc, 0x2de92c6f, 0x4a7484aa, 0x5cb0a9dc, 0x76f988da,
 0x983e5152, 0xa831c66d, 0xb00327c8, 0xbf597fc7, 0xc6e00bf3, 0xd5a79147, 0x06ca6351, 0x14292967,
 0x27b70a85, 0x2e1b2138, 0x4d2c6dfc, 0x53380d13, 0x650a7354, 0x766a0abb, 0x81c2c92e, 0x92722c85,
 0xa2bfe8a1, 0xa81a664b, 0xc24b8b70, 0xc76c51a3, 0xd192e819, 0xd6990624, 0xf40e3585, 0x106aa070,
 0x19a4c116, 0x1e376c08, 0x2748774c, 0x34b0bcb5, 0x391c0cb3, 0x4ed8aa4a, 0x5b9cca4f, 0x682e6ff3,
 0x748f82ee, 0x78a5636f, 0x84c87814, 0x8cc70208, 0x90befffa, 0xa4506ceb, 0xbef9a3f7, 0xc67178f2]
theorem roundW_len : roundW.length = 64 := by decide
theorem arr_len : Tryz.prog.arrayLen 147 = 64 := by kernel_rfl
theorem arr_elem : Tryz.prog.elem 147 = 98 := by kernel_rfl
theorem bw_new (w : World) (t : TypeId) (cs : Array Value) (l : List UInt32) (k : Nat) (hk : k = w.heap.size) (h : cs = (l.flatMap cU32).toArray) : BW (w.alloc (.cells cs t)) k t l := by
 subst hk h
 exact heap_alloc_new w _
def aggW (l : List UInt32) : Value := .agg (l.flatMap cU32).toArray
theorem fm32_map (l : List UInt32) : ((l.map fun x => (x.toNat : Int)).map (Value.int .u32)) = l.flatMap cU32 := by
 induction l with
 | nil => rfl
 | cons x l ih => rw [List.flatMap_cons, ← ih]; rfl
theorem fm32_one (l : List UInt32) : (l.flatMap cU32).toArray.all (·.oneCell') = true := by
 rw [Array.all_eq_true_iff_forall_mem]
 intro u hu
 obtain ⟨x, _, hx⟩ := List.mem_flatMap.1 (List.mem_toArray.1 hu)
 exact flat_u32.one x u hx
theorem setRow_bw {w : World} {g : Nat} {t : TypeId} {old l : List UInt32} (h : BW w g t old) : BW (w.setRow g (l.flatMap cU32).toArray) g t l := setRow_heap w g _ _ t _ h
def zero64 : List UInt32 := List.replicate 64 0
theorem zero64_cells : (#[Value.int IntKind.u32 0, Value.int IntKind.u32 0, Value.int IntKind.u32 0, Value.int IntKind.u32 0, Value.int IntKind.u32 0, Value.int IntKind.u32 0, Value.int IntKind.u32 0, Value.int IntKind.u32 0, Value.int IntKind.u32 0, Value.int IntKind.u32 0, Value.int IntKind.u32 0, Value.int IntKind.u32 0, Value.int IntKind.u32 0, Value.int IntKind.u32 0, Value.int IntKind.u32 0, Value.int IntKind.u32 0, Value.int IntKind.u32 0, Value.int IntKind.u32 0, Value.int IntKind.u32 0, Value.int IntKind.u32 0, Value.int IntKind.u32 0, Value.int IntKind.u32 0, Value.int IntKind.u32 0, Value.int IntKind.u32 0, Value.int IntKind.u32 0, Value.int IntKind.u32 0, Value.int IntKind.u32 0, Value.int IntKind.u32 0, Value.int IntKind.u32 0, Value.int IntKind.u32 0, Value.int IntKind.u32 0, Value.int IntKind.u32 0, Value.int IntKind.u32 0, Value.int IntKind.u32 0, Value.int IntKind.u32 0, Value.int IntKind.u32 0, Value.int IntKind.u32 0, Value.int IntKind.u32 0, Value.int IntKind.u32 0, Value.int IntKind.u32 0, Value.int IntKind.u32 0, Value.int IntKind.u32 0, Value.int IntKind.u32 0, Value.int IntKind.u32 0, Value.int IntKind.u32 0, Value.int IntKind.u32 0, Value.int IntKind.u32 0, Value.int IntKind.u32 0, Value.int IntKind.u32 0, Value.int IntKind.u32 0, Value.int IntKind.u32 0, Value.int IntKind.u32 0, Value.int IntKind.u32 0, Value.int IntKind.u32 0, Value.int IntKind.u32 0, Value.int IntKind.u32 0, Value.int IntKind.u32 0, Value.int IntKind.u32 0, Value.int IntKind.u32 0, Value.int IntKind.u32 0, Value.int IntKind.u32 0, Value.int IntKind.u32 0, Value.int IntKind.u32 0, Value.int IntKind.u32 0] : Array Value) = (zero64.flatMap cU32).toArray := by kernel_rfl
set_option maxRecDepth 100000 in
set_option maxHeartbeats 2000000 in
theorem sha_rounds (w : World) : Calls Tryz.prog 202 #[] w fun e w' => e = .returned (aggW roundW) ∧ Below w.heap.size w w' := by
 go_enter Tryz.func202, Tryz.ntmps202
 go_wp2_with (first
  | (refine wpList_buildFlatArr rfl 147 98 64 _ rfl .u32 (roundW.map fun x => (x.toNat : Int)) Tryz.underlying147 (by kernel_rfl) (by kernel_rfl) (by kernel_rfl) ?_)
  | (refine wpList_store_row rfl 147 (.tmp 0) (.tmp 1) rfl w.heap.size _ rfl rfl 147 _ (heap_alloc_new w _) (by kernel_rfl) (by kernel_rfl) (by kernel_rfl) ?_))
 rw [fm32_map]
 refine bodyPost_ret (v := aggW roundW) (results_cell_row Tryz.results202 _ _ w.heap.size 147 _ (0, 0) _ rfl (setRow_bw (bw_new w _ _ zero64 _ rfl zero64_cells)) Tryz.underlying147 rfl (by kernel_rfl)) rfl ⟨rfl, below_setRow (b_alloc (Below.refl _ _) _) (Nat.le_refl _) _⟩
def nextW (w : List UInt32) : UInt32 := w.getD (w.length - 16) 0 + mixW (w.getD (w.length - 15) 0) 2 + w.getD (w.length - 7) 0 + mixW (w.getD (w.length - 2) 0) 3
def schedN : Nat → List UInt32 → List UInt32
 | 0, w => w
 | n + 1, w => schedN n (w ++ [nextW w])
def sched (b : List UInt32) : List UInt32 := schedN 48 b
theorem schedN_len : ∀ (n : Nat) (w : List UInt32), (schedN n w).length = w.length + n
 | 0, w => rfl
 | n + 1, w => by rw [schedN, schedN_len n]; simp; omega
theorem getD_pre (l m : List UInt32) (k : Nat) (h : k < l.length) : (l ++ m).getD k 0 = l.getD k 0 := by
 rw [List.getD_eq_getElem?_getD, List.getD_eq_getElem?_getD, List.getElem?_append_left h]
theorem BW.pre {w : World} {g : Nat} {t : TypeId} {l m : List UInt32} (h : BW w g t (l ++ m)) (k : Nat) (hk : k < l.length) : w.cell? ⟨g, k, none⟩ = some (.int .u32 ((l.getD k 0).toNat : Int)) := by
 have := h.cellD k (by rw [List.length_append]; omega)
 rwa [getD_pre l m k hk] at this
theorem zeros_set (wl : List UInt32) (y : UInt32) (h : wl.length < 64) : (wl ++ List.replicate (64 - wl.length) 0).set wl.length y = (wl ++ [y]) ++ List.replicate (64 - (wl ++ [y]).length) 0 := by
 obtain ⟨q, hq⟩ : ∃ q, 64 - wl.length = q + 1 := ⟨64 - wl.length - 1, by omega⟩
 rw [List.set_append_right _ _ (Nat.le_refl _), Nat.sub_self, hq, List.replicate_succ, List.set_cons_zero, List.length_append, List.length_singleton, show 64 - (wl.length + 1) = q by omega, List.append_assoc]
 rfl
def SchedInv (SL wl : List UInt32) : Prop := SL = schedN (64 - wl.length) wl
theorem sched_next {SL wl : List UInt32} {x16 x15 x7 x2 : UInt32} (h : SchedInv SL wl) (hlt : wl.length < 64) (h16 : wl.getD (wl.length - 16) 0 = x16) (h15 : wl.getD (wl.length - 15) 0 = x15) (h7 : wl.getD (wl.length - 7) 0 = x7) (h2 : wl.getD (wl.length - 2) 0 = x2) :
 SchedInv SL (wl ++ [x16 + mixW x15 2 + x7 + mixW x2 3]) := by
 unfold SchedInv at h ⊢
 obtain ⟨q, hq⟩ : ∃ q, 64 - wl.length = q + 1 := ⟨64 - wl.length - 1, by omega⟩
 rw [hq, schedN] at h
 rw [List.length_append, List.length_singleton, show 64 - (wl.length + 1) = q by omega, h]
 unfold nextW
 rw [h16, h15, h7, h2]
theorem sum4 (a b c d : UInt32) : ((a.toNat : Int) + (b.toNat : Int) + (c.toNat : Int) + (d.toNat : Int)) % 4294967296 = ((a + b + c + d).toNat : Int) := by
 simp only [UInt32.toNat_add]
 omega
set_option maxRecDepth 100000 in
set_option maxHeartbeats 1000000 in
theorem sha_schedule' (SL : List UInt32) (v : Value) (l : List UInt32) (w : World) (hl : RW w v l) (h16 : l.length = 16) (hsc : SchedInv SL l) :
 Calls Tryz.prog 203 #[v] w fun e w' => e = .returned (aggW SL) ∧ Below w.heap.size w w' := by
 have hR := hl
 rcases hl.cells flat_u32 with ⟨rfl, rfl⟩ | ⟨ad, c, rfl, hc⟩
 · simp at h16
 rw [h16] at hR
 rw [h16]
 replace h16 := hid h16
 have hblk : ad.block < w.heap.size := by
  obtain ⟨a0, c0, hv, -, -, -, -, hat⟩ := hR
  simp only [Value.slice.injEq] at hv
  obtain ⟨b, off, hb, hlt, -⟩ := hat 0 (l.getD 0 0) (by rw [List.getD_eq_getElem?_getD, List.getElem?_eq_getElem (by have := h16.out; omega)]; rfl)
  rw [hv.1.symm] at hb
  simp only [Option.some.injEq] at hb
  rw [hb]; exact hlt
 have hsrc : Hid (∀ (W : World), Below w.heap.size w W → ∀ (j : Nat) (u : Value), (l.flatMap cU32)[j]? = some u → W.cell? (ad.add j) = some u) := hid (fun W hW j u hj => by
  have h1 := hc j u hj
  have h2 : (ad.add j).block = ad.block := by unfold Addr.add; split <;> rfl
  rw [← h1]
  exact hW.cell (by rw [h2]; exact hblk))
 have hfl : (l.flatMap cU32).length = 16 := by rw [fm32_len, h16.out]
 have hal := arr_len
 have hel := arr_elem
 obtain ⟨CS, hCS⟩ : ∃ CS, Hid (CS = l.flatMap cU32) := ⟨_, hid rfl⟩
 rw [← hCS.out] at hsrc hfl
 clear hc hR
 go_enter Tryz.func203, Tryz.ntmps203
 obtain ⟨WA, hWA⟩ : ∃ WA, Hid (WA = w.alloc (.cells (zero64.flatMap cU32).toArray 147)) := ⟨_, hid rfl⟩
 go_wp2_with (with_reducible refine wpList_copy_splice rfl (.tmp 9) (.tmp 10) 100 100 rfl 98 Tryz.underlying100 (by kernel_rfl) _ _ 64 64 16 c rfl rfl (w.heap.size + 1) 0 (zero64.flatMap cU32) 147 ?d1 CS ?d2 ?d3 ?d4 ?d5 (w.heap.size + 1) WA ?d6 (Nat.le_refl _) ?_)
 case d1 => exact (heap_alloc2_new w _ _).trans (by rw [zero64_cells])
 case d2 => rw [hfl]; rfl
 case d3 => exact fun j v hv => hsrc.out _ (b_alloc (b_alloc (Below.refl _ _) _) _) j v hv
 case d4 => rw [hfl]; decide
 case d5 => exact fun u hu => by rw [hCS.out] at hu; obtain ⟨x, _, hx⟩ := List.mem_flatMap.1 hu; exact flat_u32.one x u hx
 case d6 => rw [hWA.out, zero64_cells]; exact (Below.refl _ _).alloc (by simp) _
 intro W1 hrow hbel
 have hrow1 : BW W1 (w.heap.size + 1) 147 (l ++ List.replicate (64 - l.length) 0) := by
  have h1 := hrow.out
  unfold BW
  rw [h1]
  have h2 : splice (zero64.flatMap cU32) 0 CS = (l ++ List.replicate (64 - l.length) 0).flatMap cU32 := by
   unfold splice
   rw [hfl, hCS.out, List.flatMap_append, h16.out]
   rfl
  rw [h2]
 have h16' := hid h16.out
 clear hrow
 go_wp2_with fail
 go_loopw [4, 5, 6, 7, 8] (fun i _ _ _ _ wr => ∃ (wl : List UInt32), i = .int .i64 (wl.length : Int) ∧ 16 ≤ wl.length ∧ wl.length ≤ 64 ∧ SchedInv SL wl ∧ BW wr (w.heap.size + 1) 147 (wl ++ List.replicate (64 - wl.length) 0) ∧ Below (w.heap.size + 1) WA wr) (fun i _ _ _ _ _ => 64 - (intOf i).toNat)
 case atStart => exact ⟨l, by rw [h16'.out]; rfl, by rw [h16'.out]; decide, by rw [h16'.out]; decide, hsc, hrow1, hbel⟩
 obtain ⟨wl, rfl, hlo, hhi, hsc, hrow, hb⟩ := hrel
 by_cases hlt : wl.length < 64
 · have c15 := hrow.pre (wl.length - 15) qzshb_5
   have c2 := hrow.pre (wl.length - 2) qzshb_5
   have c16 := hrow.pre (wl.length - 16) qzshb_5
   have c7 := hrow.pre (wl.length - 7) qzshb_5
   have hg := hrow.lt
   generalize h16 : wl.getD (wl.length - 16) 0 = x16 at c16
   generalize h15 : wl.getD (wl.length - 15) 0 = x15 at c15
   generalize h7 : wl.getD (wl.length - 7) 0 = x7 at c7
   generalize h2 : wl.getD (wl.length - 2) 0 = x2 at c2
   have hnx := sched_next hsc hlt h16 h15 h7 h2
   clear h16 h15 h7 h2
   clear hsc hrow1 hbel
   clear hsc
   replace hnx := hid hnx
   replace hrow := hid hrow
   replace hb := hid hb
   go_wp2_with fail
   ((with_reducible refine (word_Mix x15 2 _ (by decide) (by decide)).mono ?_); rintro e w1 ⟨rfl, b1⟩)
   obtain ⟨bc1, bf1⟩ := bcell b1
   have hrow1 := hid (hrow.out.below b1)
   have hg1 := hrow1.out.lt
   go_wp2_with fail
   ((with_reducible refine (word_Mix x2 3 _ (by decide) (by decide)).mono ?_); rintro e w2 ⟨rfl, b2⟩)
   have hrow2 := hrow1.out.below b2
   have d16 : w2.cell? ⟨w.heap.size + 1, wl.length - 16, none⟩ = some (.int .u32 (x16.toNat : Int)) := cell_stays b2 hg1 (cell_stays b1 hg c16)
   have d7 : w2.cell? ⟨w.heap.size + 1, wl.length - 7, none⟩ = some (.int .u32 (x7.toNat : Int)) := cell_stays b2 hg1 (cell_stays b1 hg c7)
   have d0 := hrow2.cell wl.length 0 (by rw [List.getElem?_append_right (Nat.le_refl _), Nat.sub_self, List.getElem?_replicate, if_pos qzshb_5])
   have df := hrow2.frozen wl.length
   have hbel2 := (hb.out.trans (b1.mono qzshb_5)).trans (b2.mono qzshb_5)
   replace hrow2 := hid hrow2
   replace hbel2 := hid hbel2
   clear bc1 bf1 c15 c2 c16 c7 hrow hrow1 b1 b2 hb
   have q1 : IntKind.i64.wrap ((wl.length : Int) - 16) = (wl.length : Int) - 16 := IntWalk.i64_in _ qzshb_5
   have q2 : IntKind.i64.wrap ((wl.length : Int) - 7) = (wl.length : Int) - 7 := IntWalk.i64_in _ qzshb_5
   have q3 : ((wl.length : Int) - 16).toNat = wl.length - 16 := by omega
   have q4 : ((wl.length : Int) - 7).toNat = wl.length - 7 := by omega
   have q5 : (16 : Int) ≤ (wl.length : Int) := by omega
   have q6 : (7 : Int) ≤ (wl.length : Int) := by omega
   have q7 : (wl.length : Int) - 16 < 64 := by omega
   have q8 : (wl.length : Int) - 7 < 64 := by omega
   have q9 : (0 : Int) ≤ (wl.length : Int) - 16 := by omega
   have q10 : (0 : Int) ≤ (wl.length : Int) - 7 := by omega
   have q11 : (wl.length : Int) < 64 := by omega
   go_wp2_with fail
   go_region
   have hv := sum4 x16 (mixW x15 2) x7 (mixW x2 3)
   have hrow3 := hrow2.out.set wl.length (x16 + mixW x15 2 + x7 + mixW x2 3)
   rw [zeros_set wl _ hlt] at hrow3
   have hbel3 := hid (hbel2.out.setCell (p := ⟨w.heap.size + 1, wl.length, none⟩) (Nat.le_refl _) (.int .u32 (((x16.toNat : Int) + ((mixW x15 2).toNat : Int) + (x7.toNat : Int) + ((mixW x2 3).toNat : Int)) % 4294967296)))
   rw [← hv] at hrow3
   replace hrow3 := hid hrow3
   replace hv := hid hv
   clear q1 q2 q3 q4 q5 q6 q7 q8 q9 q10 q11 hrow2 hbel2 d16 d7 d0 df
   go_wp2_with fail
   go_roundw
   case rel => exact ⟨wl ++ [x16 + mixW x15 2 + x7 + mixW x2 3], by simp, by simp; omega, by simp; omega, hnx.out, hrow3.out, Below.drew hbel3.out⟩
   case measure => simp [intOf]; omega
 have hlen : wl.length = 64 := by omega
 have hS : SL = wl := by unfold SchedInv at hsc; rw [hsc, hlen]; rfl
 rw [hlen, show 64 - 64 = 0 from rfl, List.replicate_zero, List.append_nil, ← hS] at hrow
 have hsz : (SL.flatMap cU32).toArray.size = 64 := by rw [List.size_toArray, fm32_len, hS, hlen]
 have hA : BW wr w.heap.size 147 zero64 := by
  unfold BW
  rw [hb.block w.heap.size qzshb_5, hWA.out]
  exact bw_new w _ _ _ _ rfl rfl
 have hbw : Below w.heap.size w wr := by
  have h1 := hb.mono (show w.heap.size ≤ w.heap.size + 1 by omega)
  rw [hWA.out] at h1
  exact (b_alloc (Below.refl _ w) _).trans h1
 replace hrow := hid hrow
 replace hA := hid hA
 replace hb := hid hbw
 replace hsz := hid hsz
 replace hS := hid hS
 replace hlen := hid hlen
 clear hsc hrow1 hbel hbw
 clear hsc
 go_wp2_with (first
  | (refine wpList_load_row rfl 147 (.tmp 3) rfl (w.heap.size + 1) rfl 147 _ (0, 0) _ hrow.out Tryz.underlying147 rfl (by rw [hsz.out]; kernel_rfl) ?_)
  | (refine wpList_store_row rfl 147 (.tmp 2) (.tmp 47) rfl w.heap.size _ rfl rfl 147 _ hA.out (by rw [hsz.out]; kernel_rfl) (by rw [hsz.out]; decide) (fm32_one SL) ?_))
 refine bodyPost_ret (v := aggW SL) (results_cell_row Tryz.results203 _ _ w.heap.size 147 _ (0, 0) _ rfl (setRow_bw hA.out) Tryz.underlying147 rfl (by rw [hsz.out]; kernel_rfl)) rfl ⟨rfl, below_setRow hb.out (Nat.le_refl _) _⟩
theorem sha_schedule (v : Value) (l : List UInt32) (w : World) (hl : RW w v l) (h16 : l.length = 16) :
 Calls Tryz.prog 203 #[v] w fun e w' => e = .returned (aggW (sched l)) ∧ Below w.heap.size w w' :=
 sha_schedule' (sched l) v l w hl h16 (by unfold SchedInv; rw [h16]; rfl)
theorem quiet_left1 {P : Program} {f : FuncId} {args : Array Value} {w : World} {n : Nat} {v : Value}
 (h : Calls P f args (w.drewN n) fun e w' => e = .returned v ∧ w.drewN n = w') : Calls P f args (w.drewN n) fun e w'' => e = .returned v ∧ ∃ m, w'' = w.drewN m :=
 h.mono fun _ _ ⟨he, hm⟩ => ⟨he, n, hm.symm⟩
theorem quiet_add_left1 {P : Program} {f : FuncId} {args : Array Value} {w : World} {a n : Nat} {v : Value}
 (h : Calls P f args (w.drewN (a + n)) fun e w' => e = .returned v ∧ w.drewN (a + n) = w') :
 Calls P f args (w.drewN (a + n)) fun e w'' => e = .returned v ∧ ∃ m, w'' = w.drewN (a + m) :=
 h.mono fun _ _ ⟨he, hm⟩ => ⟨he, n, hm.symm⟩
structure S8 where
 a : UInt32
 b : UInt32
 c : UInt32
 d : UInt32
 e : UInt32
 f : UInt32
 g : UInt32
 h : UInt32
def S8.list (s : S8) : List UInt32 := [s.a, s.b, s.c, s.d, s.e, s.f, s.g, s.h]
def one8 (s : S8) (k w : UInt32) : UInt32 := s.h + mixW s.e 1 + choose s.e s.f s.g + k + w
def two8 (s : S8) : UInt32 := mixW s.a 0 + most s.a s.b s.c
def step8 (s : S8) (k w : UInt32) : S8 := ⟨one8 s k w + two8 s, s.a, s.b, s.c, s.d + one8 s k w, s.e, s.f, s.g⟩
def stepsN (ks ws : List UInt32) : Nat → S8 → S8
 | 0, s => s
 | n + 1, s => stepsN ks ws n (step8 s (ks.getD (64 - (n + 1)) 0) (ws.getD (64 - (n + 1)) 0))
def StInv (R : S8) (ks ws : List UInt32) (t : Nat) (s : S8) : Prop := R = stepsN ks ws (64 - t) s
theorem st_next {R : S8} {ks ws : List UInt32} {t : Nat} {s : S8} (h : StInv R ks ws t s) (ht : t < 64) {k w : UInt32} (hk : ks.getD t 0 = k) (hw : ws.getD t 0 = w) : StInv R ks ws (t + 1) (step8 s k w) := by
 unfold StInv at h ⊢
 obtain ⟨q, hq⟩ : ∃ q, 64 - t = q + 1 := ⟨64 - t - 1, by omega⟩
 rw [hq, stepsN, show 64 - (q + 1) = t by omega, hk, hw] at h
 rw [show 64 - (t + 1) = q by omega]
 exact h
theorem st_end {R : S8} {ks ws : List UInt32} {s : S8} (h : StInv R ks ws 64 s) : R = s := h
def s8Of (l : List UInt32) : S8 := ⟨l.getD 0 0, l.getD 1 0, l.getD 2 0, l.getD 3 0, l.getD 4 0, l.getD 5 0, l.getD 6 0, l.getD 7 0⟩
theorem s8Of_list (l : List UInt32) (h : l.length = 8) : (s8Of l).list = l := by
 match l, h with
 | [a, b, c, d, e, f, g, i], _ => rfl
def compress (h b : List UInt32) : List UInt32 := List.zipWith (· + ·) (stepsN roundW (sched b) 64 (s8Of h)).list h
theorem compress_len (h b : List UInt32) (hl : h.length = 8) : (compress h b).length = 8 := by
 unfold compress
 rw [List.length_zipWith, hl]; rfl
def stepErr (h b : List UInt32) : Int := if h.length = 8 ∧ b.length = 16 then 0 else 1
def stepOut (h b : List UInt32) : List UInt32 := if h.length = 8 ∧ b.length = 16 then compress h b else []
def BJ (w : World) (g : Nat) (t : TypeId) (l : List UInt32) (J : List Value) : Prop := w.heap[g]? = some (.cells (l.flatMap cU32 ++ J).toArray t (0, 0))
theorem BJ.cell {w : World} {g : Nat} {t : TypeId} {l : List UInt32} {J : List Value} (h : BJ w g t l J) (k : Nat) (x : UInt32) (hk : l[k]? = some x) : w.cell? ⟨g, k, none⟩ = some (.int .u32 (x.toNat : Int)) := by
 have hl : k < l.length := (List.getElem?_eq_some_iff.1 hk).1
 rw [cell_of_row w g k _ t (0, 0) h, List.getElem?_toArray, List.getElem?_append_left (by rw [fm32_len]; exact hl), flat_get (cells := cU32) (fun _ => rfl) (by decide)]
 simp [hk, cU32, Nat.mod_one]
theorem BJ.frozen {w : World} {g : Nat} {t : TypeId} {l : List UInt32} {J : List Value} (h : BJ w g t l J) (k : Nat) : w.frozen? ⟨g, k, none⟩ = false := frozen_of_row w g k _ t h
theorem BJ.lt {w : World} {g : Nat} {t : TypeId} {l : List UInt32} {J : List Value} (h : BJ w g t l J) : g < w.heap.size := (Array.getElem?_eq_some_iff.1 h).1
theorem BJ.below {w w' : World} {g : Nat} {t : TypeId} {l : List UInt32} {J : List Value} (h : BJ w g t l J) (hb : Below w.heap.size w w') : BJ w' g t l J := (hb.block g h.lt).trans h
theorem BJ.set {w : World} {g : Nat} {t : TypeId} {l : List UInt32} {J : List Value} (h : BJ w g t l J) (k : Nat) (y : UInt32) (hk : k < l.length) : BJ (w.setCell ⟨g, k, none⟩ (.int .u32 (y.toNat : Int))) g t (l.set k y) J := by
 unfold BJ
 have e : (l.flatMap cU32 ++ J).set k (.int .u32 (y.toNat : Int)) = (l.set k y).flatMap cU32 ++ J := by
  rw [List.set_append_left _ _ (by rw [fm32_len]; exact hk), flat1_set l k y _ (fun _ => rfl) rfl]
 rw [heap_setCell_same w g k _ t _ h, ← e]
 simp
theorem BW.other {w : World} {g : Nat} {t : TypeId} {l : List UInt32} (h : BW w g t l) (a : Addr) (v : Value) (hne : g ≠ a.block) : BW (w.setCell a v) g t l := h.set_other a v hne
theorem BJ.reads {w : World} {g cap : Nat} {t : TypeId} {l : List UInt32} {J : List Value} (h : BJ w g t l J) (hc : l.length ≤ cap) (hm : cap ≤ maxLen) (hs : l.length ≤ 1000) : RW w (.slice (some ⟨g, 0, none⟩) l.length cap) l := by
 refine ⟨_, _, rfl, hc, hm, by omega, fun h => by simp at h, fun k x hk => ⟨g, 0, rfl, h.lt, ?_⟩⟩
 have := h.cell k x hk
 unfold EU32
 rw [show 0 + k * 1 = k by omega]
 exact this
theorem OS.bj {e : TypeId} {w : World} {B : Nat} {v : Value} {l : List UInt32} (h : OS e 1 cU32 w B v l) (hne : 0 < l.length) : ∃ g cap J, v = .slice (some ⟨g, 0, none⟩) l.length cap ∧ B ≤ g ∧ l.length ≤ cap ∧ cap ≤ maxLen ∧ BJ w g e l J ∧ l.length + J.length = cap := by
 obtain ⟨h1, h2⟩ := h
 rcases h2 with ⟨rfl, hn⟩ | ⟨g, cap, cur, rfl, hg, hh, hnc, hcm, hcs, htake⟩
 · omega
 have hcut : cur.toList = l.flatMap cU32 ++ cur.toList.drop (l.length * 1) := by rw [← htake, List.take_append_drop]
 refine ⟨g, cap, cur.toList.drop (l.length * 1), rfl, hg, hnc, hcm, ?_, ?_⟩
 · unfold BJ
   rw [← hcut]
   exact hh
 have : cur.toList.length = cap * 1 := by rw [Array.length_toList]; exact hcs
 rw [List.length_drop, this]; omega
theorem u_add2 (a b : UInt32) : ((a.toNat : Int) + (b.toNat : Int)) % 4294967296 = ((a + b).toNat : Int) := by
 rw [UInt32.toNat_add]; omega
theorem u_add5 (a b c d e : UInt32) : (((a.toNat : Int) + (b.toNat : Int) + (c.toNat : Int) + (d.toNat : Int)) % 4294967296 + (e.toNat : Int)) % 4294967296 = ((a + b + c + d + e).toNat : Int) := by
 simp only [UInt32.toNat_add]; omega
set_option maxRecDepth 100000 in
set_option maxHeartbeats 400000 in
theorem sha_Step_no (vh vb : Value) (h b : List UInt32) (w : World) (hh : RW w vh h) (hb : RW w vb b) (hn : ¬ (h.length = 8 ∧ b.length = 16)) :
 Calls Tryz.prog 140 #[vh, vb] w fun e w' => e = .returned (.tuple #[.slice none 0 0, .int .i64 1]) ∧ w = w' := by
 obtain ⟨a0, c0, rfl, -⟩ := hh
 obtain ⟨a1, c1, rfl, -⟩ := hb
 by_cases h8 : h.length = 8
 · have q1 : ((h.length : Int) != 8) = false := by simp; omega
   have q2 : ((b.length : Int) != 16) = true := by simp; omega
   clear h8 hn
   go_enter Tryz.func140, Tryz.ntmps140
   go_wp2_with fail
   go_ret2
   exact ⟨rfl, rfl⟩
 have q1 : ((h.length : Int) != 8) = true := by simp; omega
 clear h8 hn
 go_enter Tryz.func140, Tryz.ntmps140
 go_wp2_with fail
 go_ret2
 exact ⟨rfl, rfl⟩
set_option maxRecDepth 100000 in
set_option maxHeartbeats 1000000 in
theorem sha_Step' (KL SL : List UInt32) (R : S8) (RL : List UInt32) (vh vb : Value) (h b : List UInt32) (w : World) (hh : RW w vh h) (hb : RW w vb b) (h8 : h.length = 8) (h16 : b.length = 16)
 (hKL : KL.length = 64) (hSL : SL.length = 64) (hst : StInv R KL SL 0 (s8Of h)) (hcr : ∀ w, Calls Tryz.prog 202 #[] w fun e w' => e = .returned (aggW KL) ∧ Below w.heap.size w w')
 (hcs : ∀ w v, RW w v b → Calls Tryz.prog 203 #[v] w fun e w' => e = .returned (aggW SL) ∧ Below w.heap.size w w') (hRL : List.zipWith (· + ·) R.list h = RL) :
 Calls Tryz.prog 140 #[vh, vb] w fun e w' => ∃ v', e = .returned (.tuple #[v', .int .i64 0]) ∧ RW w' v' RL ∧ Below w.heap.size w w' := by
 obtain ⟨i0, hi, hz0, hz1, hz2⟩ := info_parts info_u32
 have hH := hid hh
 have hB := hid hb
 obtain ⟨a0, c0, rfl, -⟩ := hh
 obtain ⟨a1, c1, rfl, -⟩ := hb
 rw [h8] at hH
 rw [h16] at hB
 rw [h8, h16]
 replace h8 := hid h8
 replace h16 := hid h16
 replace hst := hid hst
 replace hRL := hid hRL
 replace hcr := hid hcr
 replace hcs := hid hcs
 have hal := arr_len
 have hel := arr_elem
 have hk1 : (KL.flatMap cU32).toArray.size = 64 := by rw [List.size_toArray, fm32_len, hKL]
 have hs1 : (SL.flatMap cU32).toArray.size = 64 := by rw [List.size_toArray, fm32_len, hSL]
 replace hk1 := hid hk1
 replace hs1 := hid hs1
 go_enter Tryz.func140, Tryz.ntmps140
 go_wp2_with fail
 ((with_reducible refine (hcr.out _).mono ?_); rintro e w1 ⟨rfl, b1⟩)
 go_wp2_with fail
 ((with_reducible refine (hcs.out _ _ (hB.out.mono EU32.stable b1)).mono ?_); rintro e w2 ⟨rfl, b2⟩)
 go_wp2_with (first
  | (refine wpList_store_row rfl 147 (.tmp 6) (.tmp 25) rfl w2.heap.size _ rfl rfl 147 _ (heap_alloc2_old w2 _ _) (by rw [hk1.out]; kernel_rfl) (by rw [hk1.out]; rfl) (fm32_one KL) ?_)
  | (refine wpList_store_row rfl 147 (.tmp 7) (.tmp 27) rfl (w2.heap.size + 1) _ rfl rfl 147 _ ((setRow_other _ _ _ _ qzshb_5).trans (heap_alloc2_new w2 _ _)) (by rw [hs1.out]; kernel_rfl) (by rw [hs1.out]; rfl) (fm32_one SL) ?_)
  | (at_builtin; go_must (refine wpL_append flat_u32 rfl (.const (.slice none 0 0)) (.tmp 28) 100 rfl 98 i0 (.int .u32 0) Tryz.underlying100 hi hz0 hz1 hz2 rfl (w2.heap.size + 2) _ [] rfl OS.nil _ h rfl (hH.out.mono EU32.stable (below_setRow (below_setRow (b_alloc (b_alloc (b_call b1 b2) _) _) ?e1 _) ?e2 _)) ?c1 ?c2 ?c3 ?_)))
 case e1 => exact Nat.le_trans b1.size b2.size
 case e2 => exact Nat.le_trans (Nat.le_trans b1.size b2.size) (Nat.le_succ _)
 case c1 => simp [h8.out]
 case c2 => simp [maxLen, h8.out]
 case c3 => simp
 intro v1 w3 own1 hgr
 have kk : BW w3 w2.heap.size 147 KL := (hgr.block w2.heap.size (by simp; omega) (by simp [Value.ownBlock])).trans ((setRow_other _ _ _ _ qzshb_5).trans (setRow_heap _ _ _ _ _ _ (heap_alloc2_old w2 _ _)))
 have ss : BW w3 (w2.heap.size + 1) 147 SL := (hgr.block (w2.heap.size + 1) (by simp) (by simp [Value.ownBlock])).trans (setRow_heap _ _ _ _ _ _ ((setRow_other _ _ _ _ qzshb_5).trans (heap_alloc2_new w2 _ _)))
 have hle : w.heap.size ≤ w2.heap.size := Nat.le_trans b1.size b2.size
 have b3 : Below w.heap.size w w3 := b_grown (v := .slice none 0 0) (below_setRow (below_setRow (b_alloc (b_alloc (b_call b1 b2) _) _) hle _) qzshb_5 _) hgr (fun k hk => by simp [Value.ownBlock] at hk)
 have own1 : OS 98 1 cU32 w3 (w2.heap.size + 2) v1 h := by simpa using own1
 obtain ⟨g, cap, J, rfl, hgB, hcap, hcm, hbj, -⟩ := OS.bj own1 (by rw [h8.out]; decide)
 rw [h8.out] at hcap ⊢
 rw [← s8Of_list h h8.out] at hbj
 have hgk : g ≠ w2.heap.size := by omega
 have hgw : g ≠ w2.heap.size + 1 := by omega
 have hgw0 : w.heap.size ≤ g := by omega
 have hnc : ¬ cap = 1 := by omega
 unfold maxLen at hcm
 generalize w2.heap.size = gk at *
 replace kk := hid kk
 replace ss := hid ss
 replace hbj := hid hbj
 replace b3 := hid b3
 clear hgr own1 b1 b2
 go_wp2_with fail
 go_loopw [9, 10, 11, 12, 13, 14, 15, 30] (fun _ _ _ _ _ _ _ i wr => ∃ (t : Nat) (s : S8), i = .int .i64 (t : Int) ∧ t ≤ 64 ∧ Hid (StInv R KL SL t s) ∧ Hid (BJ wr g 98 s.list J) ∧ Hid (BW wr gk 147 KL) ∧ Hid (BW wr (gk + 1) 147 SL) ∧ Hid (Below w.heap.size w wr)) (fun _ _ _ _ _ _ _ i _ => 64 - (intOf i).toNat)
 case atStart => exact ⟨0, s8Of h, rfl, by omega, hst, hbj, kk, ss, b3⟩
 clear hbj kk ss b3
 obtain ⟨t, s, rfl, ht, hinv, hv, hk, hs, hb⟩ := hrel
 by_cases hlt : t < 64
 · obtain ⟨a, b', c, d, e, f, g', i⟩ := s
   have gl := hv.out.lt
   have glk := hk.out.lt
   have gls := hs.out.lt
   have c0 := hv.out.cell 0 a rfl
   have c4 := hv.out.cell 4 e rfl
   have hnext := hid (fun k w hk hw => st_next hinv.out hlt (k := k) (w := w) hk hw)
   go_wp2_with fail
   ((with_reducible refine (word_Mix e 1 _ (by decide) (by decide)).mono ?_); rintro e1 w4 ⟨rfl, b4⟩)
   obtain ⟨bc4, bf4⟩ := bcell b4
   have gl4 : g < w4.heap.size := Nat.lt_of_lt_of_le gl b4.size
   have hb4 := hid (b_call hb.out b4)
   have hv4 := hid (hv.out.below b4)
   have hk4 := hid (hk.out.below b4)
   have hs4 := hid (hs.out.below b4)
   replace b4 := hid b4
   clear hv hk hs hb
   go_wp2_with fail
   ((with_reducible refine (word_Mix a 0 _ (by decide) (by decide)).mono ?_); rintro e1 w5 ⟨rfl, b5⟩)
   have gl5 : g < w5.heap.size := Nat.lt_of_lt_of_le gl4 b5.size
   have hb5 := hid (b_call hb4.out b5)
   have hv5 := hid (hv4.out.below b5)
   have hk5 := hid (hk4.out.below b5)
   have hs5 := hid (hs4.out.below b5)
   clear hv4 hk4 hs4 hb4 bc4 bf4 c0 c4 b4 b5 gl gl4 glk gls
   have c0 := hv5.out.cell 0 a rfl
   have c1 := hv5.out.cell 1 b' rfl
   have c2 := hv5.out.cell 2 c rfl
   have c4 := hv5.out.cell 4 e rfl
   have c5 := hv5.out.cell 5 f rfl
   have c6 := hv5.out.cell 6 g' rfl
   have c7 := hv5.out.cell 7 i rfl
   have ck := hk5.out.cellD t qzshb_5
   have cw := hs5.out.cellD t qzshb_5
   generalize hgk1 : KL.getD t 0 = kt at ck
   generalize hgw1 : SL.getD t 0 = wt at cw
   have hnx := hid (hnext.out kt wt hgk1 hgw1)
   clear hnext hgk1 hgw1
   have t0 : (t : Int) < 64 := by omega
   go_wp2_with fail
   go_quiet (exact quiet_left1 (word_Choose e f g' _))
   rw [u_add5]
   have hon : one8 ⟨a, b', c, d, e, f, g', i⟩ kt wt = i + mixW e 1 + choose e f g' + kt + wt := rfl
   have htw : two8 ⟨a, b', c, d, e, f, g', i⟩ = mixW a 0 + most a b' c := rfl
   unfold step8 at hnx
   rw [hon, htw] at hnx
   clear hon htw
   generalize i + mixW e 1 + choose e f g' + kt + wt = ON at *
   clear c4 c5 c6 c7 ck cw t0
   go_wp2_with fail
   go_quiet (exact quiet_add_left1 (word_Most a b' c _))
   rw [u_add2]
   generalize mixW a 0 + most a b' c = TW at *
   have hCS : ([a, b', c, d, e, f, g'].flatMap cU32).length = 7 := rfl
   have hsrc : Hid (∀ (W : World), BJ W g 98 [a, b', c, d, e, f, g', i] J → ∀ (j : Nat) (u : Value), ([a, b', c, d, e, f, g'].flatMap cU32)[j]? = some u → W.cell? ((⟨g, 0, none⟩ : Addr).add j) = some u) := by
    refine hid fun W hW j u hj => ?_
    have hj7 : j < 7 := by have := (List.getElem?_eq_some_iff.1 hj).1; rw [hCS] at this; exact this
    rw [show (⟨g, 0, none⟩ : Addr).add j = ⟨g, j, none⟩ by unfold Addr.add; split <;> simp_all, cell_of_row W g j _ _ (0, 0) hW, List.getElem?_toArray]
    rw [← hj]
    match j, hj7 with
    | 0, _ => rfl
    | 1, _ => rfl
    | 2, _ => rfl
    | 3, _ => rfl
    | 4, _ => rfl
    | 5, _ => rfl
    | 6, _ => rfl
   have p7 : 7 ≤ cap := by omega
   have p7' : (7 : Int) ≤ (cap : Int) := by omega
   go_wp2_with fail
   go_region_law ((refine step_copy_splice rfl (.tmp 84) (.tmp 86) 100 100 rfl 98 Tryz.underlying100 (by kernel_rfl) _ _ 7 (cap - 1) 7 cap rfl rfl g 1 ([a, b', c, d, e, f, g', i].flatMap cU32 ++ J) 98 hv5.out ([a, b', c, d, e, f, g'].flatMap cU32) rfl (fun _ => ⟨rfl, _, rfl, hsrc.out _ hv5.out⟩) (by simp [cU32]) (fun u hu => by obtain ⟨x, _, hx⟩ := List.mem_flatMap.1 hu; exact flat_u32.one x u hx) (gk + 2) w5 (by first | exact below_drewN (below_drewN (Below.refl _ _) _) _ | exact below_drewN (Below.refl _ _) _ | exact Below.drew (below_drewN (below_drewN (Below.refl _ _) _) _)) hgB ?_; intro w7 hg7 hb7))
   have hv7 : BJ w7 g 98 [a, a, b', c, d, e, f, g'] J := hg7.out
   have hk7 : BW w7 gk 147 KL := (hb7.block gk qzshb_5).trans hk5.out
   have hs7 : BW w7 (gk + 1) 147 SL := (hb7.block (gk + 1) qzshb_5).trans hs5.out
   have hbb7 : Below w.heap.size w w7 := hb5.out.trans (hb7.mono qzshb_5)
   have x4 := hv7.cell 4 d rfl
   have f4 := hv7.frozen 4
   have x0 := hv7.cell 0 a rfl
   have f0 := hv7.frozen 0
   have hv9 := (hv7.set 4 (d + ON) (by simp)).set 0 (ON + TW) (by simp)
   have hk9 := hid ((hk7.other ⟨g, 4, none⟩ (.int .u32 (((d.toNat : Int) + (ON.toNat : Int)) % 4294967296)) (Ne.symm hgk)).other ⟨g, 0, none⟩ (.int .u32 (((ON.toNat : Int) + (TW.toNat : Int)) % 4294967296)) (Ne.symm hgk))
   have hs9 := hid ((hs7.other ⟨g, 4, none⟩ (.int .u32 (((d.toNat : Int) + (ON.toNat : Int)) % 4294967296)) (Ne.symm hgw)).other ⟨g, 0, none⟩ (.int .u32 (((ON.toNat : Int) + (TW.toNat : Int)) % 4294967296)) (Ne.symm hgw))
   have hb9 := hid (b_set (b_set hbb7 (p := ⟨g, 4, none⟩) hgw0 (.int .u32 (((d.toNat : Int) + (ON.toNat : Int)) % 4294967296))) (p := ⟨g, 0, none⟩) hgw0 (.int .u32 (((ON.toNat : Int) + (TW.toNat : Int)) % 4294967296)))
   rw [← u_add2 d ON, ← u_add2 ON TW] at hv9
   have hv9 : Hid (BJ ((w7.setCell ⟨g, 4, none⟩ (.int .u32 (((d.toNat : Int) + (ON.toNat : Int)) % 4294967296))).setCell ⟨g, 0, none⟩ (.int .u32 (((ON.toNat : Int) + (TW.toNat : Int)) % 4294967296))) g 98 (S8.mk (ON + TW) a b' c (d + ON) e f g').list J) := hid hv9
   clear hv7 hk7 hs7 hbb7 hg7 hb7 hv5 hk5 hs5 hb5 c0 c1 c2 gl5 hsrc hCS p7 p7'
   go_wp2_with fail
   go_roundw
   case rel => exact ⟨t + 1, ⟨ON + TW, a, b', c, d + ON, e, f, g'⟩, by go_num, by omega, hnx, hv9, hk9, hs9, hb9⟩
   case measure => simp [intOf]; omega
 obtain rfl : t = 64 := by omega
 have hR : Hid (R = s) := hid (st_end hinv.out)
 have hRs := hR.out
 subst hRs
 clear hR hinv hk hs
 have hat : ∃ b0 o0, a0 = some ⟨b0, o0, none⟩ ∧ b0 < w.heap.size ∧ Hid (∀ (k : Nat) (x : UInt32), h[k]? = some x → w.cell? ⟨b0, o0 + k, none⟩ = some (.int .u32 (x.toNat : Int))) := by
  obtain ⟨a2, c2, hv2, -, -, -, -, hat⟩ := hH.out
  simp only [Value.slice.injEq] at hv2
  obtain ⟨rfl, -, -⟩ := hv2
  obtain ⟨b0, o0, hb0, hlt0, -⟩ := hat 0 (h.getD 0 0) (by rw [List.getD_eq_getElem?_getD, List.getElem?_eq_getElem (by have := h8.out; omega)]; rfl)
  refine ⟨b0, o0, hb0, hlt0, hid fun k x hx => ?_⟩
  obtain ⟨b1, o1, hb1, -, he⟩ := hat k x hx
  rw [hb0] at hb1
  simp only [Option.some.injEq, Addr.mk.injEq, and_true] at hb1
  obtain ⟨rfl, rfl⟩ := hb1
  unfold EU32 at he
  rw [show o0 + k * 1 = o0 + k by omega] at he
  exact he
 obtain ⟨b0, o0, rfl, hlt0, hcell⟩ := hat
 clear hlt ht
 go_wp2_with fail
 go_loopw [16, 102] (fun _ i wr => ∃ (k : Nat), i = .int .i64 (k : Int) ∧ k ≤ 8 ∧ Hid (BJ wr g 98 (RL.take k ++ R.list.drop k) J) ∧ Hid (Below w.heap.size w wr)) (fun _ i _ => 8 - (intOf i).toNat)
 case atStart => exact ⟨0, rfl, by omega, hv, hb⟩
 clear hv hb
 obtain ⟨k, rfl, hk, hv, hb⟩ := hrel
 by_cases hlt : k < 8
 · have hrl : R.list.length = 8 := rfl
   have hx : R.list[k]? = some (R.list[k]'qzshb_5) := List.getElem?_eq_getElem _
   have hy : h[k]? = some (h[k]'(by have := h8.out; omega)) := List.getElem?_eq_getElem _
   generalize R.list[k]'qzshb_5 = x at hx
   generalize h[k]'(by have := h8.out; omega) = y at hy
   have hz : RL[k]? = some (x + y) := by rw [← hRL.out, List.getElem?_zipWith, hx, hy]
   have hRLl : RL.length = 8 := by rw [← hRL.out, List.length_zipWith, h8.out]; rfl
   have cx := hv.out.cell k x (by rw [List.getElem?_append_right (by rw [List.length_take]; omega), List.length_take, hRLl, Nat.min_eq_left hk, Nat.sub_self, List.getElem?_drop]; exact hx)
   have fx := hv.out.frozen k
   have cy := cell_stays hb.out hlt0 (hcell.out k y hy)
   have hset := hv.out.set k (x + y) (by rw [List.length_append, List.length_take, List.length_drop]; omega)
   have hmix : (RL.take k ++ R.list.drop k).set k (x + y) = RL.take (k + 1) ++ R.list.drop (k + 1) := by
    rw [List.set_append_right _ _ (by rw [List.length_take]; omega), List.length_take, hRLl, Nat.min_eq_left hk, Nat.sub_self, List.drop_eq_getElem_cons (show k < R.list.length by omega), List.set_cons_zero, List.take_add_one, hz]
    simp
   rw [hmix, ← u_add2 x y] at hset
   have hb2 := hid (b_set hb.out (p := ⟨g, k, none⟩) hgw0 (.int .u32 (((x.toNat : Int) + (y.toNat : Int)) % 4294967296)))
   replace hset := hid hset
   have k0 : (k : Int) < 8 := by omega
   have hbg : b0 ≠ g := by omega
   clear hx hy hz hRLl hrl hmix hv hb
   go_wp2_with fail
   go_region
   go_wp2_with fail
   go_roundw
   case rel => exact ⟨k + 1, by go_num, by omega, hid hset.out, hid (Below.drew hb2.out)⟩
   case measure => simp [intOf]; omega
 obtain rfl : k = 8 := by omega
 have hRLl : RL.length = 8 := by rw [← hRL.out, List.length_zipWith, h8.out]; rfl
 have hv2 : BJ wr g 98 RL J := by
  have h1 := hv.out
  rw [List.take_of_length_le qzshb_5, List.drop_of_length_le (show R.list.length ≤ 8 from Nat.le_refl _), List.append_nil] at h1
  exact h1
 have hrd := hv2.reads (cap := cap) qzshb_5 (by unfold maxLen; omega) qzshb_5
 rw [hRLl] at hrd
 replace hrd := hid hrd
 clear hv2 hv hRLl
 go_wp2_with fail
 go_ret2
 exact ⟨_, rfl, hrd.out, hb.out⟩
theorem sha_Step (vh vb : Value) (h b : List UInt32) (w : World) (hh : RW w vh h) (hb : RW w vb b) :
 Calls Tryz.prog 140 #[vh, vb] w fun e w' => ∃ v', e = .returned (.tuple #[v', .int .i64 (stepErr h b)]) ∧ RW w' v' (stepOut h b) ∧ Below w.heap.size w w' := by
 by_cases hn : h.length = 8 ∧ b.length = 16
 · rw [stepErr, stepOut, if_pos hn, if_pos hn]
   refine sha_Step' roundW (sched b) (stepsN roundW (sched b) 64 (s8Of h)) _ vh vb h b w hh hb hn.1 hn.2 roundW_len ?_ rfl sha_rounds (fun w v hv => sha_schedule v b w hv hn.2) rfl
   unfold sched
   rw [schedN_len, hn.2]
 rw [stepErr, stepOut, if_neg hn, if_neg hn]
 refine (sha_Step_no vh vb h b w hh hb hn).mono ?_
 rintro e w' ⟨rfl, rfl⟩
 exact ⟨_, rfl, RS.nil, Below.refl _ _⟩
theorem RW.block' {w : World} {v : Value} {l : List UInt32} (h : RW w v l) (hne : 0 < l.length) : ∃ b off c, v = .slice (some ⟨b, off, none⟩) l.length c ∧ b < w.heap.size ∧ l.length ≤ c ∧ c ≤ maxLen ∧ ∀ k x, l[k]? = some x → w.cell? ⟨b, off + k, none⟩ = some (.int .u32 (x.toNat : Int)) := by
 obtain ⟨a, c, rfl, hlc, hcm, hre, hno, hat⟩ := h
 obtain ⟨b, off, rfl, hlt, _⟩ := hat 0 _ (List.getElem?_eq_getElem hne)
 refine ⟨b, off, c, rfl, hlt, hlc, hcm, fun k x hk => ?_⟩
 obtain ⟨b', off', hb, _, he⟩ := hat k _ hk
 simp only [Option.some.injEq, Addr.mk.injEq, and_true] at hb
 obtain ⟨rfl, rfl⟩ := hb
 rw [Nat.mul_one] at he
 exact he
def lenOf : Value → Nat
 | .slice _ n _ => n
 | _ => 0
theorem mixA (x : UInt32) : bits .xor .u32 (bits .xor .u32 ((rot x 7).toNat : Int) ((rot x 18).toNat : Int)) ((x.toNat : Int) / 8) = ((mixW x 2).toNat : Int) := by
 rw [shr3, xor3]; rfl
theorem mixB (x : UInt32) : bits .xor .u32 (bits .xor .u32 ((rot x 17).toNat : Int) ((rot x 19).toNat : Int)) ((x.toNat : Int) / 1024) = ((mixW x 3).toNat : Int) := by
 rw [shr10, xor3]; rfl
theorem mixC (x : UInt32) : bits .xor .u32 (bits .xor .u32 ((rot x 6).toNat : Int) ((rot x 11).toNat : Int)) ((rot x 25).toNat : Int) = ((mixW x 1).toNat : Int) := by
 rw [xor3]; rfl
theorem mixD (x : UInt32) : bits .xor .u32 (bits .xor .u32 ((rot x 2).toNat : Int) ((rot x 13).toNat : Int)) ((rot x 22).toNat : Int) = ((mixW x 0).toNat : Int) := by
 rw [xor3]; rfl
def sumRest : Nat → List UInt32 → List UInt32 → List UInt32
 | 0, _, h => h
 | n + 1, ws, h => sumRest n (ws.drop 16) (compress h (ws.take 16))
def SumInv (R ws h : List UInt32) : Prop := R = sumRest (ws.length / 16) ws h ∧ ws.length % 16 = 0 ∧ h.length = 8
theorem sum_next {R ws h : List UInt32} (hi : SumInv R ws h) (hn : 0 < ws.length) : SumInv R (ws.drop 16) (stepOut h (ws.take 16)) ∧ 16 ≤ ws.length ∧ (ws.take 16).length = 16 ∧ h.length = 8 ∧ stepOut h (ws.take 16) = compress h (ws.take 16) := by
 obtain ⟨h1, h2, h3⟩ := hi
 have h16 : 16 ≤ ws.length := by omega
 have ht : (ws.take 16).length = 16 := by rw [List.length_take]; omega
 have ho : stepOut h (ws.take 16) = compress h (ws.take 16) := by unfold stepOut; rw [if_pos ⟨h3, ht⟩]
 refine ⟨⟨?_, by rw [List.length_drop]; omega, by rw [ho]; exact compress_len _ _ h3⟩, h16, ht, h3, ho⟩
 obtain ⟨q, hq⟩ : ∃ q, ws.length / 16 = q + 1 := ⟨ws.length / 16 - 1, by omega⟩
 rw [h1, hq, sumRest, List.length_drop, show (ws.length - 16) / 16 = q by omega, ho]
theorem sum_end {R ws h : List UInt32} (hi : SumInv R ws h) (hn : ws.length = 0) : R = h := by
 obtain ⟨h1, _, _⟩ := hi
 rw [h1, hn]; rfl
theorem sum_hlen {R ws h : List UInt32} (hi : SumInv R ws h) : h.length = 8 := hi.2.2
def hashW (l : List UInt8) : List UInt32 := sumRest ((wordsDec (padRes l) ((padRes l).length / 4)).length / 16) (wordsDec (padRes l) ((padRes l).length / 4)) startW
def sumStr (l : List UInt8) : ByteArray := if 2000 < l.length then ⟨#[]⟩ else bstr (hexOf (bytesW (hashW l)))
theorem hash_inv (l : List UInt8) : SumInv (hashW l) (wordsDec (padRes l) ((padRes l).length / 4)) startW := by
 refine ⟨rfl, ?_, rfl⟩
 rw [wordsDec_len, padRes_len]
 have := padZ_spec l.length
 omega
theorem rw_cut {w : World} {b off c : Nat} {l : List UInt32} (h : RW w (.slice (some ⟨b, off, none⟩) l.length c) l) (m k n c' : Nat) (hm : m + k ≤ l.length) (hn : n = k) (hk : k ≤ c') (hc : c' ≤ maxLen) : RW w (.slice (some ⟨b, off + m, none⟩) n c') ((l.drop m).take k) := by
 subst hn
 obtain ⟨a0, c0, hv, -, -, hr, -, hat⟩ := h
 simp only [Value.slice.injEq] at hv
 obtain ⟨rfl, -, -⟩ := hv
 have hlen : ((l.drop m).take n).length = n := by rw [List.length_take, List.length_drop]; omega
 refine ⟨_, c', by rw [hlen], by omega, hc, by rw [hlen]; omega, (fun h => by simp at h), fun j x hj => ?_⟩
 have hjn : j < n := by have := (List.getElem?_eq_some_iff.1 hj).1; omega
 rw [List.getElem?_take, if_pos hjn, List.getElem?_drop] at hj
 obtain ⟨b1, o1, hb1, hlt, he⟩ := hat (m + j) x hj
 simp only [Option.some.injEq, Addr.mk.injEq, and_true] at hb1
 obtain ⟨rfl, rfl⟩ := hb1
 exact ⟨b, off + m, rfl, hlt, by rw [show off + m + j * 1 = off + (m + j) * 1 by omega]; exact he⟩
set_option maxRecDepth 100000 in
theorem sha_Sum_no (v : Value) (l : List UInt8) (w : World) (hl : RB w v l) (h : 2000 < l.length) :
 Calls Tryz.prog 72 #[v] w fun e w' => e = .returned (.tuple #[.string ⟨#[]⟩, .int .i64 1]) ∧ Below w.heap.size w w' := by
 go_enter Tryz.func72, Tryz.ntmps72
 go_wp2_with fail
 refine (sha_Pad_no _ _ _ hl h).mono ?_
 rintro e w1 ⟨rfl, rfl⟩
 go_wp2_with fail
 go_ret2
 exact ⟨rfl, Below.refl _ _⟩
set_option maxRecDepth 100000 in
set_option maxHeartbeats 2000000 in
theorem sha_Sum_ok (R ST : List UInt32) (P : List UInt8) (v : Value) (l : List UInt8) (w : World) (hl : RB w v l) (h : l.length ≤ 2000)
 (hP : P = padRes l) (hPl : P.length ≤ 2072) (hP4 : P.length % 4 = 0) (hinv : SumInv R (wordsDec P (P.length / 4)) ST)
 (hst : ∀ w, Calls Tryz.prog 139 #[] w fun e w' => ∃ v, e = .returned v ∧ RW w' v ST ∧ Below w.heap.size w w') :
 Calls Tryz.prog 72 #[v] w fun e w' => e = .returned (.tuple #[.string (bstr (hexOf (bytesW R))), .int .i64 0]) ∧ Below w.heap.size w w' := by
 replace hst := hid hst
 have hpad := fun w (g : RB w v l) => sha_Pad_ok v l w g h
 rw [← hP] at hpad
 replace hpad := hid hpad
 clear hP
 go_enter Tryz.func72, Tryz.ntmps72
 go_wp2_with fail
 ((with_reducible refine (hpad.out _ hl).mono ?_); rintro e w1 ⟨v1, rfl, o1, b1⟩)
 have r1 := reads_u8 o1 qzshb_5
 go_wp2_with fail
 ((with_reducible refine (word_Words _ _ _ r1 hPl hP4).mono ?_); rintro e w2 ⟨v2, rfl, o2, b2⟩)
 have hwl := wordsDec_len P (P.length / 4)
 have r2 := reads_u32 o2 qzshb_5
 generalize hW : wordsDec P (P.length / 4) = WL at *
 clear hW
 go_wp2_with fail
 ((with_reducible refine (hst.out _).mono ?_); rintro e w3 ⟨v3, rfl, r3, b3⟩)
 have b4 := hid (b_call b1 (b_call b2 b3))
 have r2' := hid (r2.mono EU32.stable b3)
 replace r3 := hid r3
 replace hinv := hid hinv
 have hwl2 : WL.length ≤ 518 := by omega
 clear o1 o2 r1 r2 b1 b2 b3 hwl hpad hst
 obtain ⟨aw, cw, rfl, hlw, hcw, -, -, -⟩ := id r2'.out
 unfold maxLen at hcw
 go_wp2_with fail
 go_loopw [8, 9] (fun vh i wr => ∃ (m : Nat) (hh : List UInt32), i = .int .i64 (m : Int) ∧ m ≤ WL.length ∧ Hid (SumInv R (WL.drop m) hh) ∧ Hid (RW wr vh hh) ∧ Hid (RW wr (.slice aw WL.length cw) WL) ∧ Hid (Below w.heap.size w wr)) (fun _ i _ => WL.length - (intOf i).toNat)
 case atStart => exact ⟨0, ST, rfl, by omega, hinv, r3, r2', b4⟩
 clear hinv r3 r2' b4
 obtain ⟨m, hh, rfl, hm, hinv, rh, rwl, hb⟩ := hrel
 by_cases hlt : m < WL.length
 · obtain ⟨hnx, h16, ht16, h8, hso⟩ := sum_next hinv.out (by rw [List.length_drop]; omega)
   rw [List.length_drop] at h16
   obtain ⟨bw, ow, c', hv, hbl, hl', hc', -⟩ := RW.block rwl.out qzshb_5
   simp only [Value.slice.injEq] at hv
   obtain ⟨rfl, -, rfl⟩ := hv
   have hcut := hid (rw_cut rwl.out m 16 16 (cw - m) qzshb_5 rfl qzshb_5 (by unfold maxLen; omega))
   have hne : ¬ cw = m := by omega
   have hd : Hid ((WL.drop m).drop 16 = WL.drop (m + 16)) := hid (by rw [List.drop_drop])
   rw [hd.out] at hnx
   replace hnx := hid hnx
   obtain ⟨ah, chh, rfl, -⟩ := id rh.out
   have hm16 : m + 16 ≤ WL.length := by omega
   have hmc : m + 16 ≤ cw := by omega
   clear h16 ht16 h8 hso hd hinv
   go_wp2_with fail
   generalize hB16 : (WL.drop m).take 16 = B16 at *
   ((with_reducible refine (sha_Step _ _ hh B16 _ rh.out hcut.out).mono ?_); rintro e w4 ⟨v4, rfl, r4, b4⟩)
   have rwl4 := hid (rwl.out.mono EU32.stable b4)
   have hb4 := hid (b_call hb.out b4)
   replace r4 := hid r4
   generalize stepErr hh B16 = se at *
   generalize stepOut hh B16 = nh at *
   clear hB16 hcut b4 rh rwl hb
   obtain ⟨a4, c4, rfl, -⟩ := id r4.out
   go_wp2_with fail
   go_roundw
   case rel => exact ⟨m + 16, nh, by go_num, by omega, hnx, r4, rwl4, hb4⟩
   case measure => simp [intOf]; omega
 obtain rfl : m = WL.length := by omega
 have hR : R = hh := sum_end hinv.out (by rw [List.length_drop]; omega)
 have h8 : hh.length = 8 := sum_hlen hinv.out
 subst hR
 have rh2 := rh.out
 obtain ⟨ah, chh, rfl, -⟩ := id rh2
 have hbl := bytesW_len R
 clear hinv rwl hlt
 replace rh := hid rh2
 replace h8 := hid h8
 replace hbl := hid hbl
 clear rh2
 go_wp2_with fail
 ((with_reducible refine (word_Bytes _ _ _ rh.out (by have := h8.out; omega)).mono ?_); rintro e w5 ⟨v5, rfl, o5, b5⟩)
 have r5 := reads_u8 o5 (by have := h8.out; have := hbl.out; omega)
 have hb5 := hid (b_call hb.out b5)
 clear o5
 go_wp2_with fail
 ((with_reducible refine (hex_Text _ _ _ r5 (by have := h8.out; have := hbl.out; omega)).mono ?_); rintro e w6 ⟨rfl, b6⟩)
 go_wp2_with fail
 go_ret2
 exact ⟨rfl, b_call hb5.out b6⟩
theorem sha_Sum (v : Value) (l : List UInt8) (w : World) (hl : RB w v l) :
 Calls Tryz.prog 72 #[v] w fun e w' => e = .returned (.tuple #[.string (sumStr l), .int .i64 (padErr l)]) ∧ Below w.heap.size w w' := by
 by_cases h : 2000 < l.length
 · rw [sumStr, padErr, if_pos h, if_pos h]
   exact sha_Sum_no v l w hl h
 rw [sumStr, padErr, if_neg h, if_neg h]
 have hs := padOut_short (l := l) qzshb_5
 rw [hs.2.2] at hs
 exact sha_Sum_ok (hashW l) startW (padRes l) v l w hl qzshb_5 rfl hs.1 qzshb_5 (hash_inv l) sha_Start
def blobErrOf (D : ByteArray) (x : Blob) : Int :=
 if hexFault x.digest = 0 then (if 300 < x.data.length then 1 else if D = x.digest then pinErr x.pins else 9) else hexFault x.digest
def blobErr (x : Blob) : Int := blobErrOf (sumStr x.data) x
section
variable {D : ByteArray} {x : Blob}
theorem blobErr_digest (h : hexFault x.digest ≠ 0) : blobErrOf D x = hexFault x.digest := by unfold blobErrOf; rw [if_neg h]
theorem blobErr_size (h : hexFault x.digest = 0) (h2 : 300 < x.data.length) : blobErrOf D x = 1 := by unfold blobErrOf; rw [if_pos h, if_pos h2]
theorem blobErr_sum (h : hexFault x.digest = 0) (h2 : ¬ 300 < x.data.length) (h3 : D ≠ x.digest) : blobErrOf D x = 9 := by unfold blobErrOf; rw [if_pos h, if_neg h2, if_neg h3]
theorem blobErr_pins (h : hexFault x.digest = 0) (h2 : ¬ 300 < x.data.length) (h3 : D = x.digest) : blobErrOf D x = pinErr x.pins := by unfold blobErrOf; rw [if_pos h, if_neg h2, if_pos h3]
theorem blobErr_zero (h : blobErrOf D x = 0) : hexFault x.digest = 0 ∧ x.data.length ≤ 300 ∧ D = x.digest ∧ 0 ≤ x.pins ∧ x.pins ≤ 5 := by
 unfold blobErrOf at h
 split at h
 · rename_i h1
   split at h
   · cases h
   rename_i h2
   split at h
   · rename_i h3; exact ⟨h1, by omega, h3, pinErr_zero h⟩
   cases h
 rename_i h1; exact absurd h h1
end
theorem str_ne {a b : ByteArray} (h : a ≠ b) : (a.toList == b.toList) = false := by
 simp only [beq_eq_false_iff_ne, ne_eq]
 exact fun e => h (toList_inj e)
set_option maxRecDepth 100000 in
set_option maxHeartbeats 1000000 in
theorem blob_Right' (D : ByteArray) (n : Int) (x : Blob) (dv : Value) (w : World) (hd : RB w dv x.data) (hs : x.digest.size ≤ 140737488351232)
 (hsum : ∀ w, RB w dv x.data → Calls Tryz.prog 72 #[dv] w fun e w' => e = .returned (.tuple #[.string D, .int .i64 n]) ∧ Below w.heap.size w w') :
 Calls Tryz.prog 185 #[.agg #[.string x.digest, dv, .int .i64 x.pins, .bool x.mark]] w fun e w' => e = .returned (.int .i64 (blobErrOf D x)) ∧ Below w.heap.size w w' := by
 replace hsum := hid hsum
 obtain ⟨da, dc, rfl, -⟩ := id hd
 by_cases hn : hexFault x.digest = 0
 · have t1 : (hexFault x.digest != 0) = false := by simp [hn]
   by_cases h3 : 300 < x.data.length
   · have hv := hid (blobErr_size (D := D) hn h3)
     exact qzshb_3
   by_cases hD : D = x.digest
   · have hv := hid (blobErr_pins hn h3 hD)
     subst hD
     clear hn
     go_enter Tryz.func185, Tryz.ntmps185
     go_wp2_with fail
     ((with_reducible refine (hex_Check_any _ _ hs).mono ?_); rintro e w1 ⟨rfl, b1⟩)
     obtain ⟨bc1, bf1⟩ := bcell b1
     have hsz1 : w.heap.size < w1.heap.size := by have := b1.size; simp at this; omega
     go_wp2_with fail
     ((with_reducible refine (hsum.out _ (hd.mono EU8.stable (b_call (b_alloc (Below.refl _ w) _) b1))).mono ?_); rintro e w2 ⟨rfl, b2⟩)
     obtain ⟨bc2, bf2⟩ := bcell b2
     have hsz2 : w1.heap.size ≤ w2.heap.size := b2.size
     go_wp2_with fail
     ((with_reducible refine (pin_Check _ _).mono ?_); rintro e w3 ⟨rfl, rfl⟩)
     exact qzshb_4
   have hv := hid (blobErr_sum hn h3 hD)
   have e1 := str_ne hD
   have e2 := str_ne (Ne.symm hD)
   replace hD := hid hD
   clear hn
   go_enter Tryz.func185, Tryz.ntmps185
   go_wp2_with fail
   ((with_reducible refine (hex_Check_any _ _ hs).mono ?_); rintro e w1 ⟨rfl, b1⟩)
   obtain ⟨bc1, bf1⟩ := bcell b1
   have hsz1 : w.heap.size < w1.heap.size := by have := b1.size; simp at this; omega
   go_wp2_with fail
   ((with_reducible refine (hsum.out _ (hd.mono EU8.stable (b_call (b_alloc (Below.refl _ w) _) b1))).mono ?_); rintro e w2 ⟨rfl, b2⟩)
   obtain ⟨bc2, bf2⟩ := bcell b2
   have hsz2 : w1.heap.size ≤ w2.heap.size := b2.size
   exact qzshb_4
 have t1 : (hexFault x.digest != 0) = true := by simp [hn]
 have hv := hid (blobErr_digest (D := D) hn)
 exact qzshb_3
theorem blob_Right (x : Blob) (dv : Value) (w : World) (hd : RB w dv x.data) (hs : x.digest.size ≤ 140737488351232) :
 Calls Tryz.prog 185 #[.agg #[.string x.digest, dv, .int .i64 x.pins, .bool x.mark]] w fun e w' => e = .returned (.int .i64 (blobErr x)) ∧ Below w.heap.size w w' :=
 blob_Right' (sumStr x.data) (padErr x.data) x dv w hd hs (fun w g => sha_Sum _ _ w g)
def blobFault (p : Option Blob) (x : Blob) : Int := if blobErr x = 0 then (if notAfter (p.map (·.digest)) x.digest = true then 6 else 0) else blobErr x
def blobsFault (l : List Blob) : Int := if 24 < l.length then 1 else faultFrom blobFault none l
section
variable {p : Option Blob} {x : Blob}
theorem blobFault_err (h : blobErr x ≠ 0) : blobFault p x = blobErr x := by unfold blobFault; rw [if_neg h]
theorem blobFault_twice (h : blobErr x = 0) (h2 : notAfter (p.map (·.digest)) x.digest = true) : blobFault p x = 6 := by unfold blobFault; rw [if_pos h, if_pos h2]
theorem blobFault_ok (h : blobErr x = 0) (h2 : notAfter (p.map (·.digest)) x.digest = false) : blobFault p x = 0 := by unfold blobFault; rw [if_pos h, if_neg (by rw [h2]; decide)]
end
theorem blobsFault_long {l : List Blob} (h : 24 < l.length) : blobsFault l = 1 := by unfold blobsFault; rw [if_pos h]
theorem blobsFault_short {l : List Blob} (h : ¬ 24 < l.length) : blobsFault l = faultFrom blobFault (ahead l 0) (l.drop 0) := by unfold blobsFault; rw [if_neg h]; rfl
theorem blobErr_pos {x : Blob} (h : blobErr x = 0) : 1 ≤ x.digest.size := hexFault_pos (blobErr_zero h).1
set_option maxRecDepth 100000 in
set_option maxHeartbeats 2000000 in
theorem blob_Check' (E : Blob → Int) (F : Option Blob → Blob → Int) (z : Int) (v : Value) (l : List Blob) (w : World) (h : RBl w v l)
 (her : ∀ p x, E x ≠ 0 → F p x = E x) (htw : ∀ p x, E x = 0 → notAfter (p.map (·.digest)) x.digest = true → F p x = 6) (hok : ∀ p x, E x = 0 → notAfter (p.map (·.digest)) x.digest = false → F p x = 0) (hpos : ∀ x, E x = 0 → 1 ≤ x.digest.size)
 (hlong : 24 < l.length → z = 1) (hshort : ¬ 24 < l.length → z = faultFrom F (ahead l 0) (l.drop 0))
 (cr : ∀ (x : Blob) (dv : Value) (w : World), RB w dv x.data → x.digest.size ≤ 140737488351232 → Calls Tryz.prog 185 #[.agg #[.string x.digest, dv, .int .i64 x.pins, .bool x.mark]] w fun e w' => e = .returned (.int .i64 (E x)) ∧ Below w.heap.size w w') :
 Calls Tryz.prog 103 #[v] w fun e w' => e = .returned (.int .i64 z) ∧ Below w.heap.size w w' := by
 obtain ⟨a, c, rfl, hlc, hcm, hre, hno, hat⟩ := h
 unfold maxLen at hcm
 clear hno
 replace cr := hid cr
 by_cases h8 : 24 < l.length
 · have hr := hid (hlong h8)
   clear her htw hok hpos hlong hshort
   go_enter Tryz.func103, Tryz.ntmps103
   go_wp2_with fail
   go_ret
   exact ⟨ret_i hr.out.symm, Below.refl _ _⟩
 have hr := hid (hshort h8)
 have her' := hid her
 have htw' := hid htw
 have hok' := hid hok
 have hpos' := hid hpos
 clear her htw hok hpos hlong hshort
 go_enter Tryz.func103, Tryz.ntmps103
 go_wp2_with fail
 go_loopw [3, 5, 11] (fun _ _ i wr => ∃ (k : Nat), k ≤ l.length ∧ i = .int .i64 k ∧ Hid (z = faultFrom F (ahead l k) (l.drop k)) ∧ Below w.heap.size w wr) (fun _ _ i _ => l.length - (intOf i).toNat)
 case atStart => exact ⟨0, by omega, rfl, hr, Below.refl _ _⟩
 obtain ⟨k, hk, rfl, hz, hb⟩ := hrel
 by_cases hlt : k < l.length
 · have hx : l[k]? = some l[k] := List.getElem?_eq_getElem hlt
   generalize l[k] = x at hx
   obtain ⟨bb, off, rfl, hbb, he⟩ := hat k _ hx
   obtain ⟨pv, c0, c1, c2, c3, hp, s0, wf⟩ := EBlob.stable _ _ _ _ _ hb hbb he
   obtain ⟨pa, pc, rfl, -⟩ := id hp
   have hbw : bb < wr.heap.size := Nat.lt_of_lt_of_le hbb hb.size
   have hstep := hid (fun h0 => fault_step hz.out hx h0)
   have hstop := hid (fun h0 => fault_stop hz.out hx h0)
   have hat0 := hid hat
   clear hr hz hat he
   replace hx := hid hx
   by_cases hn : E x = 0
   · have t1 : (E x != 0) = false := by simp [hn]
     have hne := hpos'.out x hn
     by_cases hk0 : k = 0
     · have d0 : decide (0 < k) = false := by simp; omega
       have q : notAfter ((ahead l k).map (·.digest)) x.digest = false := by rw [hk0, ahead_zero]; rfl
       replace hk0 := hid hk0
       have hz2 := hid (hstep.out (hok'.out (ahead l k) x hn q))
       clear hstep hstop hn q hne
       exact qzshb_1
     have d0 : decide (0 < k) = true := by simp; omega
     have hy : l[k - 1]? = some l[k - 1] := List.getElem?_eq_getElem qzshb_5
     generalize l[k - 1] = y at hy
     obtain ⟨b2, off2, e2, hbb2, he2⟩ := hat0.out (k - 1) _ hy
     simp only [Option.some.injEq, Addr.mk.injEq, and_true] at e2
     obtain ⟨rfl, rfl⟩ := e2
     obtain ⟨pv2, p0, -⟩ := EBlob.stable _ _ _ _ _ hb hbb2 he2
     have hah : Hid (ahead l k = some y) := by
      obtain ⟨m, rfl⟩ : ∃ m, k = m + 1 := ⟨k - 1, by omega⟩
      exact hid hy
     have hpos2 : 0 < l.length := by omega
     have e1 : IntKind.i64.wrap ((k : Int) - 1) = (k : Int) - 1 := IntWalk.i64_in _ qzshb_5
     have e3 : (0 : Int) ≤ (k : Int) - 1 := by omega
     have e4 : (1 : Int) ≤ (k : Int) := by omega
     have e5 : (k : Int) - 1 < (l.length : Int) := by omega
     have e6 : ((k : Int) - 1).toNat = k - 1 := by omega
     clear he2 hy hat0 hne
     rcases sle_atoms x.digest y.digest with ⟨a1, a2⟩ | ⟨a1, a3, a2⟩ | ⟨a1, a3, a2⟩
     · have q : notAfter ((ahead l k).map (·.digest)) x.digest = true := by rw [hah.out]; simp [notAfter, a2]
       have hv := hid (hstop.out (by rw [htw'.out (ahead l k) x hn q]; decide))
       have hv2 := hid (htw'.out (ahead l k) x hn q)
       exact qzshb_2
     · have q : notAfter ((ahead l k).map (·.digest)) x.digest = true := by rw [hah.out]; simp [notAfter, a2]
       have hv := hid (hstop.out (by rw [htw'.out (ahead l k) x hn q]; decide))
       have hv2 := hid (htw'.out (ahead l k) x hn q)
       have a4 : (x.digest.toList == y.digest.toList) = true := by rw [a3]; simp
       replace a3 := hid a3
       exact qzshb_2
     have q : notAfter ((ahead l k).map (·.digest)) x.digest = false := by rw [hah.out]; simp [notAfter, a2]
     have hz2 := hid (hstep.out (hok'.out (ahead l k) x hn q))
     clear hstep hstop hn q a2
     exact qzshb_1
   have t1 : (E x != 0) = true := by simp [hn]
   have hv := hid (hstop.out (by rw [her'.out (ahead l k) x hn]; exact hn))
   have hv2 := hid (her'.out (ahead l k) x hn)
   clear hstep hstop hn
   go_wp2_with fail
   ((with_reducible refine (cr.out x _ _ (hp.mono EU8.stable (b_alloc (Below.refl _ wr) _)) s0).mono ?_); rintro e w1 ⟨rfl, b1⟩)
   obtain ⟨bc1, bf1⟩ := bcell b1
   have hsz1 : wr.heap.size < w1.heap.size := by have := b1.size; simp at this; omega
   go_wp2_with fail
   go_ret
   exact ⟨ret_i (hv.out.trans hv2.out).symm, b_call (b_alloc hb _) b1⟩
 obtain rfl : k = l.length := by omega
 have hr0 := hid (fault_end hz.out)
 go_wp2_with fail
 go_ret
 exact ⟨ret_i hr0.out.symm, hb⟩
theorem blob_Check (v : Value) (l : List Blob) (w : World) (h : RBl w v l) :
 Calls Tryz.prog 103 #[v] w fun e w' => e = .returned (.int .i64 (blobsFault l)) ∧ Below w.heap.size w w' :=
 blob_Check' blobErr blobFault (blobsFault l) v l w h (fun _ _ => blobFault_err) (fun _ _ => blobFault_twice) (fun _ _ => blobFault_ok) (fun _ => blobErr_pos) blobsFault_long blobsFault_short blob_Right
end Go.Proofs.YtpkpgehiplhkpaaGreat
