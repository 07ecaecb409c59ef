import Derived.Test.YtpkpgehiplhkpaaGreatTxMnf
import Derived.Test.YtpkpgehiplhkpaaGreatTxPin
import Derived.Test.YtpkpgehiplhkpaaGreatTxAct
import Derived.Handy
import Derived.Lib.Bytealg
namespace Go.Proofs.YtpkpgehiplhkpaaGreat
open Go.RowKit
theorem qxidx_2 {P : Prop} (h : P := by
 clear hstep hstop hn q a2
 go_wp2_with fail
 refine (hex_Check_any _ _ s0).mono ?_
 rintro e w1 ⟨rfl, b1⟩
 obtain ⟨bc1, bf1⟩ := bcell b1
 have hsz1 : wr.heap.size < w1.heap.size := by have := b1.size; simp at this; omega
 go_wp2_with fail
 go_quiet (fail)
 go_wp2_with fail
 go_ret
 exact ⟨ret_i (hv.out.trans hv2.out).symm, below_drewN (b_call (b_alloc hb _) b1) _⟩) : P := h
theorem qxidx_1 {P : Prop} (h : P := by
 by_cases hd : partsFault x.parts = 0
 · have t2 : (partsFault x.parts != 0) = false := by simp [hd]
   by_cases hpi : x.pins < 0 ∨ 5 < x.pins
   · have hpe := pinErr_bad hpi
     have hv := hid (hstop.out (by rw [entryFault_pins hn q hd (by rw [hpe]; decide)]; decide))
     have hv2 := hid (entryFault_pins hn q hd (by rw [hpe]; decide))
     clear hstep hstop hd hn q
     have t3 : (pinErr x.pins != 0) = true := by rw [hpe]; rfl
     have hv3 : Hid (pinErr x.pins = 4) := hid hpe
     clear hpe hpi
     go_wp2_with fail
     refine (hex_Check_any _ _ s0).mono ?_
     rintro e w1 ⟨rfl, b1⟩
     obtain ⟨bc1, bf1⟩ := bcell b1
     have hsz1 : wr.heap.size < w1.heap.size := by have := b1.size; simp at this; omega
     go_wp2_with fail
     go_quiet (fail)
     go_wp2_with fail
     refine (manifest_Check _ _ _ (hp.mono EPart.stable (below_drewN (b_call (b_alloc (Below.refl _ wr) _) b1) _))).mono ?_
     rintro e w2 ⟨rfl, b2⟩
     obtain ⟨bc2, bf2⟩ := bcell (b_call (below_drewN (Below.refl _ w1) _) b2)
     have hsz2 : w1.heap.size ≤ w2.heap.size := b2.size
     go_wp2_with fail
     refine (pin_Check _ _).mono ?_
     rintro e w3 ⟨rfl, rfl⟩
     go_wp2_with fail
     go_ret
     exact ⟨ret_i (hv3.out.trans (hv.out.trans hv2.out).symm), b_call (below_drewN (b_call (b_alloc hb _) b1) _) b2⟩
   · have hpe := pinErr_ok hpi
     have r1 : decide (x.pins < 0) = false := by simp; omega
     have r2 : decide (5 < x.pins) = false := by simp; omega
     have t3 : (pinErr x.pins != 0) = false := by rw [hpe]; rfl
     by_cases g1 : x.stamp < 0
     · have q1 : decide (x.stamp < 0) = true := by simp; omega
       have hv := hid (hstop.out (by rw [entryFault_stamp hn q hd hpe (by simp [stampBad, q1])]; decide))
       have hv2 := hid (entryFault_stamp hn q hd hpe (by simp [stampBad, q1]))
       clear hstep hstop hd hn q g1 hpe hpi
       go_wp2_with fail
       refine (hex_Check_any _ _ s0).mono ?_
       rintro e w1 ⟨rfl, b1⟩
       obtain ⟨bc1, bf1⟩ := bcell b1
       have hsz1 : wr.heap.size < w1.heap.size := by have := b1.size; simp at this; omega
       go_wp2_with fail
       go_quiet (fail)
       go_wp2_with fail
       refine (manifest_Check _ _ _ (hp.mono EPart.stable (below_drewN (b_call (b_alloc (Below.refl _ wr) _) b1) _))).mono ?_
       rintro e w2 ⟨rfl, b2⟩
       obtain ⟨bc2, bf2⟩ := bcell (b_call (below_drewN (Below.refl _ w1) _) b2)
       have hsz2 : w1.heap.size ≤ w2.heap.size := b2.size
       go_wp2_with fail
       refine (pin_Check _ _).mono ?_
       rintro e w3 ⟨rfl, rfl⟩
       go_wp2_with fail
       go_ret
       exact ⟨ret_i (hv.out.trans hv2.out).symm, b_call (below_drewN (b_call (b_alloc hb _) b1) _) b2⟩
     · have q1 : decide (x.stamp < 0) = false := by simp; omega
       by_cases g2 : 1099511627776 < x.stamp
       · have q2 : decide (1099511627776 < x.stamp) = true := by simp; omega
         have hv := hid (hstop.out (by rw [entryFault_stamp hn q hd hpe (by simp [stampBad, q2])]; decide))
         have hv2 := hid (entryFault_stamp hn q hd hpe (by simp [stampBad, q2]))
         clear hstep hstop hd hn q g1 g2 hpe hpi
         go_wp2_with fail
         refine (hex_Check_any _ _ s0).mono ?_
         rintro e w1 ⟨rfl, b1⟩
         obtain ⟨bc1, bf1⟩ := bcell b1
         have hsz1 : wr.heap.size < w1.heap.size := by have := b1.size; simp at this; omega
         go_wp2_with fail
         go_quiet (fail)
         go_wp2_with fail
         refine (manifest_Check _ _ _ (hp.mono EPart.stable (below_drewN (b_call (b_alloc (Below.refl _ wr) _) b1) _))).mono ?_
         rintro e w2 ⟨rfl, b2⟩
         obtain ⟨bc2, bf2⟩ := bcell (b_call (below_drewN (Below.refl _ w1) _) b2)
         have hsz2 : w1.heap.size ≤ w2.heap.size := b2.size
         go_wp2_with fail
         refine (pin_Check _ _).mono ?_
         rintro e w3 ⟨rfl, rfl⟩
         go_wp2_with fail
         go_ret
         exact ⟨ret_i (hv.out.trans hv2.out).symm, b_call (below_drewN (b_call (b_alloc hb _) b1) _) b2⟩
       · have q2 : decide (1099511627776 < x.stamp) = false := by simp; omega
         have hz2 := hid (hstep.out (entryFault_ok hn q hd hpe (by simp only [stampBad, q1, q2]; rfl)))
         clear hstep hstop hd hn q g1 g2 hpe hpi
         go_wp2_with fail
         refine (hex_Check_any _ _ s0).mono ?_
         rintro e w1 ⟨rfl, b1⟩
         obtain ⟨bc1, bf1⟩ := bcell b1
         have hsz1 : wr.heap.size < w1.heap.size := by have := b1.size; simp at this; omega
         go_wp2_with fail
         go_quiet (fail)
         go_wp2_with fail
         refine (manifest_Check _ _ _ (hp.mono EPart.stable (below_drewN (b_call (b_alloc (Below.refl _ wr) _) b1) _))).mono ?_
         rintro e w2 ⟨rfl, b2⟩
         obtain ⟨bc2, bf2⟩ := bcell (b_call (below_drewN (Below.refl _ w1) _) b2)
         have hsz2 : w1.heap.size ≤ w2.heap.size := b2.size
         go_wp2_with fail
         refine (pin_Check _ _).mono ?_
         rintro e w3 ⟨rfl, rfl⟩
         go_wp2_with fail
         go_roundw
         case rel => exact ⟨k + 1, by omega, by go_num, hz2, b_call (below_drewN (b_call (b_alloc hb _) b1) _) b2⟩
         case measure => simp [intOf]; omega
 · have t2 : (partsFault x.parts != 0) = true := by simp [hd]
   have hv := hid (hstop.out (by rw [entryFault_parts hn q hd]; exact hd))
   have hv2 := hid (entryFault_parts hn q hd)
   clear hstep hstop hd hn q
   go_wp2_with fail
   refine (hex_Check_any _ _ s0).mono ?_
   rintro e w1 ⟨rfl, b1⟩
   obtain ⟨bc1, bf1⟩ := bcell b1
   have hsz1 : wr.heap.size < w1.heap.size := by have := b1.size; simp at this; omega
   go_wp2_with fail
   go_quiet (fail)
   go_wp2_with fail
   refine (manifest_Check _ _ _ (hp.mono EPart.stable (below_drewN (b_call (b_alloc (Below.refl _ wr) _) b1) _))).mono ?_
   rintro e w2 ⟨rfl, b2⟩
   obtain ⟨bc2, bf2⟩ := bcell (b_call (below_drewN (Below.refl _ w1) _) b2)
   have hsz2 : w1.heap.size ≤ w2.heap.size := b2.size
   go_wp2_with fail
   go_ret
   exact ⟨ret_i (hv.out.trans hv2.out).symm, b_call (below_drewN (b_call (b_alloc hb _) b1) _) b2⟩) : P := h
def stampBad (n : Int) : Bool := decide (n < 0) || decide (1099511627776 < n)
def entryFault (p : Option Entry) (x : Entry) : Int :=
 if hexFault x.key = 0 then (if notAfter (p.map (·.key)) x.key = true then 6 else if partsFault x.parts = 0 then (if pinErr x.pins = 0 then (if stampBad x.stamp = true then 4 else 0) else 4) else partsFault x.parts) else hexFault x.key
def entriesFault (l : List Entry) : Int := if 10 < l.length then 1 else faultFrom entryFault none l
theorem pinErr_bad {n : Int} (h : n < 0 ∨ 5 < n) : pinErr n = 4 := by unfold pinErr; rw [if_pos h]
theorem pinErr_ok {n : Int} (h : ¬ (n < 0 ∨ 5 < n)) : pinErr n = 0 := by unfold pinErr; rw [if_neg h]
theorem pinErr_zero {n : Int} (h : pinErr n = 0) : 0 ≤ n ∧ n ≤ 5 := by
 unfold pinErr at h
 split at h
 · cases h
 · omega
section
variable {p : Option Entry} {x : Entry}
theorem entryFault_key (h : hexFault x.key ≠ 0) : entryFault p x = hexFault x.key := by unfold entryFault; rw [if_neg h]
theorem entryFault_twice (h : hexFault x.key = 0) (h2 : notAfter (p.map (·.key)) x.key = true) : entryFault p x = 6 := by unfold entryFault; rw [if_pos h, if_pos h2]
theorem entryFault_parts (h : hexFault x.key = 0) (h2 : notAfter (p.map (·.key)) x.key = false) (h3 : partsFault x.parts ≠ 0) : entryFault p x = partsFault x.parts := by unfold entryFault; rw [if_pos h, if_neg (by rw [h2]; decide), if_neg h3]
theorem entryFault_pins (h : hexFault x.key = 0) (h2 : notAfter (p.map (·.key)) x.key = false) (h3 : partsFault x.parts = 0) (h4 : pinErr x.pins ≠ 0) : entryFault p x = 4 := by unfold entryFault; rw [if_pos h, if_neg (by rw [h2]; decide), if_pos h3, if_neg h4]
theorem entryFault_stamp (h : hexFault x.key = 0) (h2 : notAfter (p.map (·.key)) x.key = false) (h3 : partsFault x.parts = 0) (h4 : pinErr x.pins = 0) (h5 : stampBad x.stamp = true) : entryFault p x = 4 := by unfold entryFault; rw [if_pos h, if_neg (by rw [h2]; decide), if_pos h3, if_pos h4, if_pos h5]
theorem entryFault_ok (h : hexFault x.key = 0) (h2 : notAfter (p.map (·.key)) x.key = false) (h3 : partsFault x.parts = 0) (h4 : pinErr x.pins = 0) (h5 : stampBad x.stamp = false) : entryFault p x = 0 := by unfold entryFault; rw [if_pos h, if_neg (by rw [h2]; decide), if_pos h3, if_pos h4, if_neg (by rw [h5]; decide)]
theorem entryFault_zero (h : entryFault p x = 0) : hexFault x.key = 0 ∧ notAfter (p.map (·.key)) x.key = false ∧ partsFault x.parts = 0 ∧ (0 ≤ x.pins ∧ x.pins ≤ 5) ∧ 0 ≤ x.stamp ∧ x.stamp ≤ 1099511627776 := by
 unfold entryFault at h
 split at h
 · rename_i h1
   split at h
   · cases h
   · rename_i h2
     split at h
     · rename_i h3
       split at h
       · rename_i h4
         split at h
         · cases h
         · rename_i h5
           simp only [stampBad, Bool.or_eq_true, decide_eq_true_eq] at h5
           exact ⟨h1, by simpa using h2, h3, pinErr_zero h4, by omega, by omega⟩
       · cases h
     · rename_i h3; exact absurd h h3
 · rename_i h1; exact absurd h h1
end
theorem entriesFault_long {l : List Entry} (h : 10 < l.length) : entriesFault l = 1 := by unfold entriesFault; rw [if_pos h]
theorem entriesFault_short {l : List Entry} (h : ¬ 10 < l.length) : entriesFault l = faultFrom entryFault (ahead l 0) (l.drop 0) := by unfold entriesFault; rw [if_neg h]; rfl
theorem hexFault_pos {s : ByteArray} (h : hexFault s = 0) : 1 ≤ s.size := by have := (hexFault_zero h).1; omega
set_option maxRecDepth 100000 in
set_option maxHeartbeats 2000000 in
theorem index_Check (v : Value) (l : List Entry) (w : World) (h : RE w v l) :
 Calls Tryz.prog 104 #[v] w fun e w' => e = .returned (.int .i64 (entriesFault l)) ∧ Below w.heap.size w w' := by
 obtain ⟨a, c, rfl, hlc, hcm, hre, hno, hat⟩ := h
 unfold maxLen at hcm
 clear hno
 by_cases h8 : 10 < l.length
 · have hr := hid (entriesFault_long h8)
   go_enter Tryz.func104, Tryz.ntmps104
   go_wp2_with fail
   go_ret
   exact ⟨ret_i hr.out.symm, Below.refl _ _⟩
 · have hr := hid (entriesFault_short h8)
   generalize entriesFault l = z at *
   go_enter Tryz.func104, Tryz.ntmps104
   go_wp2_with fail
   go_loopw [3, 5, 6, 7, 13] (fun _ _ _ _ i wr => ∃ (k : Nat), k ≤ l.length ∧ i = .int .i64 k ∧ Hid (z = faultFrom entryFault (ahead l k) (l.drop k)) ∧ Below w.heap.size w wr) (fun _ _ _ _ i _ => l.length - (intOf i).toNat)
   case atStart => exact ⟨0, by omega, rfl, hr, Below.refl _ _⟩
   case round =>
    obtain ⟨k, hk, rfl, hz, hb⟩ := hrel
    by_cases hlt : k < l.length
    · have hx : l[k]? = some l[k] := List.getElem?_eq_getElem hlt
      generalize l[k] = x at hx
      obtain ⟨bb, off, rfl, hbb, he⟩ := hat k _ hx
      obtain ⟨pv, c0, c1, c2, c3, hp, s0, wf, wf2⟩ := EEntry.stable _ _ _ _ _ hb hbb he
      obtain ⟨pa, pc, rfl, -⟩ := id hp
      have hbw : bb < wr.heap.size := Nat.lt_of_lt_of_le hbb hb.size
      have hstep := hid (fun h0 => fault_step hz.out hx h0)
      have hstop := hid (fun h0 => fault_stop hz.out hx h0)
      have hat0 := hid hat
      clear hr hz hat he
      replace hx := hid hx
      by_cases hn : hexFault x.key = 0
      · have t1 : (hexFault x.key != 0) = false := by simp [hn]
        by_cases hk0 : k = 0
        · have d0 : decide (0 < k) = false := by simp; omega
          have q : notAfter ((ahead l k).map (·.key)) x.key = false := by rw [hk0, ahead_zero]; rfl
          replace hk0 := hid hk0
          exact qxidx_1
        · have d0 : decide (0 < k) = true := by simp; omega
          have hy : l[k - 1]? = some l[k - 1] := List.getElem?_eq_getElem (by omega)
          generalize l[k - 1] = y at hy
          obtain ⟨b2, off2, e2, hbb2, he2⟩ := hat0.out (k - 1) _ hy
          simp only [Option.some.injEq, Addr.mk.injEq, and_true] at e2
          obtain ⟨rfl, rfl⟩ := e2
          obtain ⟨pv2, p0, -⟩ := EEntry.stable _ _ _ _ _ hb hbb2 he2
          have hah : Hid (ahead l k = some y) := by
           obtain ⟨m, rfl⟩ : ∃ m, k = m + 1 := ⟨k - 1, by omega⟩
           exact hid hy
          have hpos : 0 < l.length := by omega
          have e1 : IntKind.i64.wrap ((k : Int) - 1) = (k : Int) - 1 := IntWalk.i64_in _ (by omega)
          have e3 : (0 : Int) ≤ (k : Int) - 1 := by omega
          have e4 : (1 : Int) ≤ (k : Int) := by omega
          have e5 : (k : Int) - 1 < (l.length : Int) := by omega
          have e6 : ((k : Int) - 1).toNat = k - 1 := by omega
          clear he2 hy hat0
          rcases sle_atoms x.key y.key with ⟨a1, a2⟩ | ⟨a1, a3, a2⟩ | ⟨a1, a3, a2⟩
          · have q : notAfter ((ahead l k).map (·.key)) x.key = true := by rw [hah.out]; simp [notAfter, a2]
            have hv := hid (hstop.out (by rw [entryFault_twice hn q]; decide))
            have hv2 := hid (entryFault_twice hn q)
            exact qxidx_2
          · have q : notAfter ((ahead l k).map (·.key)) x.key = true := by rw [hah.out]; simp [notAfter, a2]
            have hv := hid (hstop.out (by rw [entryFault_twice hn q]; decide))
            have hv2 := hid (entryFault_twice hn q)
            have a4 : (x.key.toList == y.key.toList) = true := by rw [a3]; simp
            replace a3 := hid a3
            exact qxidx_2
          · have q : notAfter ((ahead l k).map (·.key)) x.key = false := by rw [hah.out]; simp [notAfter, a2]
            clear a2
            exact qxidx_1
      · have t1 : (hexFault x.key != 0) = true := by simp [hn]
        have hv := hid (hstop.out (by rw [entryFault_key hn]; exact hn))
        have hv2 := hid (entryFault_key (p := ahead l k) hn)
        clear hstep hstop hn
        go_wp2_with fail
        refine (hex_Check_any _ _ s0).mono ?_
        rintro e w1 ⟨rfl, b1⟩
        obtain ⟨bc1, bf1⟩ := bcell b1
        have hsz1 : wr.heap.size < w1.heap.size := by have := b1.size; simp at this; omega
        go_wp2_with fail
        go_ret
        exact ⟨ret_i (hv.out.trans hv2.out).symm, b_call (b_alloc hb _) b1⟩
    · obtain rfl : k = l.length := by omega
      have hr0 := hid (fault_end hz.out)
      go_wp2_with fail
      go_ret
      exact ⟨ret_i hr0.out.symm, hb⟩
end Go.Proofs.YtpkpgehiplhkpaaGreat

namespace Go.Proofs.YtpkpgehiplhkpaaGreat
open Go.RowKit
def isKind (k : Int) : Bool := decide (1 ≤ k ∧ k ≤ 14)
def hasN (k : Int) : Bool := decide (k = 9 ∨ k = 11 ∨ k = 12)
def hasD (k : Int) : Bool := decide ((2 ≤ k ∧ k ≤ 8) ∨ (12 ≤ k ∧ k ≤ 14))
def hasB (k : Int) : Bool := decide (k = 1)
def hasP (k : Int) : Bool := decide (k = 5 ∨ k = 13)
theorem kind_cases {k : Int} (h : 1 ≤ k ∧ k ≤ 14) : k = 1 ∨ k = 2 ∨ k = 3 ∨ k = 4 ∨ k = 5 ∨ k = 6 ∨ k = 7 ∨ k = 8 ∨ k = 9 ∨ k = 10 ∨ k = 11 ∨ k = 12 ∨ k = 13 ∨ k = 14 := by omega
set_option maxRecDepth 100000 in
set_option maxHeartbeats 1000000 in
theorem order_of (k : Int) (w : World) :
 Calls Tryz.prog 58 #[.int .i64 k] w fun e w' => e = .returned (.tuple #[.agg #[.bool (hasN k), .bool (hasD k), .bool (hasB k), .bool (hasP k)], .bool (isKind k)]) ∧ Below w.heap.size w w' := by
 by_cases h : 1 ≤ k ∧ k ≤ 14
 · rcases kind_cases h with rfl | rfl | rfl | rfl | rfl | rfl | rfl | rfl | rfl | rfl | rfl | rfl | rfl | rfl
   all_goals
    go_enter Tryz.func58, Tryz.ntmps58
    go_wp2_with fail
    go_returns
    refine ⟨rfl, ?_⟩
    first | exact Below.refl _ _ | exact b_alloc (Below.refl _ _) _
 · have q1 : (k == 1) = false := by simp; omega
   have q2 : (k == 2) = false := by simp; omega
   have q3 : (k == 3) = false := by simp; omega
   have q4 : (k == 4) = false := by simp; omega
   have q5 : (k == 5) = false := by simp; omega
   have q6 : (k == 6) = false := by simp; omega
   have q7 : (k == 7) = false := by simp; omega
   have q8 : (k == 8) = false := by simp; omega
   have q9 : (k == 9) = false := by simp; omega
   have q10 : (k == 10) = false := by simp; omega
   have q11 : (k == 11) = false := by simp; omega
   have q12 : (k == 12) = false := by simp; omega
   have q13 : (k == 13) = false := by simp; omega
   have q14 : (k == 14) = false := by simp; omega
   have z1 : isKind k = false := by simp [isKind]; omega
   have z2 : hasN k = false := by simp [hasN]; omega
   have z3 : hasD k = false := by simp [hasD]; omega
   have z4 : hasB k = false := by simp [hasB]; omega
   have z5 : hasP k = false := by simp [hasP]; omega
   rw [z1, z2, z3, z4, z5]
   clear h z1 z2 z3 z4 z5
   go_enter Tryz.func58, Tryz.ntmps58
   go_wp2_with fail
   go_returns
   refine ⟨rfl, ?_⟩
   first | exact Below.refl _ _ | exact b_alloc (Below.refl _ _) _
structure Order where
 kind : Int
 n : Int
 digest : ByteArray
 data : List UInt8
 parts : List Part
def ordForm (fn fd fb fp : Bool) (n : Int) (d : ByteArray) (bl pl : Nat) : Bool :=
 decide ((n ≠ 0 ∧ fn = false) ∨ (d.size ≠ 0 ∧ fd = false) ∨ (bl ≠ 0 ∧ fb = false) ∨ (pl ≠ 0 ∧ fp = false))
def ordRest (fd : Bool) (n : Int) (d : ByteArray) (bl : Nat) (z : Int) : Int :=
 if n < 0 ∨ 4000 < n then 4 else if fd = true ∧ hexFault d ≠ 0 then hexFault d else if 300 < bl then 1 else z
def ordFault (o : Order) : Int :=
 if isKind o.kind = false then 2 else if ordForm (hasN o.kind) (hasD o.kind) (hasB o.kind) (hasP o.kind) o.n o.digest o.data.length o.parts.length = true then 3 else ordRest (hasD o.kind) o.n o.digest o.data.length (partsFault o.parts)
theorem ordFault_kind {o : Order} (h : isKind o.kind = false) : ordFault o = 2 := by unfold ordFault; rw [if_pos h]
theorem ordFault_form {o : Order} (h : isKind o.kind = true) (h2 : ordForm (hasN o.kind) (hasD o.kind) (hasB o.kind) (hasP o.kind) o.n o.digest o.data.length o.parts.length = true) : ordFault o = 3 := by
 unfold ordFault; rw [if_neg (by rw [h]; decide), if_pos h2]
theorem ordFault_rest {o : Order} (h : isKind o.kind = true) (h2 : ordForm (hasN o.kind) (hasD o.kind) (hasB o.kind) (hasP o.kind) o.n o.digest o.data.length o.parts.length = false) :
 ordFault o = ordRest (hasD o.kind) o.n o.digest o.data.length (partsFault o.parts) := by
 unfold ordFault; rw [if_neg (by rw [h]; decide), if_neg (by rw [h2]; decide)]
end Go.Proofs.YtpkpgehiplhkpaaGreat

namespace Go.Proofs.YtpkpgehiplhkpaaGreat
open Go.RowKit
def Rising {α : Type} (key : α → ByteArray) (l : List α) : Prop := l.Pairwise fun a b => slt (key a) (key b) = true
theorem notAfter_slt {y s : ByteArray} (h : notAfter (some y) s = false) : slt y s = true := by
 unfold notAfter at h
 simpa using h
theorem rising_of {α : Type} {f : Option α → α → Int} {key : α → ByteArray} (hf : ∀ p x, f p x = 0 → notAfter (p.map key) (key x) = false) :
 ∀ {l : List α} {p : Option α}, faultFrom f p l = 0 → Rising key l ∧ ∀ y, p = some y → ∀ x ∈ l, slt (key y) (key x) = true
 | [], p, _ => ⟨.nil, fun _ _ x hx => by simp at hx⟩
 | x :: l, p, h => by
   rw [faultFrom] at h
   by_cases h0 : f p x = 0
   · rw [if_pos h0] at h
     obtain ⟨h1, h2⟩ := rising_of hf h
     refine ⟨List.pairwise_cons.2 ⟨fun a ha => h2 x rfl a ha, h1⟩, fun y hy a ha => ?_⟩
     subst hy
     have h3 := notAfter_slt (hf _ _ h0)
     rcases List.mem_cons.1 ha with rfl | ha
     · exact h3
     · exact slt_trans h3 (h2 x rfl a ha)
   · rw [if_neg h0] at h; exact absurd h h0
def lowAt {α : Type} (key : α → ByteArray) (s : ByteArray) : List α → Nat
 | [] => 0
 | x :: l => if slt (key x) s = true then lowAt key s l + 1 else 0
theorem lowAt_le {α : Type} (key : α → ByteArray) (s : ByteArray) : ∀ l : List α, lowAt key s l ≤ l.length
 | [] => Nat.le_refl _
 | x :: l => by
   rw [lowAt]
   have := lowAt_le key s l
   split <;> simp <;> omega
theorem lowAt_before {α : Type} {key : α → ByteArray} {s : ByteArray} : ∀ {l : List α} {j : Nat} {x : α}, j < lowAt key s l → l[j]? = some x → slt (key x) s = true
 | [], j, x, h, _ => by simp [lowAt] at h
 | y :: l, j, x, h, hx => by
   rw [lowAt] at h
   split at h
   · rename_i h0
     cases j with
     | zero => simp only [List.getElem?_cons_zero, Option.some.injEq] at hx; subst hx; exact h0
     | succ j => exact lowAt_before (l := l) (Nat.lt_of_succ_lt_succ h) (by simpa using hx)
   · omega
theorem lowAt_at {α : Type} {key : α → ByteArray} {s : ByteArray} : ∀ {l : List α} {x : α}, l[lowAt key s l]? = some x → slt (key x) s = false
 | [], x, h => by simp at h
 | y :: l, x, h => by
   rw [lowAt] at h
   split at h
   · exact lowAt_at (l := l) (by simpa using h)
   · rename_i h0
     simp only [List.getElem?_cons_zero, Option.some.injEq] at h
     subst h
     simpa using h0
theorem lowAt_behind {α : Type} {key : α → ByteArray} {s : ByteArray} {l : List α} (hr : Rising key l) {j : Nat} {x : α} (h : lowAt key s l ≤ j) (hx : l[j]? = some x) : slt (key x) s = false := by
 obtain ⟨hj, hxe⟩ := List.getElem?_eq_some_iff.1 hx
 have h1 : l[lowAt key s l]? = some l[lowAt key s l] := List.getElem?_eq_getElem (by omega)
 have h2 := lowAt_at h1
 by_cases he : lowAt key s l = j
 · exact lowAt_at (by rw [he]; exact hx)
 · have h3 : slt (key l[lowAt key s l]) (key l[j]) = true := List.pairwise_iff_getElem.1 hr _ _ (by omega) hj (by omega)
   rw [hxe] at h3
   cases h4 : slt (key x) s with
   | false => rfl
   | true => rw [slt_trans h3 h4] at h2; cases h2
theorem lowAt_next {α : Type} {key : α → ByteArray} {s : ByteArray} {l : List α} (hr : Rising key l) {j : Nat} {x : α} (h : lowAt key s l < j) (hx : l[j]? = some x) : slt s (key x) = true := by
 obtain ⟨hj, hxe⟩ := List.getElem?_eq_some_iff.1 hx
 have h1 : l[lowAt key s l]? = some l[lowAt key s l] := List.getElem?_eq_getElem (by omega)
 have h2 := lowAt_at h1
 have h3 : slt (key l[lowAt key s l]) (key l[j]) = true := List.pairwise_iff_getElem.1 hr _ _ (by omega) hj h
 rw [hxe] at h3
 cases h4 : slt s (key x) with
 | true => rfl
 | false =>
   cases h5 : slt (key x) s with
   | true => rw [lowAt_behind hr (Nat.le_of_lt h) hx] at h5; cases h5
   | false =>
     have := slt_tri h4 h5
     rw [← this] at h3
     rw [h3] at h2; cases h2
theorem lowAt_only {α : Type} {key : α → ByteArray} {s : ByteArray} {l : List α} {i : Nat} (hi : i ≤ l.length) (h1 : ∀ j x, j < i → l[j]? = some x → slt (key x) s = true) (h2 : ∀ x, l[i]? = some x → slt (key x) s = false) : lowAt key s l = i := by
 have hle := lowAt_le key s l
 rcases Nat.lt_trichotomy (lowAt key s l) i with h | h | h
 · have hx : l[lowAt key s l]? = some l[lowAt key s l] := List.getElem?_eq_getElem (by omega)
   have := h1 _ _ h hx
   rw [lowAt_at hx] at this; cases this
 · exact h
 · have hx : l[i]? = some l[i] := List.getElem?_eq_getElem (by omega)
   have := lowAt_before h hx
   rw [h2 _ hx] at this; cases this
def hasKey {α : Type} (key : α → ByteArray) (s : ByteArray) (l : List α) : Bool := match l[lowAt key s l]? with | none => false | some x => (key x).toList == s.toList
theorem hasKey_some {α : Type} {key : α → ByteArray} {s : ByteArray} {l : List α} {x : α} (h : l[lowAt key s l]? = some x) : hasKey key s l = ((key x).toList == s.toList) := by unfold hasKey; rw [h]
theorem hasKey_none {α : Type} {key : α → ByteArray} {s : ByteArray} {l : List α} (h : l[lowAt key s l]? = none) : hasKey key s l = false := by unfold hasKey; rw [h]
theorem key_eq {a b : ByteArray} : (a.toList == b.toList) = true ↔ a = b := ⟨fun h => toList_inj (by simpa using h), fun h => by rw [h]; simp⟩
theorem hasKey_at {α : Type} {key : α → ByteArray} {s : ByteArray} {l : List α} (h : hasKey key s l = true) : ∃ x, l[lowAt key s l]? = some x ∧ key x = s := by
 unfold hasKey at h
 split at h
 · cases h
 · rename_i x hx; exact ⟨x, hx, key_eq.1 h⟩
theorem rising_low {α : Type} {key : α → ByteArray} {s : ByteArray} {l : List α} (hr : Rising key l) {i j : Nat} {x y : α} (hx : l[i]? = some x) (hk : slt (key x) s = true) (hj : j ≤ i) (hy : l[j]? = some y) : slt (key y) s = true := by
 by_cases he : j = i
 · subst he; rw [hx] at hy; obtain rfl := Option.some.inj hy; exact hk
 · obtain ⟨hi, rfl⟩ := List.getElem?_eq_some_iff.1 hx
   obtain ⟨hj2, rfl⟩ := List.getElem?_eq_some_iff.1 hy
   exact slt_trans (List.pairwise_iff_getElem.1 hr j i hj2 hi (by omega)) hk
theorem rising_high {α : Type} {key : α → ByteArray} {s : ByteArray} {l : List α} (hr : Rising key l) {i j : Nat} {x y : α} (hx : l[i]? = some x) (hk : slt (key x) s = false) (hj : i ≤ j) (hy : l[j]? = some y) : slt (key y) s = false := by
 cases h : slt (key y) s with
 | false => rfl
 | true => rw [rising_low hr hy h hj hx] at hk; cases hk
def cmpB (a b : ByteArray) : Int := if slt a b = true then -1 else if slt b a = true then 1 else 0
theorem cmpL_bytes : ∀ a b : List UInt8, Lib.compareBytes a b = if Op.bytesLess a b = true then -1 else if Op.bytesLess b a = true then 1 else 0
 | [], [] => by simp [Lib.compareBytes, Op.bytesLess]
 | [], _ :: _ => by simp [Lib.compareBytes, Op.bytesLess]
 | _ :: _, [] => by simp [Lib.compareBytes, Op.bytesLess]
 | a :: x, b :: y => by
   rw [Lib.compareBytes, cmpL_bytes x y]
   simp only [Op.bytesLess, Bool.or_eq_true, Bool.and_eq_true, beq_iff_eq, decide_eq_true_eq]
   by_cases h1 : a < b
   · simp [h1]
   · by_cases h2 : b < a
     · have hne : a ≠ b := fun e => by subst e; exact h1 h2
       simp [h1, h2, hne]
     · have he : a = b := by
        rw [UInt8.lt_iff_toNat_lt] at h1 h2
        apply UInt8.toNat_inj.1
        omega
       subst he
       simp [h1]
theorem cmpB_eq (a b : ByteArray) : Lib.compareBytes a.data.toList b.data.toList = cmpB a b := by
 rw [cmpL_bytes]
 unfold cmpB slt
 rw [toList_data, toList_data]
theorem cmpB_lt {a b : ByteArray} (h : slt a b = true) : cmpB a b = -1 := by unfold cmpB; rw [if_pos h]
theorem cmpB_ge {a b : ByteArray} (h : slt a b = false) : ∃ z, cmpB a b = z ∧ 0 ≤ z := by
 refine ⟨_, rfl, ?_⟩
 unfold cmpB
 rw [if_neg (by rw [h]; decide)]
 split <;> decide
theorem cmpB_zero (a b : ByteArray) : (cmpB a b == 0) = (a.toList == b.toList) := by
 unfold cmpB
 cases h : slt a b with
 | true =>
   rw [if_pos rfl]
   cases h2 : (a.toList == b.toList) with
   | false => rfl
   | true => rw [key_eq.1 h2, slt_irrefl] at h; cases h
 | false =>
   rw [if_neg (by decide)]
   cases h1 : slt b a with
   | true =>
     rw [if_pos rfl]
     cases h2 : (a.toList == b.toList) with
     | false => rfl
     | true => rw [key_eq.1 h2, slt_irrefl] at h1; cases h1
   | false =>
     rw [if_neg (by decide), slt_tri h h1]
     simp
end Go.Proofs.YtpkpgehiplhkpaaGreat
