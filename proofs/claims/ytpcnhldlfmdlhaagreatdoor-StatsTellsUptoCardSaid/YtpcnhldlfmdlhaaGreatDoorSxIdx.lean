/-
  index.Check and the reference's EntriesFault: what each answers.
-/
import Derived.Test.YtpcnhldlfmdlhaaGreatDoorSxMnf
import Derived.Test.YtpcnhldlfmdlhaaGreatDoorSxPin
namespace Go.Proofs.YtpcnhldlfmdlhaaGreatDoor
open Go.RowKit

def stampBad (n : Int) : Bool := decide (n < 0) || decide (1099511627776 < n)
def entryFault (p : Option Entry) (x : Entry) : Int :=
  if hexFault x.key = 0 then (if notAfter (p.map (·.key)) x.key = true then 6 else if partsFault x.parts = 0 then (if pinErr x.pins = 0 then (if stampBad x.stamp = true then 4 else 0) else 4) else partsFault x.parts) else hexFault x.key
def entriesFault (l : List Entry) : Int := if 10 < l.length then 1 else faultFrom entryFault none l
theorem pinErr_bad {n : Int} (h : n < 0 ∨ 5 < n) : pinErr n = 4 := by unfold pinErr; rw [if_pos h]
theorem pinErr_ok {n : Int} (h : ¬ (n < 0 ∨ 5 < n)) : pinErr n = 0 := by unfold pinErr; rw [if_neg h]
theorem pinErr_zero {n : Int} (h : pinErr n = 0) : 0 ≤ n ∧ n ≤ 5 := by
  unfold pinErr at h
  split at h
  · cases h
  · omega
section
variable {p : Option Entry} {x : Entry}
theorem entryFault_key (h : hexFault x.key ≠ 0) : entryFault p x = hexFault x.key := by unfold entryFault; rw [if_neg h]
theorem entryFault_twice (h : hexFault x.key = 0) (h2 : notAfter (p.map (·.key)) x.key = true) : entryFault p x = 6 := by unfold entryFault; rw [if_pos h, if_pos h2]
theorem entryFault_parts (h : hexFault x.key = 0) (h2 : notAfter (p.map (·.key)) x.key = false) (h3 : partsFault x.parts ≠ 0) : entryFault p x = partsFault x.parts := by unfold entryFault; rw [if_pos h, if_neg (by rw [h2]; decide), if_neg h3]
theorem entryFault_pins (h : hexFault x.key = 0) (h2 : notAfter (p.map (·.key)) x.key = false) (h3 : partsFault x.parts = 0) (h4 : pinErr x.pins ≠ 0) : entryFault p x = 4 := by unfold entryFault; rw [if_pos h, if_neg (by rw [h2]; decide), if_pos h3, if_neg h4]
theorem entryFault_stamp (h : hexFault x.key = 0) (h2 : notAfter (p.map (·.key)) x.key = false) (h3 : partsFault x.parts = 0) (h4 : pinErr x.pins = 0) (h5 : stampBad x.stamp = true) : entryFault p x = 4 := by unfold entryFault; rw [if_pos h, if_neg (by rw [h2]; decide), if_pos h3, if_pos h4, if_pos h5]
theorem entryFault_ok (h : hexFault x.key = 0) (h2 : notAfter (p.map (·.key)) x.key = false) (h3 : partsFault x.parts = 0) (h4 : pinErr x.pins = 0) (h5 : stampBad x.stamp = false) : entryFault p x = 0 := by unfold entryFault; rw [if_pos h, if_neg (by rw [h2]; decide), if_pos h3, if_pos h4, if_neg (by rw [h5]; decide)]
theorem entryFault_zero (h : entryFault p x = 0) : hexFault x.key = 0 ∧ notAfter (p.map (·.key)) x.key = false ∧ partsFault x.parts = 0 ∧ (0 ≤ x.pins ∧ x.pins ≤ 5) ∧ 0 ≤ x.stamp ∧ x.stamp ≤ 1099511627776 := by
  unfold entryFault at h
  split at h
  · rename_i h1
    split at h
    · cases h
    · rename_i h2
      split at h
      · rename_i h3
        split at h
        · rename_i h4
          split at h
          · cases h
          · rename_i h5
            simp only [stampBad, Bool.or_eq_true, decide_eq_true_eq] at h5
            exact ⟨h1, by simpa using h2, h3, pinErr_zero h4, by omega, by omega⟩
        · cases h
      · rename_i h3; exact absurd h h3
  · rename_i h1; exact absurd h h1
end
theorem entriesFault_long {l : List Entry} (h : 10 < l.length) : entriesFault l = 1 := by unfold entriesFault; rw [if_pos h]
theorem entriesFault_short {l : List Entry} (h : ¬ 10 < l.length) : entriesFault l = faultFrom entryFault (ahead l 0) (l.drop 0) := by unfold entriesFault; rw [if_neg h]; rfl
theorem hexFault_pos {s : ByteArray} (h : hexFault s = 0) : 1 ≤ s.size := by have := (hexFault_zero h).1; omega

set_option maxRecDepth 100000 in
set_option maxHeartbeats 2000000 in
theorem index_Check (v : Value) (l : List Entry) (w : World) (h : RE w v l) :
    Calls Tryz.prog 52 #[v] w fun e w' => e = .returned (.int .i64 (entriesFault l)) ∧ Below w.heap.size w w' := by
  obtain ⟨a, c, rfl, hlc, hcm, hre, hno, hat⟩ := h
  unfold maxLen at hcm
  clear hno
  by_cases h8 : 10 < l.length
  · have hr := hid (entriesFault_long h8)
    go_enter Tryz.func52, Tryz.ntmps52
    go_wp2_with fail
    go_ret
    exact ⟨ret_i hr.out.symm, Below.refl _ _⟩
  · have hr := hid (entriesFault_short h8)
    generalize entriesFault l = z at *
    go_enter Tryz.func52, Tryz.ntmps52
    go_wp2_with fail
    go_loopw [3, 5, 6, 7, 13] (fun _ _ _ _ i wr => ∃ (k : Nat), k ≤ l.length ∧ i = .int .i64 k ∧ Hid (z = faultFrom entryFault (ahead l k) (l.drop k)) ∧ Below w.heap.size w wr) (fun _ _ _ _ i _ => l.length - (intOf i).toNat)
    case atStart => exact ⟨0, by omega, rfl, hr, Below.refl _ _⟩
    case round =>
      obtain ⟨k, hk, rfl, hz, hb⟩ := hrel
      by_cases hlt : k < l.length
      · have hx : l[k]? = some l[k] := List.getElem?_eq_getElem hlt
        generalize l[k] = x at hx
        obtain ⟨bb, off, rfl, hbb, he⟩ := hat k _ hx
        obtain ⟨pv, c0, c1, c2, c3, hp, s0, wf, wf2⟩ := EEntry.stable _ _ _ _ _ hb hbb he
        obtain ⟨pa, pc, rfl, -⟩ := id hp
        have hbw : bb < wr.heap.size := Nat.lt_of_lt_of_le hbb hb.size
        have hstep := hid (fun h0 => fault_step hz.out hx h0)
        have hstop := hid (fun h0 => fault_stop hz.out hx h0)
        have hat0 := hid hat
        clear hr hz hat he
        replace hx := hid hx
        by_cases hn : hexFault x.key = 0
        · have t1 : (hexFault x.key != 0) = false := by simp [hn]
          by_cases hk0 : k = 0
          · have d0 : decide (0 < k) = false := by simp; omega
            have q : notAfter ((ahead l k).map (·.key)) x.key = false := by rw [hk0, ahead_zero]; rfl
            replace hk0 := hid hk0
            by_cases hd : partsFault x.parts = 0
            · have t2 : (partsFault x.parts != 0) = false := by simp [hd]
              by_cases hpi : x.pins < 0 ∨ 5 < x.pins
              · have hpe := pinErr_bad hpi
                have hv := hid (hstop.out (by rw [entryFault_pins hn q hd (by rw [hpe]; decide)]; decide))
                have hv2 := hid (entryFault_pins hn q hd (by rw [hpe]; decide))
                clear hstep hstop hd hn q
                have t3 : (pinErr x.pins != 0) = true := by rw [hpe]; rfl
                have hv3 : Hid (pinErr x.pins = 4) := hid hpe
                clear hpe hpi
                go_wp2_with fail
                refine (hex_Check_any _ _ s0).mono ?_
                rintro e w1 ⟨rfl, b1⟩
                obtain ⟨bc1, bf1⟩ := bcell b1
                have hsz1 : wr.heap.size < w1.heap.size := by have := b1.size; simp at this; omega
                go_wp2_with fail
                go_quiet (fail)
                go_wp2_with fail
                refine (manifest_Check _ _ _ (hp.mono EPart.stable (below_drewN (b_call (b_alloc (Below.refl _ wr) _) b1) _))).mono ?_
                rintro e w2 ⟨rfl, b2⟩
                obtain ⟨bc2, bf2⟩ := bcell (b_call (below_drewN (Below.refl _ w1) _) b2)
                have hsz2 : w1.heap.size ≤ w2.heap.size := b2.size
                go_wp2_with fail
                refine (pin_Check _ _).mono ?_
                rintro e w3 ⟨rfl, rfl⟩
                go_wp2_with fail
                go_ret
                exact ⟨ret_i (hv3.out.trans (hv.out.trans hv2.out).symm), b_call (below_drewN (b_call (b_alloc hb _) b1) _) b2⟩
              · have hpe := pinErr_ok hpi
                have r1 : decide (x.pins < 0) = false := by simp; omega
                have r2 : decide (5 < x.pins) = false := by simp; omega
                have t3 : (pinErr x.pins != 0) = false := by rw [hpe]; rfl
                by_cases g1 : x.stamp < 0
                · have q1 : decide (x.stamp < 0) = true := by simp; omega
                  have hv := hid (hstop.out (by rw [entryFault_stamp hn q hd hpe (by simp [stampBad, q1])]; decide))
                  have hv2 := hid (entryFault_stamp hn q hd hpe (by simp [stampBad, q1]))
                  clear hstep hstop hd hn q g1 hpe hpi
                  go_wp2_with fail
                  refine (hex_Check_any _ _ s0).mono ?_
                  rintro e w1 ⟨rfl, b1⟩
                  obtain ⟨bc1, bf1⟩ := bcell b1
                  have hsz1 : wr.heap.size < w1.heap.size := by have := b1.size; simp at this; omega
                  go_wp2_with fail
                  go_quiet (fail)
                  go_wp2_with fail
                  refine (manifest_Check _ _ _ (hp.mono EPart.stable (below_drewN (b_call (b_alloc (Below.refl _ wr) _) b1) _))).mono ?_
                  rintro e w2 ⟨rfl, b2⟩
                  obtain ⟨bc2, bf2⟩ := bcell (b_call (below_drewN (Below.refl _ w1) _) b2)
                  have hsz2 : w1.heap.size ≤ w2.heap.size := b2.size
                  go_wp2_with fail
                  refine (pin_Check _ _).mono ?_
                  rintro e w3 ⟨rfl, rfl⟩
                  go_wp2_with fail
                  go_ret
                  exact ⟨ret_i (hv.out.trans hv2.out).symm, b_call (below_drewN (b_call (b_alloc hb _) b1) _) b2⟩
                · have q1 : decide (x.stamp < 0) = false := by simp; omega
                  by_cases g2 : 1099511627776 < x.stamp
                  · have q2 : decide (1099511627776 < x.stamp) = true := by simp; omega
                    have hv := hid (hstop.out (by rw [entryFault_stamp hn q hd hpe (by simp [stampBad, q2])]; decide))
                    have hv2 := hid (entryFault_stamp hn q hd hpe (by simp [stampBad, q2]))
                    clear hstep hstop hd hn q g1 g2 hpe hpi
                    go_wp2_with fail
                    refine (hex_Check_any _ _ s0).mono ?_
                    rintro e w1 ⟨rfl, b1⟩
                    obtain ⟨bc1, bf1⟩ := bcell b1
                    have hsz1 : wr.heap.size < w1.heap.size := by have := b1.size; simp at this; omega
                    go_wp2_with fail
                    go_quiet (fail)
                    go_wp2_with fail
                    refine (manifest_Check _ _ _ (hp.mono EPart.stable (below_drewN (b_call (b_alloc (Below.refl _ wr) _) b1) _))).mono ?_
                    rintro e w2 ⟨rfl, b2⟩
                    obtain ⟨bc2, bf2⟩ := bcell (b_call (below_drewN (Below.refl _ w1) _) b2)
                    have hsz2 : w1.heap.size ≤ w2.heap.size := b2.size
                    go_wp2_with fail
                    refine (pin_Check _ _).mono ?_
                    rintro e w3 ⟨rfl, rfl⟩
                    go_wp2_with fail
                    go_ret
                    exact ⟨ret_i (hv.out.trans hv2.out).symm, b_call (below_drewN (b_call (b_alloc hb _) b1) _) b2⟩
                  · have q2 : decide (1099511627776 < x.stamp) = false := by simp; omega
                    have hz2 := hid (hstep.out (entryFault_ok hn q hd hpe (by simp only [stampBad, q1, q2]; rfl)))
                    clear hstep hstop hd hn q g1 g2 hpe hpi
                    go_wp2_with fail
                    refine (hex_Check_any _ _ s0).mono ?_
                    rintro e w1 ⟨rfl, b1⟩
                    obtain ⟨bc1, bf1⟩ := bcell b1
                    have hsz1 : wr.heap.size < w1.heap.size := by have := b1.size; simp at this; omega
                    go_wp2_with fail
                    go_quiet (fail)
                    go_wp2_with fail
                    refine (manifest_Check _ _ _ (hp.mono EPart.stable (below_drewN (b_call (b_alloc (Below.refl _ wr) _) b1) _))).mono ?_
                    rintro e w2 ⟨rfl, b2⟩
                    obtain ⟨bc2, bf2⟩ := bcell (b_call (below_drewN (Below.refl _ w1) _) b2)
                    have hsz2 : w1.heap.size ≤ w2.heap.size := b2.size
                    go_wp2_with fail
                    refine (pin_Check _ _).mono ?_
                    rintro e w3 ⟨rfl, rfl⟩
                    go_wp2_with fail
                    go_roundw
                    case rel => exact ⟨k + 1, by omega, by go_num, hz2, b_call (below_drewN (b_call (b_alloc hb _) b1) _) b2⟩
                    case measure => simp [intOf]; omega
            · have t2 : (partsFault x.parts != 0) = true := by simp [hd]
              have hv := hid (hstop.out (by rw [entryFault_parts hn q hd]; exact hd))
              have hv2 := hid (entryFault_parts hn q hd)
              clear hstep hstop hd hn q
              go_wp2_with fail
              refine (hex_Check_any _ _ s0).mono ?_
              rintro e w1 ⟨rfl, b1⟩
              obtain ⟨bc1, bf1⟩ := bcell b1
              have hsz1 : wr.heap.size < w1.heap.size := by have := b1.size; simp at this; omega
              go_wp2_with fail
              go_quiet (fail)
              go_wp2_with fail
              refine (manifest_Check _ _ _ (hp.mono EPart.stable (below_drewN (b_call (b_alloc (Below.refl _ wr) _) b1) _))).mono ?_
              rintro e w2 ⟨rfl, b2⟩
              obtain ⟨bc2, bf2⟩ := bcell (b_call (below_drewN (Below.refl _ w1) _) b2)
              have hsz2 : w1.heap.size ≤ w2.heap.size := b2.size
              go_wp2_with fail
              go_ret
              exact ⟨ret_i (hv.out.trans hv2.out).symm, b_call (below_drewN (b_call (b_alloc hb _) b1) _) b2⟩
          · have d0 : decide (0 < k) = true := by simp; omega
            have hy : l[k - 1]? = some l[k - 1] := List.getElem?_eq_getElem (by omega)
            generalize l[k - 1] = y at hy
            obtain ⟨b2, off2, e2, hbb2, he2⟩ := hat0.out (k - 1) _ hy
            simp only [Option.some.injEq, Addr.mk.injEq, and_true] at e2
            obtain ⟨rfl, rfl⟩ := e2
            obtain ⟨pv2, p0, -⟩ := EEntry.stable _ _ _ _ _ hb hbb2 he2
            have hah : Hid (ahead l k = some y) := by
              obtain ⟨m, rfl⟩ : ∃ m, k = m + 1 := ⟨k - 1, by omega⟩
              exact hid hy
            have hpos : 0 < l.length := by omega
            have e1 : IntKind.i64.wrap ((k : Int) - 1) = (k : Int) - 1 := IntWalk.i64_in _ (by omega)
            have e3 : (0 : Int) ≤ (k : Int) - 1 := by omega
            have e4 : (1 : Int) ≤ (k : Int) := by omega
            have e5 : (k : Int) - 1 < (l.length : Int) := by omega
            have e6 : ((k : Int) - 1).toNat = k - 1 := by omega
            clear he2 hy hat0
            rcases sle_atoms x.key y.key with ⟨a1, a2⟩ | ⟨a1, a3, a2⟩ | ⟨a1, a3, a2⟩
            · have q : notAfter ((ahead l k).map (·.key)) x.key = true := by rw [hah.out]; simp [notAfter, a2]
              have hv := hid (hstop.out (by rw [entryFault_twice hn q]; decide))
              have hv2 := hid (entryFault_twice hn q)
              clear hstep hstop hn q a2
              go_wp2_with fail
              refine (hex_Check_any _ _ s0).mono ?_
              rintro e w1 ⟨rfl, b1⟩
              obtain ⟨bc1, bf1⟩ := bcell b1
              have hsz1 : wr.heap.size < w1.heap.size := by have := b1.size; simp at this; omega
              go_wp2_with fail
              go_quiet (fail)
              go_wp2_with fail
              go_ret
              exact ⟨ret_i (hv.out.trans hv2.out).symm, below_drewN (b_call (b_alloc hb _) b1) _⟩
            · have q : notAfter ((ahead l k).map (·.key)) x.key = true := by rw [hah.out]; simp [notAfter, a2]
              have hv := hid (hstop.out (by rw [entryFault_twice hn q]; decide))
              have hv2 := hid (entryFault_twice hn q)
              have a4 : (x.key.toList == y.key.toList) = true := by rw [a3]; simp
              replace a3 := hid a3
              clear hstep hstop hn q a2
              go_wp2_with fail
              refine (hex_Check_any _ _ s0).mono ?_
              rintro e w1 ⟨rfl, b1⟩
              obtain ⟨bc1, bf1⟩ := bcell b1
              have hsz1 : wr.heap.size < w1.heap.size := by have := b1.size; simp at this; omega
              go_wp2_with fail
              go_quiet (fail)
              go_wp2_with fail
              go_ret
              exact ⟨ret_i (hv.out.trans hv2.out).symm, below_drewN (b_call (b_alloc hb _) b1) _⟩
            · have q : notAfter ((ahead l k).map (·.key)) x.key = false := by rw [hah.out]; simp [notAfter, a2]
              clear a2
              by_cases hd : partsFault x.parts = 0
              · have t2 : (partsFault x.parts != 0) = false := by simp [hd]
                by_cases hpi : x.pins < 0 ∨ 5 < x.pins
                · have hpe := pinErr_bad hpi
                  have hv := hid (hstop.out (by rw [entryFault_pins hn q hd (by rw [hpe]; decide)]; decide))
                  have hv2 := hid (entryFault_pins hn q hd (by rw [hpe]; decide))
                  clear hstep hstop hd hn q
                  have t3 : (pinErr x.pins != 0) = true := by rw [hpe]; rfl
                  have hv3 : Hid (pinErr x.pins = 4) := hid hpe
                  clear hpe hpi
                  go_wp2_with fail
                  refine (hex_Check_any _ _ s0).mono ?_
                  rintro e w1 ⟨rfl, b1⟩
                  obtain ⟨bc1, bf1⟩ := bcell b1
                  have hsz1 : wr.heap.size < w1.heap.size := by have := b1.size; simp at this; omega
                  go_wp2_with fail
                  go_quiet (fail)
                  go_wp2_with fail
                  refine (manifest_Check _ _ _ (hp.mono EPart.stable (below_drewN (b_call (b_alloc (Below.refl _ wr) _) b1) _))).mono ?_
                  rintro e w2 ⟨rfl, b2⟩
                  obtain ⟨bc2, bf2⟩ := bcell (b_call (below_drewN (Below.refl _ w1) _) b2)
                  have hsz2 : w1.heap.size ≤ w2.heap.size := b2.size
                  go_wp2_with fail
                  refine (pin_Check _ _).mono ?_
                  rintro e w3 ⟨rfl, rfl⟩
                  go_wp2_with fail
                  go_ret
                  exact ⟨ret_i (hv3.out.trans (hv.out.trans hv2.out).symm), b_call (below_drewN (b_call (b_alloc hb _) b1) _) b2⟩
                · have hpe := pinErr_ok hpi
                  have r1 : decide (x.pins < 0) = false := by simp; omega
                  have r2 : decide (5 < x.pins) = false := by simp; omega
                  have t3 : (pinErr x.pins != 0) = false := by rw [hpe]; rfl
                  by_cases g1 : x.stamp < 0
                  · have q1 : decide (x.stamp < 0) = true := by simp; omega
                    have hv := hid (hstop.out (by rw [entryFault_stamp hn q hd hpe (by simp [stampBad, q1])]; decide))
                    have hv2 := hid (entryFault_stamp hn q hd hpe (by simp [stampBad, q1]))
                    clear hstep hstop hd hn q g1 hpe hpi
                    go_wp2_with fail
                    refine (hex_Check_any _ _ s0).mono ?_
                    rintro e w1 ⟨rfl, b1⟩
                    obtain ⟨bc1, bf1⟩ := bcell b1
                    have hsz1 : wr.heap.size < w1.heap.size := by have := b1.size; simp at this; omega
                    go_wp2_with fail
                    go_quiet (fail)
                    go_wp2_with fail
                    refine (manifest_Check _ _ _ (hp.mono EPart.stable (below_drewN (b_call (b_alloc (Below.refl _ wr) _) b1) _))).mono ?_
                    rintro e w2 ⟨rfl, b2⟩
                    obtain ⟨bc2, bf2⟩ := bcell (b_call (below_drewN (Below.refl _ w1) _) b2)
                    have hsz2 : w1.heap.size ≤ w2.heap.size := b2.size
                    go_wp2_with fail
                    refine (pin_Check _ _).mono ?_
                    rintro e w3 ⟨rfl, rfl⟩
                    go_wp2_with fail
                    go_ret
                    exact ⟨ret_i (hv.out.trans hv2.out).symm, b_call (below_drewN (b_call (b_alloc hb _) b1) _) b2⟩
                  · have q1 : decide (x.stamp < 0) = false := by simp; omega
                    by_cases g2 : 1099511627776 < x.stamp
                    · have q2 : decide (1099511627776 < x.stamp) = true := by simp; omega
                      have hv := hid (hstop.out (by rw [entryFault_stamp hn q hd hpe (by simp [stampBad, q2])]; decide))
                      have hv2 := hid (entryFault_stamp hn q hd hpe (by simp [stampBad, q2]))
                      clear hstep hstop hd hn q g1 g2 hpe hpi
                      go_wp2_with fail
                      refine (hex_Check_any _ _ s0).mono ?_
                      rintro e w1 ⟨rfl, b1⟩
                      obtain ⟨bc1, bf1⟩ := bcell b1
                      have hsz1 : wr.heap.size < w1.heap.size := by have := b1.size; simp at this; omega
                      go_wp2_with fail
                      go_quiet (fail)
                      go_wp2_with fail
                      refine (manifest_Check _ _ _ (hp.mono EPart.stable (below_drewN (b_call (b_alloc (Below.refl _ wr) _) b1) _))).mono ?_
                      rintro e w2 ⟨rfl, b2⟩
                      obtain ⟨bc2, bf2⟩ := bcell (b_call (below_drewN (Below.refl _ w1) _) b2)
                      have hsz2 : w1.heap.size ≤ w2.heap.size := b2.size
                      go_wp2_with fail
                      refine (pin_Check _ _).mono ?_
                      rintro e w3 ⟨rfl, rfl⟩
                      go_wp2_with fail
                      go_ret
                      exact ⟨ret_i (hv.out.trans hv2.out).symm, b_call (below_drewN (b_call (b_alloc hb _) b1) _) b2⟩
                    · have q2 : decide (1099511627776 < x.stamp) = false := by simp; omega
                      have hz2 := hid (hstep.out (entryFault_ok hn q hd hpe (by simp only [stampBad, q1, q2]; rfl)))
                      clear hstep hstop hd hn q g1 g2 hpe hpi
                      go_wp2_with fail
                      refine (hex_Check_any _ _ s0).mono ?_
                      rintro e w1 ⟨rfl, b1⟩
                      obtain ⟨bc1, bf1⟩ := bcell b1
                      have hsz1 : wr.heap.size < w1.heap.size := by have := b1.size; simp at this; omega
                      go_wp2_with fail
                      go_quiet (fail)
                      go_wp2_with fail
                      refine (manifest_Check _ _ _ (hp.mono EPart.stable (below_drewN (b_call (b_alloc (Below.refl _ wr) _) b1) _))).mono ?_
                      rintro e w2 ⟨rfl, b2⟩
                      obtain ⟨bc2, bf2⟩ := bcell (b_call (below_drewN (Below.refl _ w1) _) b2)
                      have hsz2 : w1.heap.size ≤ w2.heap.size := b2.size
                      go_wp2_with fail
                      refine (pin_Check _ _).mono ?_
                      rintro e w3 ⟨rfl, rfl⟩
                      go_wp2_with fail
                      go_roundw
                      case rel => exact ⟨k + 1, by omega, by go_num, hz2, b_call (below_drewN (b_call (b_alloc hb _) b1) _) b2⟩
                      case measure => simp [intOf]; omega
              · have t2 : (partsFault x.parts != 0) = true := by simp [hd]
                have hv := hid (hstop.out (by rw [entryFault_parts hn q hd]; exact hd))
                have hv2 := hid (entryFault_parts hn q hd)
                clear hstep hstop hd hn q
                go_wp2_with fail
                refine (hex_Check_any _ _ s0).mono ?_
                rintro e w1 ⟨rfl, b1⟩
                obtain ⟨bc1, bf1⟩ := bcell b1
                have hsz1 : wr.heap.size < w1.heap.size := by have := b1.size; simp at this; omega
                go_wp2_with fail
                go_quiet (fail)
                go_wp2_with fail
                refine (manifest_Check _ _ _ (hp.mono EPart.stable (below_drewN (b_call (b_alloc (Below.refl _ wr) _) b1) _))).mono ?_
                rintro e w2 ⟨rfl, b2⟩
                obtain ⟨bc2, bf2⟩ := bcell (b_call (below_drewN (Below.refl _ w1) _) b2)
                have hsz2 : w1.heap.size ≤ w2.heap.size := b2.size
                go_wp2_with fail
                go_ret
                exact ⟨ret_i (hv.out.trans hv2.out).symm, b_call (below_drewN (b_call (b_alloc hb _) b1) _) b2⟩
        · have t1 : (hexFault x.key != 0) = true := by simp [hn]
          have hv := hid (hstop.out (by rw [entryFault_key hn]; exact hn))
          have hv2 := hid (entryFault_key (p := ahead l k) hn)
          clear hstep hstop hn
          go_wp2_with fail
          refine (hex_Check_any _ _ s0).mono ?_
          rintro e w1 ⟨rfl, b1⟩
          obtain ⟨bc1, bf1⟩ := bcell b1
          have hsz1 : wr.heap.size < w1.heap.size := by have := b1.size; simp at this; omega
          go_wp2_with fail
          go_ret
          exact ⟨ret_i (hv.out.trans hv2.out).symm, b_call (b_alloc hb _) b1⟩
      · obtain rfl : k = l.length := by omega
        have hr0 := hid (fault_end hz.out)
        go_wp2_with fail
        go_ret
        exact ⟨ret_i hr0.out.symm, hb⟩

set_option maxRecDepth 100000 in
set_option maxHeartbeats 2000000 in
theorem ref_EntriesFault (v : Value) (l : List Entry) (w : World) (h : RE w v l) :
    Calls Tryz.prog 73 #[v] w fun e w' => e = .returned (.int .i64 (entriesFault l)) ∧ Below w.heap.size w w' := by
  obtain ⟨a, c, rfl, hlc, hcm, hre, hno, hat⟩ := h
  unfold maxLen at hcm
  clear hno
  by_cases h8 : 10 < l.length
  · have hr := hid (entriesFault_long h8)
    go_enter Tryz.func73, Tryz.ntmps73
    go_wp2_with fail
    go_ret
    exact ⟨ret_i hr.out.symm, Below.refl _ _⟩
  · have hr := hid (entriesFault_short h8)
    generalize entriesFault l = z at *
    go_enter Tryz.func73, Tryz.ntmps73
    go_wp2_with fail
    go_loopw [3, 6, 7, 13] (fun s _ _ i wr => ∃ (k : Nat) (la : ByteArray), k ≤ l.length ∧ i = .int .i64 k ∧ s = .string la ∧ Hid (la = lastOf ((ahead l k).map (·.key))) ∧ Hid (z = faultFrom entryFault (ahead l k) (l.drop k)) ∧ Below w.heap.size w wr) (fun _ _ _ i _ => l.length - (intOf i).toNat)
    case atStart => exact ⟨0, ⟨#[]⟩, by omega, rfl, rfl, hid rfl, hr, Below.refl _ _⟩
    case round =>
      obtain ⟨k, la, hk, rfl, rfl, hla, hz, hb⟩ := hrel
      by_cases hlt : k < l.length
      · have hx : l[k]? = some l[k] := List.getElem?_eq_getElem hlt
        generalize l[k] = x at hx
        obtain ⟨bb, off, rfl, hbb, he⟩ := hat k _ hx
        obtain ⟨pv, c0, c1, c2, c3, hp, s0, wf, wf2⟩ := EEntry.stable _ _ _ _ _ hb hbb he
        obtain ⟨pa, pc, rfl, -⟩ := id hp
        have hbw : bb < wr.heap.size := Nat.lt_of_lt_of_le hbb hb.size
        have hstep := hid (fun h0 => fault_step hz.out hx h0)
        have hstop := hid (fun h0 => fault_stop hz.out hx h0)
        have hat0 := hid hat
        clear hr hz hat he
        replace hx := hid hx
        by_cases hn : hexFault x.key = 0
        · have t1 : (hexFault x.key != 0) = false := by simp [hn]
          have hne := hexFault_pos hn
          rcases sle_atoms x.key la with ⟨a1, a2⟩ | ⟨a1, a3, a2⟩ | ⟨a1, a3, a2⟩
          · have q : notAfter ((ahead l k).map (·.key)) x.key = true := by rw [notAfter_last _ _ hne, ← hla.out, a2]; rfl
            have hv := hid (hstop.out (by rw [entryFault_twice hn q]; decide))
            have hv2 := hid (entryFault_twice hn q)
            clear hstep hstop hn q a2 hne
            go_wp2_with fail
            refine (ref_HexFault_any _ _ s0).mono ?_
            rintro e w1 ⟨rfl, b1⟩
            obtain ⟨bc1, bf1⟩ := bcell b1
            have hsz1 : wr.heap.size < w1.heap.size := by have := b1.size; simp at this; omega
            go_wp2_with fail
            go_ret
            exact ⟨ret_i (hv.out.trans hv2.out).symm, b_call (b_alloc hb _) b1⟩
          · have q : notAfter ((ahead l k).map (·.key)) x.key = true := by rw [notAfter_last _ _ hne, ← hla.out, a2]; rfl
            have hv := hid (hstop.out (by rw [entryFault_twice hn q]; decide))
            have hv2 := hid (entryFault_twice hn q)
            have a4 : (x.key.toList == la.toList) = true := by rw [a3]; simp
            replace a3 := hid a3
            clear hstep hstop hn q a2 hne
            go_wp2_with fail
            refine (ref_HexFault_any _ _ s0).mono ?_
            rintro e w1 ⟨rfl, b1⟩
            obtain ⟨bc1, bf1⟩ := bcell b1
            have hsz1 : wr.heap.size < w1.heap.size := by have := b1.size; simp at this; omega
            go_wp2_with fail
            go_ret
            exact ⟨ret_i (hv.out.trans hv2.out).symm, b_call (b_alloc hb _) b1⟩
          · have q : notAfter ((ahead l k).map (·.key)) x.key = false := by rw [notAfter_last _ _ hne, ← hla.out, a2]; rfl
            have hla2 : Hid (x.key = lastOf ((ahead l (k + 1)).map (·.key))) := by rw [ahead_succ, hx.out]; exact hid rfl
            clear a2 hne hx
            by_cases hd : partsFault x.parts = 0
            · have t2 : (partsFault x.parts != 0) = false := by simp [hd]
              by_cases hpi : x.pins < 0 ∨ 5 < x.pins
              · have hpe := pinErr_bad hpi
                have hv := hid (hstop.out (by rw [entryFault_pins hn q hd (by rw [hpe]; decide)]; decide))
                have hv2 := hid (entryFault_pins hn q hd (by rw [hpe]; decide))
                clear hstep hstop hd hn q
                clear hpe
                by_cases hpi0 : x.pins < 0
                · have r1 : decide (x.pins < 0) = true := by simp; omega
                  clear hpi
                  go_wp2_with fail
                  refine (ref_HexFault_any _ _ s0).mono ?_
                  rintro e w1 ⟨rfl, b1⟩
                  obtain ⟨bc1, bf1⟩ := bcell b1
                  have hsz1 : wr.heap.size < w1.heap.size := by have := b1.size; simp at this; omega
                  go_wp2_with fail
                  refine (ref_PartsFault _ _ _ (hp.mono EPart.stable (b_call (b_alloc (Below.refl _ wr) _) b1))).mono ?_
                  rintro e w2 ⟨rfl, b2⟩
                  obtain ⟨bc2, bf2⟩ := bcell b2
                  have hsz2 : w1.heap.size ≤ w2.heap.size := b2.size
                  go_wp2_with fail
                  go_ret
                  exact ⟨ret_i (hv.out.trans hv2.out).symm, b_call (b_call (b_alloc hb _) b1) b2⟩
                · have r1 : decide (x.pins < 0) = false := by simp; omega
                  have r2 : decide (5 < x.pins) = true := by simp; omega
                  clear hpi
                  go_wp2_with fail
                  refine (ref_HexFault_any _ _ s0).mono ?_
                  rintro e w1 ⟨rfl, b1⟩
                  obtain ⟨bc1, bf1⟩ := bcell b1
                  have hsz1 : wr.heap.size < w1.heap.size := by have := b1.size; simp at this; omega
                  go_wp2_with fail
                  refine (ref_PartsFault _ _ _ (hp.mono EPart.stable (b_call (b_alloc (Below.refl _ wr) _) b1))).mono ?_
                  rintro e w2 ⟨rfl, b2⟩
                  obtain ⟨bc2, bf2⟩ := bcell b2
                  have hsz2 : w1.heap.size ≤ w2.heap.size := b2.size
                  go_wp2_with fail
                  go_ret
                  exact ⟨ret_i (hv.out.trans hv2.out).symm, b_call (b_call (b_alloc hb _) b1) b2⟩
              · have hpe := pinErr_ok hpi
                have r1 : decide (x.pins < 0) = false := by simp; omega
                have r2 : decide (5 < x.pins) = false := by simp; omega
                have t3 : (pinErr x.pins != 0) = false := by rw [hpe]; rfl
                by_cases g1 : x.stamp < 0
                · have q1 : decide (x.stamp < 0) = true := by simp; omega
                  have hv := hid (hstop.out (by rw [entryFault_stamp hn q hd hpe (by simp [stampBad, q1])]; decide))
                  have hv2 := hid (entryFault_stamp hn q hd hpe (by simp [stampBad, q1]))
                  clear hstep hstop hd hn q g1 hpe hpi
                  go_wp2_with fail
                  refine (ref_HexFault_any _ _ s0).mono ?_
                  rintro e w1 ⟨rfl, b1⟩
                  obtain ⟨bc1, bf1⟩ := bcell b1
                  have hsz1 : wr.heap.size < w1.heap.size := by have := b1.size; simp at this; omega
                  go_wp2_with fail
                  refine (ref_PartsFault _ _ _ (hp.mono EPart.stable (b_call (b_alloc (Below.refl _ wr) _) b1))).mono ?_
                  rintro e w2 ⟨rfl, b2⟩
                  obtain ⟨bc2, bf2⟩ := bcell b2
                  have hsz2 : w1.heap.size ≤ w2.heap.size := b2.size
                  go_wp2_with fail
                  go_ret
                  exact ⟨ret_i (hv.out.trans hv2.out).symm, b_call (b_call (b_alloc hb _) b1) b2⟩
                · have q1 : decide (x.stamp < 0) = false := by simp; omega
                  by_cases g2 : 1099511627776 < x.stamp
                  · have q2 : decide (1099511627776 < x.stamp) = true := by simp; omega
                    have hv := hid (hstop.out (by rw [entryFault_stamp hn q hd hpe (by simp [stampBad, q2])]; decide))
                    have hv2 := hid (entryFault_stamp hn q hd hpe (by simp [stampBad, q2]))
                    clear hstep hstop hd hn q g1 g2 hpe hpi
                    go_wp2_with fail
                    refine (ref_HexFault_any _ _ s0).mono ?_
                    rintro e w1 ⟨rfl, b1⟩
                    obtain ⟨bc1, bf1⟩ := bcell b1
                    have hsz1 : wr.heap.size < w1.heap.size := by have := b1.size; simp at this; omega
                    go_wp2_with fail
                    refine (ref_PartsFault _ _ _ (hp.mono EPart.stable (b_call (b_alloc (Below.refl _ wr) _) b1))).mono ?_
                    rintro e w2 ⟨rfl, b2⟩
                    obtain ⟨bc2, bf2⟩ := bcell b2
                    have hsz2 : w1.heap.size ≤ w2.heap.size := b2.size
                    go_wp2_with fail
                    go_ret
                    exact ⟨ret_i (hv.out.trans hv2.out).symm, b_call (b_call (b_alloc hb _) b1) b2⟩
                  · have q2 : decide (1099511627776 < x.stamp) = false := by simp; omega
                    have hz2 := hid (hstep.out (entryFault_ok hn q hd hpe (by simp only [stampBad, q1, q2]; rfl)))
                    clear hstep hstop hd hn q g1 g2 hpe hpi
                    go_wp2_with fail
                    refine (ref_HexFault_any _ _ s0).mono ?_
                    rintro e w1 ⟨rfl, b1⟩
                    obtain ⟨bc1, bf1⟩ := bcell b1
                    have hsz1 : wr.heap.size < w1.heap.size := by have := b1.size; simp at this; omega
                    go_wp2_with fail
                    refine (ref_PartsFault _ _ _ (hp.mono EPart.stable (b_call (b_alloc (Below.refl _ wr) _) b1))).mono ?_
                    rintro e w2 ⟨rfl, b2⟩
                    obtain ⟨bc2, bf2⟩ := bcell b2
                    have hsz2 : w1.heap.size ≤ w2.heap.size := b2.size
                    go_wp2_with fail
                    go_roundw
                    case rel => exact ⟨k + 1, x.key, by omega, by go_num, rfl, hla2, hz2, b_call (b_call (b_alloc hb _) b1) b2⟩
                    case measure => simp [intOf]; omega
            · have t2 : (partsFault x.parts != 0) = true := by simp [hd]
              have hv := hid (hstop.out (by rw [entryFault_parts hn q hd]; exact hd))
              have hv2 := hid (entryFault_parts hn q hd)
              clear hstep hstop hd hn q
              go_wp2_with fail
              refine (ref_HexFault_any _ _ s0).mono ?_
              rintro e w1 ⟨rfl, b1⟩
              obtain ⟨bc1, bf1⟩ := bcell b1
              have hsz1 : wr.heap.size < w1.heap.size := by have := b1.size; simp at this; omega
              go_wp2_with fail
              refine (ref_PartsFault _ _ _ (hp.mono EPart.stable (b_call (b_alloc (Below.refl _ wr) _) b1))).mono ?_
              rintro e w2 ⟨rfl, b2⟩
              obtain ⟨bc2, bf2⟩ := bcell b2
              have hsz2 : w1.heap.size ≤ w2.heap.size := b2.size
              go_wp2_with fail
              go_ret
              exact ⟨ret_i (hv.out.trans hv2.out).symm, b_call (b_call (b_alloc hb _) b1) b2⟩
        · have t1 : (hexFault x.key != 0) = true := by simp [hn]
          have hv := hid (hstop.out (by rw [entryFault_key hn]; exact hn))
          have hv2 := hid (entryFault_key (p := ahead l k) hn)
          clear hstep hstop hn
          go_wp2_with fail
          refine (ref_HexFault_any _ _ s0).mono ?_
          rintro e w1 ⟨rfl, b1⟩
          obtain ⟨bc1, bf1⟩ := bcell b1
          have hsz1 : wr.heap.size < w1.heap.size := by have := b1.size; simp at this; omega
          go_wp2_with fail
          go_ret
          exact ⟨ret_i (hv.out.trans hv2.out).symm, b_call (b_alloc hb _) b1⟩
      · obtain rfl : k = l.length := by omega
        have hr0 := hid (fault_end hz.out)
        go_wp2_with fail
        go_ret
        exact ⟨ret_i hr0.out.symm, hb⟩
end Go.Proofs.YtpcnhldlfmdlhaaGreatDoor
