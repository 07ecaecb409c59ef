import Derived.Test.YtpkpgehiplhkpaaGreatTzSrt
namespace Go.Proofs.YtpkpgehiplhkpaaGreat
open Go.RowKit
theorem qzact_1 {P : Prop} (h : P := by
 go_wp2_with fail
 go_ret
 exact ⟨ret_i hr.out.symm, b_alloc (Below.refl _ _) _⟩) : P := h
def actFault (s : ByteArray) (l : List Part) : Int := if textFault 32 60 s = 0 then partsFault l else textFault 32 60 s
theorem actFault_no {s : ByteArray} {l : List Part} (h : textFault 32 60 s ≠ 0) : actFault s l = textFault 32 60 s := by unfold actFault; rw [if_neg h]
theorem actFault_yes {s : ByteArray} {l : List Part} (h : textFault 32 60 s = 0) : actFault s l = partsFault l := by unfold actFault; rw [if_pos h]
theorem actFault_val {s : ByteArray} {l : List Part} {n : Int} (h : textFault 32 60 s = n) (hn : n ≠ 0) : actFault s l = n := by rw [actFault_no (by rw [h]; exact hn), h]
set_option maxRecDepth 100000 in
set_option maxHeartbeats 400000 in
theorem action_Check (s : ByteArray) (v : Value) (l : List Part) (w : World) (hs : s.size ≤ 140737488351232) (h : RP w v l) :
 Calls Tryz.prog 73 #[.agg #[.string s, v]] w fun e w' => e = .returned (.int .i64 (actFault s l)) ∧ Below w.heap.size w w' := by
 have hP := hid h
 obtain ⟨a, c, rfl, -⟩ := h
 by_cases h1 : s.size < 1 ∨ 60 < s.size
 · have hr := hid (actFault_val (l := l) (textFault_size (lo := 32) h1) (by decide))
   rcases h1 with h1 | h1
   · have q1 : decide ((s.size : Int) < 1) = true := by simp; omega
     go_enter Tryz.func73, Tryz.ntmps73
     exact qzact_1
   have q1 : decide ((s.size : Int) < 1) = false := by simp; omega
   have q2 : decide (60 < (s.size : Int)) = true := by simp; omega
   go_enter Tryz.func73, Tryz.ntmps73
   exact qzact_1
 have hr3 := hid (fun k hk hn => actFault_val (l := l) (textFault_no (lo := 32) h1 k hk hn) (by decide))
 have hr0 := hid (fun ha => actFault_yes (l := l) (textFault_yes (lo := 32) h1 ha))
 have hlo : 1 ≤ s.size := by omega
 have hhi : s.size ≤ 60 := by omega
 clear h1
 have q1 : decide ((s.size : Int) < 1) = false := by simp; omega
 have q2 : decide (60 < (s.size : Int)) = false := by simp; omega
 go_enter Tryz.func73, Tryz.ntmps73
 go_wp2_with fail
 go_loopw [3, 17] (fun _ i wr => ∃ k : Nat, i = .int .i64 (k : Int) ∧ k ≤ s.size ∧ wr = w.alloc (Obj.cells #[.string s, .slice a l.length c] 82) ∧ Hid (∀ j (hj : j < s.size), j < k → 32 ≤ s[j].toNat ∧ s[j].toNat ≤ 126)) (fun _ i _ => s.size - (intOf i).toNat)
 case atStart => exact ⟨0, rfl, by omega, rfl, hid (fun j _ hj => by omega)⟩
 obtain ⟨k, rfl, hk, rfl, hall⟩ := hrel
 by_cases hlt : k < s.size
 · by_cases g1 : 32 ≤ s[k].toNat
   · have d1 : decide ((s[k].toNat : Int) < 32) = false := by simp; omega
     by_cases g2 : s[k].toNat ≤ 126
     · have hn := hid (upto_next (P := fun c => 32 ≤ c.toNat ∧ c.toNat ≤ 126) hall.out hlt ⟨g1, g2⟩)
       have d2 : decide (126 < (s[k].toNat : Int)) = false := by simp; omega
       go_wp2_with fail
       go_roundw
       case rel => exact ⟨k + 1, by go_num, by omega, trivial, hn⟩
       case measure => simp [intOf]; omega
     have hr := hid (hr3.out k hlt (fun g => g2 g.2))
     have d2 : decide (126 < (s[k].toNat : Int)) = true := by simp; omega
     exact qzact_1
   have hr := hid (hr3.out k hlt (fun g => g1 g.1))
   have d1 : decide ((s[k].toNat : Int) < 32) = true := by simp; omega
   exact qzact_1
 obtain rfl : k = s.size := by omega
 have hz := hid (hr0.out hall.out)
 clear hall
 go_wp2_with fail
 ((with_reducible refine (manifest_Check _ l _ (hP.out.mono EPart.stable (b_alloc (Below.refl _ _) _))).mono ?_); rintro e w1 ⟨rfl, b1⟩)
 go_wp2_with fail
 go_ret
 exact ⟨ret_i hz.out.symm, b_call (b_alloc (Below.refl _ _) _) b1⟩
end Go.Proofs.YtpkpgehiplhkpaaGreat
