import Derived.Test.YtpkpgehiplhkpaaGreatTzHx
namespace Go.Proofs.YtpkpgehiplhkpaaGreat
open Go.RowKit
theorem qzmnf_3 {P : Prop} (h : P := by
 go_wp2_with fail
 go_ret
 exact ⟨ret_i hr.out.symm, rfl⟩) : P := h
theorem qzmnf_2 {P : Prop} (h : P := by
 clear hstep hstop hn q a2
 go_wp2_with fail
 refine (manifest_Name _ _ s0).mono ?_
 rintro e w1 ⟨rfl, rfl⟩
 go_wp2_with fail
 go_quiet (fail)
 go_wp2_with fail
 go_ret
 exact ⟨ret_i (hv.out.trans hv2.out).symm, below_drewN (b_alloc hb _) _⟩) : P := h
theorem qzmnf_1 {P : Prop} (h : P := by
 by_cases hd : hexFault x.digest = 0
 · have t2 : (hexFault x.digest != 0) = false := by simp [hd]
   by_cases g1 : x.size < 0
   · have q1 : decide (x.size < 0) = true := by simp; omega
     have hv := hid (hstop.out (by rw [partFault_size hn q hd (by simp [sizeBad, q1])]; decide))
     have hv2 := hid (partFault_size hn q hd (by simp [sizeBad, q1]))
     clear hstep hstop hd hn q g1
     go_wp2_with fail
     refine (manifest_Name _ _ s0).mono ?_
     rintro e w1 ⟨rfl, rfl⟩
     go_wp2_with fail
     go_quiet (fail)
     go_wp2_with fail
     refine (hex_Check_any _ _ s1).mono ?_
     rintro e w2 ⟨rfl, b2⟩
     obtain ⟨bc, bf⟩ := bcell b2
     go_wp2_with fail
     go_ret
     exact ⟨ret_i (hv.out.trans hv2.out).symm, b_call (below_drewN (b_alloc hb _) _) b2⟩
   · have q1 : decide (x.size < 0) = false := by simp; omega
     by_cases g2 : 300 < x.size
     · have q2 : decide (300 < x.size) = true := by simp; omega
       have hv := hid (hstop.out (by rw [partFault_size hn q hd (by simp [sizeBad, q2])]; decide))
       have hv2 := hid (partFault_size hn q hd (by simp [sizeBad, q2]))
       clear hstep hstop hd hn q g1 g2
       go_wp2_with fail
       refine (manifest_Name _ _ s0).mono ?_
       rintro e w1 ⟨rfl, rfl⟩
       go_wp2_with fail
       go_quiet (fail)
       go_wp2_with fail
       refine (hex_Check_any _ _ s1).mono ?_
       rintro e w2 ⟨rfl, b2⟩
       obtain ⟨bc, bf⟩ := bcell b2
       go_wp2_with fail
       go_ret
       exact ⟨ret_i (hv.out.trans hv2.out).symm, b_call (below_drewN (b_alloc hb _) _) b2⟩
     · have q2 : decide (300 < x.size) = false := by simp; omega
       have hz2 := hid (hstep.out (partFault_ok hn q hd (by simp only [sizeBad, q1, q2]; rfl)))
       clear hstep hstop hd hn q g1 g2
       go_wp2_with fail
       refine (manifest_Name _ _ s0).mono ?_
       rintro e w1 ⟨rfl, rfl⟩
       go_wp2_with fail
       go_quiet (fail)
       go_wp2_with fail
       refine (hex_Check_any _ _ s1).mono ?_
       rintro e w2 ⟨rfl, b2⟩
       obtain ⟨bc, bf⟩ := bcell b2
       go_wp2_with fail
       go_roundw
       case rel => exact ⟨k + 1, by omega, by go_num, hz2, b_call (below_drewN (b_alloc hb _) _) b2⟩
       case measure => simp [intOf]; omega
 · have t2 : (hexFault x.digest != 0) = true := by simp [hd]
   have hv := hid (hstop.out (by rw [partFault_digest hn q hd]; exact hd))
   have hv2 := hid (partFault_digest hn q hd)
   clear hstep hstop hd hn q
   go_wp2_with fail
   refine (manifest_Name _ _ s0).mono ?_
   rintro e w1 ⟨rfl, rfl⟩
   go_wp2_with fail
   go_quiet (fail)
   go_wp2_with fail
   refine (hex_Check_any _ _ s1).mono ?_
   rintro e w2 ⟨rfl, b2⟩
   go_wp2_with fail
   go_ret
   exact ⟨ret_i (hv.out.trans hv2.out).symm, b_call (below_drewN (b_alloc hb _) _) b2⟩) : P := h
def AllIn (lo : Nat) (s : ByteArray) : Prop := ∀ k (h : k < s.size), lo ≤ s[k].toNat ∧ s[k].toNat ≤ 126
instance (lo : Nat) (s : ByteArray) : Decidable (AllIn lo s) := Nat.decidableBallLT s.size (fun k h => lo ≤ s[k].toNat ∧ s[k].toNat ≤ 126)
def textFault (lo mx : Nat) (s : ByteArray) : Int := if s.size < 1 ∨ mx < s.size then 1 else if AllIn lo s then 0 else 3
theorem textFault_size {lo mx : Nat} {s : ByteArray} (h : s.size < 1 ∨ mx < s.size) : textFault lo mx s = 1 := by unfold textFault; rw [if_pos h]
theorem textFault_no {lo mx : Nat} {s : ByteArray} (h : ¬ (s.size < 1 ∨ mx < s.size)) (k : Nat) (hk : k < s.size) (hn : ¬ (lo ≤ s[k].toNat ∧ s[k].toNat ≤ 126)) : textFault lo mx s = 3 := by
 unfold textFault; rw [if_neg h, if_neg (fun ha => hn (ha k hk))]
theorem textFault_yes {lo mx : Nat} {s : ByteArray} (h : ¬ (s.size < 1 ∨ mx < s.size)) (ha : ∀ j (hj : j < s.size), j < s.size → lo ≤ s[j].toNat ∧ s[j].toNat ≤ 126) : textFault lo mx s = 0 := by
 have hA : AllIn lo s := fun k hk => ha k hk hk
 unfold textFault; rw [if_neg h, if_pos hA]
theorem textFault_zero {lo mx : Nat} {s : ByteArray} (h : textFault lo mx s = 0) : 1 ≤ s.size ∧ s.size ≤ mx ∧ AllIn lo s := by
 unfold textFault at h
 split at h
 · cases h
 split at h
 · exact ⟨by omega, by omega, by assumption⟩
 cases h
def nameFault (s : ByteArray) : Int := textFault 33 12 s
theorem upto_next {s : ByteArray} {P : UInt8 → Prop} {m : Nat} (h : ∀ j (hj : j < s.size), j < m → P s[j]) (hm : m < s.size) (hp : P s[m]) : ∀ j (hj : j < s.size), j < m + 1 → P s[j] := fun j hj hjm => by
 by_cases e : j = m
 · subst e; exact hp
 exact h j hj (by omega)
set_option maxRecDepth 100000 in
set_option maxHeartbeats 400000 in
theorem manifest_Name (s : ByteArray) (w : World) (hs : s.size ≤ 140737488351232) :
 Calls Tryz.prog 188 #[.string s] w fun e w' => e = .returned (.int .i64 (nameFault s)) ∧ w = w' := by
 by_cases h1 : s.size < 1 ∨ 12 < s.size
 · have hr := hid (show nameFault s = 1 from textFault_size h1)
   rcases h1 with h1 | h1
   · have q1 : decide ((s.size : Int) < 1) = true := by simp; omega
     go_enter Tryz.func188, Tryz.ntmps188
     exact qzmnf_3
   have q1 : decide ((s.size : Int) < 1) = false := by simp; omega
   have q2 : decide (12 < (s.size : Int)) = true := by simp; omega
   go_enter Tryz.func188, Tryz.ntmps188
   exact qzmnf_3
 have hr3 := hid (fun k hk hn => (textFault_no (lo := 33) h1 k hk hn : nameFault s = 3))
 have hr0 := hid (fun ha => (textFault_yes (lo := 33) h1 ha : nameFault s = 0))
 have hlo : 1 ≤ s.size := by omega
 have hhi : s.size ≤ 12 := by omega
 clear h1
 have q1 : decide ((s.size : Int) < 1) = false := by simp; omega
 have q2 : decide (12 < (s.size : Int)) = false := by simp; omega
 go_enter Tryz.func188, Tryz.ntmps188
 go_wp2_with fail
 go_loop [3, 14] (fun _ i => ∃ k : Nat, i = .int .i64 (k : Int) ∧ k ≤ s.size ∧ Hid (∀ j (hj : j < s.size), j < k → 33 ≤ s[j].toNat ∧ s[j].toNat ≤ 126)) (fun _ i => s.size - (intOf i).toNat)
 case atStart => exact ⟨0, rfl, by omega, hid (fun j _ hj => by omega)⟩
 obtain ⟨k, rfl, hk, hall⟩ := hrel
 by_cases hlt : k < s.size
 · by_cases g1 : 33 ≤ s[k].toNat
   · have d1 : decide ((s[k].toNat : Int) ≤ 32) = false := by simp; omega
     by_cases g2 : s[k].toNat ≤ 126
     · have hn := hid (upto_next (P := fun c => 33 ≤ c.toNat ∧ c.toNat ≤ 126) hall.out hlt ⟨g1, g2⟩)
       have d2 : decide (126 < (s[k].toNat : Int)) = false := by simp; omega
       go_wp2_with fail
       go_round
       case rel => exact ⟨k + 1, by go_num, by omega, hn⟩
       case measure => simp [intOf]; omega
     have hr := hid (hr3.out k hlt (fun g => g2 g.2))
     exact qzmnf_3
   have hr := hid (hr3.out k hlt (fun g => g1 g.1))
   exact qzmnf_3
 obtain rfl : k = s.size := by omega
 go_wp2_with fail
 go_ret
 exact ⟨ret_i (hr0.out hall.out).symm, rfl⟩
theorem toList_size (s : ByteArray) : s.toList.length = s.size := by
 obtain ⟨⟨l⟩⟩ := s
 simp [ByteArray.size]
theorem nonempty_of {s : ByteArray} (h : 1 ≤ s.size) : s.toList.isEmpty = false := by
 have := toList_size s
 cases hl : s.toList with
 | nil => rw [hl] at this; simp at this; omega
 | cons _ _ => rfl
def faultFrom {α : Type} (f : Option α → α → Int) : Option α → List α → Int
 | _, [] => 0
 | p, x :: l => if f p x = 0 then faultFrom f (some x) l else f p x
def ahead {α : Type} (l : List α) (k : Nat) : Option α := if k = 0 then none else l[k - 1]?
theorem ahead_zero {α : Type} (l : List α) : ahead l 0 = none := rfl
theorem ahead_succ {α : Type} (l : List α) (k : Nat) : ahead l (k + 1) = l[k]? := rfl
theorem fault_step {α : Type} {f : Option α → α → Int} {l : List α} {k : Nat} {x : α} {z : Int} (h : z = faultFrom f (ahead l k) (l.drop k)) (hx : l[k]? = some x) (h0 : f (ahead l k) x = 0) : z = faultFrom f (ahead l (k + 1)) (l.drop (k + 1)) := by
 obtain ⟨hk, rfl⟩ := List.getElem?_eq_some_iff.1 hx
 rw [h, List.drop_eq_getElem_cons hk, faultFrom, if_pos h0, ahead_succ, hx]
theorem fault_stop {α : Type} {f : Option α → α → Int} {l : List α} {k : Nat} {x : α} {z : Int} (h : z = faultFrom f (ahead l k) (l.drop k)) (hx : l[k]? = some x) (h0 : f (ahead l k) x ≠ 0) : z = f (ahead l k) x := by
 obtain ⟨hk, rfl⟩ := List.getElem?_eq_some_iff.1 hx
 rw [h, List.drop_eq_getElem_cons hk, faultFrom, if_neg h0]
theorem fault_end {α : Type} {f : Option α → α → Int} {l : List α} {z : Int} (h : z = faultFrom f (ahead l l.length) (l.drop l.length)) : z = 0 := by
 rw [h, List.drop_length]; rfl
theorem fault_all {α : Type} {f : Option α → α → Int} : ∀ {l : List α} {p : Option α}, faultFrom f p l = 0 → ∀ x ∈ l, ∃ q, f q x = 0
 | [], _, _, x, hx => by simp at hx
 | y :: l, p, h, x, hx => by
   rw [faultFrom] at h
   by_cases h0 : f p y = 0
   · rw [if_pos h0] at h
     rcases List.mem_cons.1 hx with rfl | hx
     · exact ⟨p, h0⟩
     exact fault_all h x hx
   rw [if_neg h0] at h; exact absurd h h0
def notAfter (p : Option ByteArray) (s : ByteArray) : Bool := match p with | none => false | some y => !slt y s
def sizeBad (n : Int) : Bool := decide (n < 0) || decide (300 < n)
def partFault (p : Option Part) (x : Part) : Int :=
 if nameFault x.name = 0 then (if notAfter (p.map (·.name)) x.name = true then 6 else if hexFault x.digest = 0 then (if sizeBad x.size = true then 4 else 0) else hexFault x.digest) else nameFault x.name
def partsFault (l : List Part) : Int := if 8 < l.length then 1 else faultFrom partFault none l
theorem partFault_name {p : Option Part} {x : Part} (h : nameFault x.name ≠ 0) : partFault p x = nameFault x.name := by unfold partFault; rw [if_neg h]
theorem partFault_twice {p : Option Part} {x : Part} (h : nameFault x.name = 0) (h2 : notAfter (p.map (·.name)) x.name = true) : partFault p x = 6 := by unfold partFault; rw [if_pos h, if_pos h2]
theorem partFault_digest {p : Option Part} {x : Part} (h : nameFault x.name = 0) (h2 : notAfter (p.map (·.name)) x.name = false) (h3 : hexFault x.digest ≠ 0) : partFault p x = hexFault x.digest := by unfold partFault; rw [if_pos h, if_neg (by rw [h2]; decide), if_neg h3]
theorem partFault_size {p : Option Part} {x : Part} (h : nameFault x.name = 0) (h2 : notAfter (p.map (·.name)) x.name = false) (h3 : hexFault x.digest = 0) (h4 : sizeBad x.size = true) : partFault p x = 4 := by unfold partFault; rw [if_pos h, if_neg (by rw [h2]; decide), if_pos h3, if_pos h4]
theorem partFault_ok {p : Option Part} {x : Part} (h : nameFault x.name = 0) (h2 : notAfter (p.map (·.name)) x.name = false) (h3 : hexFault x.digest = 0) (h4 : sizeBad x.size = false) : partFault p x = 0 := by unfold partFault; rw [if_pos h, if_neg (by rw [h2]; decide), if_pos h3, if_neg (by rw [h4]; decide)]
theorem partFault_zero {p : Option Part} {x : Part} (h : partFault p x = 0) : nameFault x.name = 0 ∧ notAfter (p.map (·.name)) x.name = false ∧ hexFault x.digest = 0 ∧ 0 ≤ x.size ∧ x.size ≤ 300 := by
 unfold partFault at h
 split at h
 · rename_i h1
   split at h
   · cases h
   rename_i h2
   split at h
   · rename_i h3
     split at h
     · cases h
     rename_i h4
     simp only [sizeBad, Bool.or_eq_true, decide_eq_true_eq] at h4
     exact ⟨h1, by simpa using h2, h3, by omega, by omega⟩
   rename_i h3; exact absurd h h3
 rename_i h1; exact absurd h h1
theorem partsFault_long {l : List Part} (h : 8 < l.length) : partsFault l = 1 := by unfold partsFault; rw [if_pos h]
theorem partsFault_short {l : List Part} (h : ¬ 8 < l.length) : partsFault l = faultFrom partFault (ahead l 0) (l.drop 0) := by unfold partsFault; rw [if_neg h]; rfl
theorem partsFault_zero {l : List Part} (h : partsFault l = 0) : l.length ≤ 8 ∧ ∀ x ∈ l, nameFault x.name = 0 ∧ hexFault x.digest = 0 ∧ 0 ≤ x.size ∧ x.size ≤ 300 := by
 unfold partsFault at h
 split at h
 · cases h
 refine ⟨by omega, fun x hx => ?_⟩
 obtain ⟨q, hq⟩ := fault_all h x hx
 obtain ⟨h1, _, h3, h4⟩ := partFault_zero hq
 exact ⟨h1, h3, h4⟩
theorem sle_atoms (a b : ByteArray) : (Op.bytesLess a.toList b.toList = true ∧ slt b a = false) ∨ (Op.bytesLess a.toList b.toList = false ∧ a = b ∧ slt b a = false) ∨ (Op.bytesLess a.toList b.toList = false ∧ (a.toList == b.toList) = false ∧ slt b a = true) := by
 cases h : Op.bytesLess a.toList b.toList with
 | true => exact .inl ⟨rfl, slt_asymm (a := a) (b := b) h⟩
 | false =>
   by_cases he : a = b
   · subst he; exact .inr (.inl ⟨rfl, rfl, slt_irrefl a⟩)
   refine .inr (.inr ⟨rfl, ?_, ?_⟩)
   · simp only [beq_eq_false_iff_ne, ne_eq]
     exact fun e => he (toList_inj e)
   cases hb : slt b a with
   | true => rfl
   | false => exact absurd (slt_tri (a := a) (b := b) h hb) he
set_option maxRecDepth 100000 in
set_option maxHeartbeats 1000000 in
theorem manifest_Check (v : Value) (l : List Part) (w : World) (h : RP w v l) :
 Calls Tryz.prog 114 #[v] w fun e w' => e = .returned (.int .i64 (partsFault l)) ∧ Below w.heap.size w w' := by
 have hR := h
 obtain ⟨a, c, rfl, hlc, hcm, hre, hno, hat⟩ := h
 unfold maxLen at hcm
 clear hno
 by_cases h8 : 8 < l.length
 · have hr := hid (partsFault_long h8)
   go_enter Tryz.func114, Tryz.ntmps114
   go_wp2_with fail
   go_ret
   exact ⟨ret_i hr.out.symm, Below.refl _ _⟩
 have hr := hid (partsFault_short h8)
 generalize partsFault l = z at *
 go_enter Tryz.func114, Tryz.ntmps114
 go_wp2_with fail
 go_loopw [3, 5, 6, 12] (fun _ _ _ i wr => ∃ (k : Nat), k ≤ l.length ∧ i = .int .i64 k ∧ Hid (z = faultFrom partFault (ahead l k) (l.drop k)) ∧ Below w.heap.size w wr) (fun _ _ _ i _ => l.length - (intOf i).toNat)
 case atStart => exact ⟨0, by omega, rfl, hr, Below.refl _ _⟩
 obtain ⟨k, hk, rfl, hz, hb⟩ := hrel
 by_cases hlt : k < l.length
 · have hx : l[k]? = some l[k] := List.getElem?_eq_getElem hlt
   generalize l[k] = x at hx
   obtain ⟨bb, off, rfl, hbb, he⟩ := hat k _ hx
   obtain ⟨c0, c1, c2, s0, s1, wf⟩ := EPart.stable _ _ _ _ _ hb hbb he
   have hbw : bb < wr.heap.size := Nat.lt_of_lt_of_le hbb hb.size
   have hstep := hid (fun h0 => fault_step hz.out hx h0)
   have hstop := hid (fun h0 => fault_stop hz.out hx h0)
   have hat0 := hid hat
   clear hr hz hat hR he
   by_cases hn : nameFault x.name = 0
   · have t1 : (nameFault x.name != 0) = false := by simp [hn]
     by_cases hk0 : k = 0
     · have d0 : decide (0 < k) = false := by simp; omega
       have q : notAfter ((ahead l k).map (·.name)) x.name = false := by rw [hk0, ahead_zero]; rfl
       replace hk0 := hid hk0
       exact qzmnf_1
     have d0 : decide (0 < k) = true := by simp; omega
     have hy : l[k - 1]? = some l[k - 1] := List.getElem?_eq_getElem (by omega)
     generalize l[k - 1] = y at hy
     obtain ⟨b2, off2, e2, hbb2, he2⟩ := hat0.out (k - 1) _ hy
     simp only [Option.some.injEq, Addr.mk.injEq, and_true] at e2
     obtain ⟨rfl, rfl⟩ := e2
     obtain ⟨p0, -⟩ := EPart.stable _ _ _ _ _ hb hbb2 he2
     have hah : Hid (ahead l k = some y) := by
      obtain ⟨m, rfl⟩ : ∃ m, k = m + 1 := ⟨k - 1, by omega⟩
      exact hid hy
     have hpos : 0 < l.length := by omega
     have e1 : IntKind.i64.wrap ((k : Int) - 1) = (k : Int) - 1 := IntWalk.i64_in _ (by omega)
     have e3 : (0 : Int) ≤ (k : Int) - 1 := by omega
     have e4 : (1 : Int) ≤ (k : Int) := by omega
     have e5 : (k : Int) - 1 < (l.length : Int) := by omega
     have e6 : ((k : Int) - 1).toNat = k - 1 := by omega
     clear he2 hy hat0
     rcases sle_atoms x.name y.name with ⟨a1, a2⟩ | ⟨a1, a3, a2⟩ | ⟨a1, a3, a2⟩
     · have q : notAfter ((ahead l k).map (·.name)) x.name = true := by rw [hah.out]; simp [notAfter, a2]
       have hv := hid (hstop.out (by rw [partFault_twice hn q]; decide))
       have hv2 := hid (partFault_twice hn q)
       exact qzmnf_2
     · have q : notAfter ((ahead l k).map (·.name)) x.name = true := by rw [hah.out]; simp [notAfter, a2]
       have hv := hid (hstop.out (by rw [partFault_twice hn q]; decide))
       have hv2 := hid (partFault_twice hn q)
       have a4 : (x.name.toList == y.name.toList) = true := by rw [a3]; simp
       replace a3 := hid a3
       exact qzmnf_2
     have q : notAfter ((ahead l k).map (·.name)) x.name = false := by rw [hah.out]; simp [notAfter, a2]
     clear a2
     exact qzmnf_1
   have t1 : (nameFault x.name != 0) = true := by simp [hn]
   have hv := hid (hstop.out (by rw [partFault_name hn]; exact hn))
   have hv2 := hid (partFault_name (p := ahead l k) hn)
   clear hstep hstop hn
   go_wp2_with fail
   refine (manifest_Name _ _ s0).mono ?_
   rintro e w1 ⟨rfl, rfl⟩
   go_wp2_with fail
   go_ret
   exact ⟨ret_i (hv.out.trans hv2.out).symm, b_alloc hb _⟩
 obtain rfl : k = l.length := by omega
 have hr0 := hid (fault_end hz.out)
 go_wp2_with fail
 go_ret
 exact ⟨ret_i hr0.out.symm, hb⟩
end Go.Proofs.YtpkpgehiplhkpaaGreat

namespace Go.Proofs.YtpkpgehiplhkpaaGreat
open Go.RowKit
def Rising {α : Type} (key : α → ByteArray) (l : List α) : Prop := l.Pairwise fun a b => slt (key a) (key b) = true
theorem notAfter_slt {y s : ByteArray} (h : notAfter (some y) s = false) : slt y s = true := by
 unfold notAfter at h
 simpa using h
theorem rising_of {α : Type} {f : Option α → α → Int} {key : α → ByteArray} (hf : ∀ p x, f p x = 0 → notAfter (p.map key) (key x) = false) :
 ∀ {l : List α} {p : Option α}, faultFrom f p l = 0 → Rising key l ∧ ∀ y, p = some y → ∀ x ∈ l, slt (key y) (key x) = true
 | [], p, _ => ⟨.nil, fun _ _ x hx => by simp at hx⟩
 | x :: l, p, h => by
   rw [faultFrom] at h
   by_cases h0 : f p x = 0
   · rw [if_pos h0] at h
     obtain ⟨h1, h2⟩ := rising_of hf h
     refine ⟨List.pairwise_cons.2 ⟨fun a ha => h2 x rfl a ha, h1⟩, fun y hy a ha => ?_⟩
     subst hy
     have h3 := notAfter_slt (hf _ _ h0)
     rcases List.mem_cons.1 ha with rfl | ha
     · exact h3
     exact slt_trans h3 (h2 x rfl a ha)
   rw [if_neg h0] at h; exact absurd h h0
def lowAt {α : Type} (key : α → ByteArray) (s : ByteArray) : List α → Nat
 | [] => 0
 | x :: l => if slt (key x) s = true then lowAt key s l + 1 else 0
theorem lowAt_le {α : Type} (key : α → ByteArray) (s : ByteArray) : ∀ l : List α, lowAt key s l ≤ l.length
 | [] => Nat.le_refl _
 | x :: l => by
   rw [lowAt]
   have := lowAt_le key s l
   split <;> simp <;> omega
theorem lowAt_before {α : Type} {key : α → ByteArray} {s : ByteArray} : ∀ {l : List α} {j : Nat} {x : α}, j < lowAt key s l → l[j]? = some x → slt (key x) s = true
 | [], j, x, h, _ => by simp [lowAt] at h
 | y :: l, j, x, h, hx => by
   rw [lowAt] at h
   split at h
   · rename_i h0
     cases j with
     | zero => simp only [List.getElem?_cons_zero, Option.some.injEq] at hx; subst hx; exact h0
     | succ j => exact lowAt_before (l := l) (Nat.lt_of_succ_lt_succ h) (by simpa using hx)
   omega
theorem lowAt_at {α : Type} {key : α → ByteArray} {s : ByteArray} : ∀ {l : List α} {x : α}, l[lowAt key s l]? = some x → slt (key x) s = false
 | [], x, h => by simp at h
 | y :: l, x, h => by
   rw [lowAt] at h
   split at h
   · exact lowAt_at (l := l) (by simpa using h)
   rename_i h0
   simp only [List.getElem?_cons_zero, Option.some.injEq] at h
   subst h
   simpa using h0
theorem lowAt_behind {α : Type} {key : α → ByteArray} {s : ByteArray} {l : List α} (hr : Rising key l) {j : Nat} {x : α} (h : lowAt key s l ≤ j) (hx : l[j]? = some x) : slt (key x) s = false := by
 obtain ⟨hj, hxe⟩ := List.getElem?_eq_some_iff.1 hx
 have h1 : l[lowAt key s l]? = some l[lowAt key s l] := List.getElem?_eq_getElem (by omega)
 have h2 := lowAt_at h1
 by_cases he : lowAt key s l = j
 · exact lowAt_at (by rw [he]; exact hx)
 have h3 : slt (key l[lowAt key s l]) (key l[j]) = true := List.pairwise_iff_getElem.1 hr _ _ (by omega) hj (by omega)
 rw [hxe] at h3
 cases h4 : slt (key x) s with
 | false => rfl
 | true => rw [slt_trans h3 h4] at h2; cases h2
theorem lowAt_next {α : Type} {key : α → ByteArray} {s : ByteArray} {l : List α} (hr : Rising key l) {j : Nat} {x : α} (h : lowAt key s l < j) (hx : l[j]? = some x) : slt s (key x) = true := by
 obtain ⟨hj, hxe⟩ := List.getElem?_eq_some_iff.1 hx
 have h1 : l[lowAt key s l]? = some l[lowAt key s l] := List.getElem?_eq_getElem (by omega)
 have h2 := lowAt_at h1
 have h3 : slt (key l[lowAt key s l]) (key l[j]) = true := List.pairwise_iff_getElem.1 hr _ _ (by omega) hj h
 rw [hxe] at h3
 cases h4 : slt s (key x) with
 | true => rfl
 | false =>
   cases h5 : slt (key x) s with
   | true => rw [lowAt_behind hr (Nat.le_of_lt h) hx] at h5; cases h5
   | false =>
     have := slt_tri h4 h5
     rw [← this] at h3
     rw [h3] at h2; cases h2
theorem lowAt_only {α : Type} {key : α → ByteArray} {s : ByteArray} {l : List α} {i : Nat} (hi : i ≤ l.length) (h1 : ∀ j x, j < i → l[j]? = some x → slt (key x) s = true) (h2 : ∀ x, l[i]? = some x → slt (key x) s = false) : lowAt key s l = i := by
 have hle := lowAt_le key s l
 rcases Nat.lt_trichotomy (lowAt key s l) i with h | h | h
 · have hx : l[lowAt key s l]? = some l[lowAt key s l] := List.getElem?_eq_getElem (by omega)
   have := h1 _ _ h hx
   rw [lowAt_at hx] at this; cases this
 · exact h
 have hx : l[i]? = some l[i] := List.getElem?_eq_getElem (by omega)
 have := lowAt_before h hx
 rw [h2 _ hx] at this; cases this
def hasKey {α : Type} (key : α → ByteArray) (s : ByteArray) (l : List α) : Bool := match l[lowAt key s l]? with | none => false | some x => (key x).toList == s.toList
theorem hasKey_some {α : Type} {key : α → ByteArray} {s : ByteArray} {l : List α} {x : α} (h : l[lowAt key s l]? = some x) : hasKey key s l = ((key x).toList == s.toList) := by unfold hasKey; rw [h]
theorem hasKey_none {α : Type} {key : α → ByteArray} {s : ByteArray} {l : List α} (h : l[lowAt key s l]? = none) : hasKey key s l = false := by unfold hasKey; rw [h]
theorem key_eq {a b : ByteArray} : (a.toList == b.toList) = true ↔ a = b := ⟨fun h => toList_inj (by simpa using h), fun h => by rw [h]; simp⟩
theorem hasKey_at {α : Type} {key : α → ByteArray} {s : ByteArray} {l : List α} (h : hasKey key s l = true) : ∃ x, l[lowAt key s l]? = some x ∧ key x = s := by
 unfold hasKey at h
 split at h
 · cases h
 rename_i x hx; exact ⟨x, hx, key_eq.1 h⟩
theorem rising_low {α : Type} {key : α → ByteArray} {s : ByteArray} {l : List α} (hr : Rising key l) {i j : Nat} {x y : α} (hx : l[i]? = some x) (hk : slt (key x) s = true) (hj : j ≤ i) (hy : l[j]? = some y) : slt (key y) s = true := by
 by_cases he : j = i
 · subst he; rw [hx] at hy; obtain rfl := Option.some.inj hy; exact hk
 obtain ⟨hi, rfl⟩ := List.getElem?_eq_some_iff.1 hx
 obtain ⟨hj2, rfl⟩ := List.getElem?_eq_some_iff.1 hy
 exact slt_trans (List.pairwise_iff_getElem.1 hr j i hj2 hi (by omega)) hk
theorem rising_high {α : Type} {key : α → ByteArray} {s : ByteArray} {l : List α} (hr : Rising key l) {i j : Nat} {x y : α} (hx : l[i]? = some x) (hk : slt (key x) s = false) (hj : i ≤ j) (hy : l[j]? = some y) : slt (key y) s = false := by
 cases h : slt (key y) s with
 | false => rfl
 | true => rw [rising_low hr hy h hj hx] at hk; cases hk
def cmpB (a b : ByteArray) : Int := if slt a b = true then -1 else if slt b a = true then 1 else 0
theorem cmpL_bytes : ∀ a b : List UInt8, Lib.compareBytes a b = if Op.bytesLess a b = true then -1 else if Op.bytesLess b a = true then 1 else 0
 | [], [] => by simp [Lib.compareBytes, Op.bytesLess]
 | [], _ :: _ => by simp [Lib.compareBytes, Op.bytesLess]
 | _ :: _, [] => by simp [Lib.compareBytes, Op.bytesLess]
 | a :: x, b :: y => by
   rw [Lib.compareBytes, cmpL_bytes x y]
   simp only [Op.bytesLess, Bool.or_eq_true, Bool.and_eq_true, beq_iff_eq, decide_eq_true_eq]
   by_cases h1 : a < b
   · simp [h1]
   by_cases h2 : b < a
   · have hne : a ≠ b := fun e => by subst e; exact h1 h2
     simp [h1, h2, hne]
   have he : a = b := by
    rw [UInt8.lt_iff_toNat_lt] at h1 h2
    apply UInt8.toNat_inj.1
    omega
   subst he
   simp [h1]
theorem cmpB_eq (a b : ByteArray) : Lib.compareBytes a.data.toList b.data.toList = cmpB a b := by
 rw [cmpL_bytes]
 unfold cmpB slt
 rw [toList_data, toList_data]
theorem cmpB_lt {a b : ByteArray} (h : slt a b = true) : cmpB a b = -1 := by unfold cmpB; rw [if_pos h]
theorem cmpB_ge {a b : ByteArray} (h : slt a b = false) : ∃ z, cmpB a b = z ∧ 0 ≤ z := by
 refine ⟨_, rfl, ?_⟩
 unfold cmpB
 rw [if_neg (by rw [h]; decide)]
 split <;> decide
theorem cmpB_zero (a b : ByteArray) : (cmpB a b == 0) = (a.toList == b.toList) := by
 unfold cmpB
 cases h : slt a b with
 | true =>
   rw [if_pos rfl]
   cases h2 : (a.toList == b.toList) with
   | false => rfl
   | true => rw [key_eq.1 h2, slt_irrefl] at h; cases h
 | false =>
   rw [if_neg (by decide)]
   cases h1 : slt b a with
   | true =>
     rw [if_pos rfl]
     cases h2 : (a.toList == b.toList) with
     | false => rfl
     | true => rw [key_eq.1 h2, slt_irrefl] at h1; cases h1
   | false =>
     rw [if_neg (by decide), slt_tri h h1]
     simp
end Go.Proofs.YtpkpgehiplhkpaaGreat
