import Derived.Test.YtpkpgehiplhkpaaGreatTzActD
import Derived.Test.YtpkpgehiplhkpaaGreatTzOd
namespace Go.Proofs.YtpkpgehiplhkpaaGreat
open Go.RowKit
theorem qzplk_1 {P : Prop} (h : P := by omega) : P := h
theorem last_nat (n : Nat) (h : n < 128) : (lastB n).toNat = n := by unfold lastB; rw [UInt8.toNat_ofNat']; omega
theorem more_nat (n : Nat) : (moreB n).toNat = n % 128 + 128 := by unfold moreB; rw [UInt8.toNat_ofNat']; omega
theorem rn_small (n : Nat) (h : n < 128) (r : List UInt8) : readNum (varint n ++ r) = ((n : Int), r, 0) := by
 have hc := last_nat n h
 rw [varint_small n h]
 have h1 : (([lastB n] ++ r).takeWhile fun c => decide (128 ≤ c.toNat)) = [] := by
  rw [List.singleton_append, List.takeWhile_cons, hc]
  simp
  omega
 unfold readNum
 rw [h1]
 simp only [List.length_nil, List.singleton_append, List.getElem?_cons_zero, List.take_succ_cons, List.take_zero, List.drop_succ_cons, List.drop_zero, val, hc]
 rw [if_neg qzplk_1, if_neg qzplk_1]
 congr 1
 omega
theorem rn_two (n : Nat) (h : 128 ≤ n) (h2 : n < 16384) (r : List UInt8) : readNum (varint n ++ r) = ((n : Int), r, 0) := by
 have hm := more_nat n
 have hc := last_nat (n / 128) qzplk_1
 rw [varint_big n qzplk_1, varint_small (n / 128) qzplk_1]
 have h1 : ((moreB n :: [lastB (n / 128)] ++ r).takeWhile fun c => decide (128 ≤ c.toNat)) = [moreB n] := by
  rw [List.cons_append, List.singleton_append, List.takeWhile_cons, List.takeWhile_cons, hm, hc]
  rw [if_pos (by simp), if_neg (by simp; omega)]
 unfold readNum
 rw [h1]
 simp only [List.length_cons, List.length_nil, List.cons_append, List.nil_append, List.getElem?_cons_zero, List.getElem?_cons_succ, List.take_succ_cons, List.take_zero, List.drop_succ_cons, List.drop_zero, val, hm, hc, Nat.zero_add]
 rw [if_neg qzplk_1, if_neg qzplk_1]
 congr 1
 omega
theorem rn_all (n : Nat) (h : n < 16384) (r : List UInt8) : readNum (varint n ++ r) = ((n : Int), r, 0) := by
 by_cases h1 : n < 128
 · exact rn_small n h1 r
 exact rn_two n qzplk_1 h r
theorem rt_text (s : ByteArray) (h : s.size ≤ 2000) (r : List UInt8) : readText (textBytes s ++ r) = (s, r, 0) := by
 have hl : s.data.toList.length = s.size := by rw [Array.length_toList]; rfl
 unfold textBytes
 rw [List.append_assoc, readText_of (rn_all s.size qzplk_1 _)]
 rw [if_neg (by simp), if_neg qzplk_1, if_neg (by rw [List.length_append, hl]; omega)]
 rw [Int.toNat_natCast, List.take_append_of_le_length qzplk_1, List.take_of_length_le qzplk_1, List.drop_append_of_le_length qzplk_1, List.drop_of_length_le qzplk_1, List.nil_append]
 rfl
theorem hexv_inv (c : UInt8) (h : 0 ≤ hexv c) : hexDig (hexv c).toNat = c ∧ (hexv c).toNat < 16 := by
 have key : ∀ k : Fin 256, 0 ≤ hexv (UInt8.ofNat k.val) → hexDig (hexv (UInt8.ofNat k.val)).toNat = UInt8.ofNat k.val ∧ (hexv (UInt8.ofNat k.val)).toNat < 16 := by decide +kernel
 have h2 := key ⟨c.toNat, c.toNat_lt⟩
 rw [show UInt8.ofNat c.toNat = c by simp] at h2
 exact h2 h
theorem two_at (s : ByteArray) (k : Nat) (h : 2 * k + 1 < s.size) (hs : AllHex s) : hexTwo (hexAt s k) = [s.data.toList.getD (2 * k) 0, s.data.toList.getD (2 * k + 1) 0] := by
 have h0 := hs (2 * k) qzplk_1
 have h1 := hs (2 * k + 1) h
 have v := hexAt_val s k (2 * k) rfl h h0 h1
 obtain ⟨i0, l0⟩ := hexv_inv _ h0
 obtain ⟨i1, l1⟩ := hexv_inv _ h1
 unfold hexTwo
 have e0 : (hexAt s k).toNat / 16 = (hexv s[2 * k]).toNat := by omega
 have e1 : (hexAt s k).toNat % 16 = (hexv s[2 * k + 1]).toNat := by omega
 rw [e0, e1, i0, i1]
 have g : ∀ j (hj : j < s.size), s.data.toList.getD j 0 = s[j] := fun j hj => by
  rw [List.getD_eq_getElem?_getD, List.getElem?_eq_getElem (by rw [Array.length_toList]; exact hj)]
  rfl
 rw [g _ qzplk_1, g _ h]
theorem pairs_all (l : List UInt8) : ∀ n, 2 * n ≤ l.length → ((List.range n).flatMap fun k => [l.getD (2 * k) 0, l.getD (2 * k + 1) 0]) = l.take (2 * n)
 | 0, _ => rfl
 | n + 1, h => by
   rw [List.range_succ, List.flatMap_append, pairs_all l n qzplk_1, List.flatMap_singleton, show 2 * (n + 1) = 2 * n + 1 + 1 by omega, List.take_succ_eq_append_getElem (by omega : 2 * n + 1 < l.length), List.take_succ_eq_append_getElem (by omega : 2 * n < l.length), List.append_assoc]
   congr 1
   have g : ∀ j (hj : j < l.length), l.getD j 0 = l[j] := fun j hj => by rw [List.getD_eq_getElem?_getD, List.getElem?_eq_getElem hj]; rfl
   rw [g _ qzplk_1, g _ qzplk_1]
   rfl
theorem fm_congr {α β : Type} {f g : α → List β} : ∀ {l : List α}, (∀ x ∈ l, f x = g x) → l.flatMap f = l.flatMap g
 | [], _ => rfl
 | x :: l, h => by rw [List.flatMap_cons, List.flatMap_cons, h x (List.mem_cons_self ..), fm_congr fun y hy => h y (List.mem_cons_of_mem _ hy)]
theorem hex_back (s : ByteArray) (h : hexFault s = 0) : (hexRes s).length = 32 ∧ bstr (hexOf (hexRes s)) = s := by
 obtain ⟨h64, hs⟩ := hexFault_zero h
 obtain ⟨h1, h2, h3⟩ := hexRes_ok h
 refine ⟨h3, ?_⟩
 rw [h2]
 have hl : s.data.toList.length = 64 := by rw [Array.length_toList]; exact h64
 have e2 : hexOf (hexDec s 32) = s.data.toList := by
  unfold hexOf hexDec
  rw [List.flatMap_map]
  have e3 := pairs_all s.data.toList 32 qzplk_1
  rw [List.take_of_length_le qzplk_1] at e3
  rw [← e3]
  refine fm_congr fun k hk => ?_
  rw [List.mem_range] at hk
  exact two_at s k qzplk_1 hs
 rw [e2]
 rfl
def PartOk (x : Part) : Prop := nameFault x.name = 0 ∧ hexFault x.digest = 0 ∧ 0 ≤ x.size ∧ x.size ≤ 300
theorem part_back (x : Part) (h : PartOk x) (r : List UInt8) : readPart (encPart x ++ r) = (x, r, 0) := by
 obtain ⟨hn, hd, h0, h1⟩ := h
 have hs := (textFault_zero hn).2.1
 obtain ⟨q1, q2⟩ := hex_back x.digest hd
 have e1 : readText (encPart x ++ r) = (x.name, hexRes x.digest ++ (varint x.size.toNat ++ r), 0) := by
  unfold encPart
  rw [List.append_assoc, List.append_assoc, rt_text x.name qzplk_1]
 have e2 : (hexRes x.digest ++ (varint x.size.toNat ++ r)).drop 32 = varint x.size.toNat ++ r := by
  rw [List.drop_append_of_le_length qzplk_1, List.drop_of_length_le qzplk_1, List.nil_append]
 have e3 : (hexRes x.digest ++ (varint x.size.toNat ++ r)).take 32 = hexRes x.digest := by
  rw [List.take_append_of_le_length qzplk_1, List.take_of_length_le qzplk_1]
 have e4 := rn_all x.size.toNat qzplk_1 r
 unfold readPart
 rw [e1]
 simp only
 rw [if_neg (by simp), if_neg (by rw [List.length_append]; omega), e2, e4, e3, q2]
 simp only
 rw [if_neg (by simp), Int.toNat_of_nonneg h0]
theorem dec_next {n : Nat} {out : List Part} {l r : List UInt8} {x : Part} (h : readPart l = (x, r, 0)) : decRest (n + 1) out l = decRest n (out ++ [x]) r := by
 rw [decRest, h]
 exact if_neg (by simp)
theorem rest_back : ∀ (ps out : List Part) (r : List UInt8), (∀ x ∈ ps, PartOk x) → decRest ps.length out (ps.flatMap encPart ++ r) = decRest 0 (out ++ ps) r
 | [], out, r, _ => by rw [List.append_nil]; rfl
 | x :: ps, out, r, h => by
   rw [List.length_cons, List.flatMap_cons, List.append_assoc, dec_next (part_back x (h x (List.mem_cons_self ..)) _), rest_back ps (out ++ [x]) r (fun y hy => h y (List.mem_cons_of_mem _ hy)), List.append_assoc]
   rfl
theorem parts_back (l : List Part) (h : partsFault l = 0) : decParts (encParts l) = (l, 0) := by
 obtain ⟨h8, hall⟩ := partsFault_zero h
 have hlen := encParts_len h
 have e1 : (encParts l).take 3 = [65, 77, 49] := rfl
 have e2 : (encParts l).drop 3 = varint l.length ++ l.flatMap encPart := rfl
 have e3 := rn_all l.length qzplk_1 (l.flatMap encPart)
 have e5 := dec_num (n := (l.length : Int)) (r := l.flatMap encPart) (e := 0) qzplk_1 e1 (by rw [e2]; exact e3)
 rw [e5, if_neg (by simp), if_neg qzplk_1, Int.toNat_natCast]
 have e4 := rest_back l [] [] hall
 rw [List.append_nil, List.nil_append] at e4
 rw [e4]
 unfold decRest
 rw [if_neg (by simp), if_neg (by rw [h]; simp)]
theorem act_back (s : ByteArray) (l : List Part) (h : actFault s l = 0) : decAct (actRes s l) = (s, l, 0) := by
 obtain ⟨hs, hp⟩ := actFault_zero h
 have hlen := encParts_len hp
 have hres : actRes s l = actBytes s l := by unfold actRes; rw [if_pos h]
 have e1 : (actBytes s l).take 3 = [65, 65, 49] := rfl
 have e2 : (actBytes s l).drop 3 = textBytes s ++ encParts l := rfl
 have e3 := rt_text s qzplk_1 (encParts l)
 have ht := textBytes_len s qzplk_1
 have e4 : ¬ 2000 < (actBytes s l).length := by
  unfold actBytes
  rw [List.length_append, List.length_append]
  simp
  omega
 rw [hres]
 unfold decAct
 rw [if_neg e4, if_neg (not_not_intro e1), e2, e3]
 simp only
 rw [if_neg (by simp), parts_back l hp]
 simp only
 rw [if_neg (by simp), if_neg (by rw [h]; simp)]
end Go.Proofs.YtpkpgehiplhkpaaGreat
