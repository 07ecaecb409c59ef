import Derived.Test.YtpkpgehiplhkpaaGreatTzBas
import Derived.BigQuiet
import Derived.Lib.ConvBytes
import Derived.Deep.RegionWith
namespace Go.Proofs.YtpkpgehiplhkpaaGreat
open Go.RowKit
theorem qzwir_7 {P : Prop} (h : P := by omega) : P := h
theorem qzwir_6 {P : Prop} (h : P := by
 go_wp2_with fail
 go_ret3
 exact town_err hdef.out hb1) : P := h
theorem qzwir_5 {P : Prop} (h : P := by
 go_wp2_with fail
 go_ret3
 exact text_err hdef.out hb1) : P := h
theorem qzwir_4 {P : Prop} (h : P := by
 go_wp2_with fail
 go_ret3
 exact read_err hend.out (Below.refl _ _)) : P := h
theorem qzwir_3 {P : Prop} (h : P := by
 go_wp2_with fail
 go_region_with (go_at_call 56; refine (bytes_Clone _ _ _ (hfr.mono EU8.stable (Below.drew (Below.refl _ _)))).mono ?_; rintro e w2 ⟨v2, rfl, ho2, hb2⟩; have c2 := hc1.out _ (b_call (Below.drew (Below.refl _ _)) hb2))
 all_goals
  have hb3 := b_call hb1 (b_call (Below.drew (Below.refl _ _)) hb2)
  clear c1 c2 hb2
  go_wp2_with fail
  go_ret3
  exact text_ok hdef.out (reads_u8 ho2 hdl) hb3) : P := h
theorem qzwir_2 {P : Prop} (h : P := by
 replace hc1 := hid hc1
 go_wp2_with fail
 go_region_with (go_at_call 56; refine (bytes_Clone _ _ _ (hfr.mono EU8.stable (Below.drew (Below.refl _ _)))).mono ?_; rintro e w2 ⟨v2, rfl, ho2, hb2⟩; have c2 := hc1.out _ (b_call (Below.drew (Below.refl _ _)) hb2))
 all_goals
  have hb3 := b_call hb1 (b_call (Below.drew (Below.refl _ _)) hb2)
  clear c1 c2 hb2
  go_wp2_with fail
  go_ret3
  exact town_ok hdef.out (OS.mono ho2 hb1.size) hb3) : P := h
theorem qzwir_1 {P : Prop} (h : P := by
 rcases hdis with ⟨g1, g2⟩ | g1
 · have g1' : ((x.toNat : Int) == 0) = true := by simp [g1]
   have g2' : decide (0 < k) = false := by simp [g2]
   clear g1 g2
   go_wp2_with fail
   refine (bytes_Clone _ _ _ hfrom).mono ?_
   rintro e w1 ⟨v', rfl, hown, hb⟩
   clear hfrom
   go_wp2_with fail
   go_ret3
   exact read_ok hend.out hown hb
 · go_wp2_with fail
   refine (bytes_Clone _ _ _ hfrom).mono ?_
   rintro e w1 ⟨v', rfl, hown, hb⟩
   clear hfrom
   go_wp2_with fail
   go_ret3
   exact read_ok hend.out hown hb) : P := h
def lastB (n : Nat) : UInt8 := UInt8.ofNat n
def moreB (n : Nat) : UInt8 := UInt8.ofNat (n % 128 + 128)
def varint (n : Nat) : List UInt8 := if n < 128 then [lastB n] else moreB n :: varint (n / 128)
termination_by n
decreasing_by omega
theorem varint_small (n : Nat) (h : n < 128) : varint n = [lastB n] := by rw [varint, if_pos h]
theorem varint_big (n : Nat) (h : ¬ n < 128) : varint n = moreB n :: varint (n / 128) := by rw [varint, if_neg h]
theorem varint_len (n : Nat) (k : Nat) (h : n < 128 ^ (k + 1)) : (varint n).length ≤ k + 1 := by
 induction k generalizing n with
 | zero => rw [varint_small n (by simpa using h)]; simp
 | succ k ih =>
   by_cases hn : n < 128
   · rw [varint_small n hn]; simp
   rw [varint_big n hn, List.length_cons]
   have := ih (n / 128) (by rw [Nat.div_lt_iff_lt_mul (by decide)]; rw [Nat.pow_succ] at h; exact h)
   omega
theorem varint_len5 (n : Nat) (h : n < 4294967296) : (varint n).length ≤ 5 := varint_len n 4 qzwir_7
theorem varint_pos (n : Nat) : 0 < (varint n).length := by
 by_cases hn : n < 128
 · rw [varint_small n hn]; simp
 rw [varint_big n hn]; simp
theorem or128 (m : Nat) : bits .or .u8 ((m : Int) % 128) 128 = ((moreB m).toNat : Int) := by
 unfold moreB
 have h : m % 128 < 128 := Nat.mod_lt _ (by decide)
 have e : ((m : Int) % 128) = ((m % 128 : Nat) : Int) := by omega
 rw [e]
 have := u8_or_nat (m % 128) 128 qzwir_7 (by decide)
 rw [show ((128 : Nat) : Int) = 128 from rfl] at this
 rw [this]
 have key : ∀ x, x < 128 → x ||| 128 = (UInt8.ofNat (x + 128)).toNat := by decide
 rw [key _ h]
theorem info_u8 : (Tryz.prog.info? 5).map (fun i => (i.zero, i.size, i.bytes)) = some (some (.int .u8 0), 1, 1) := by kernel_rfl
set_option maxRecDepth 100000 in
set_option maxHeartbeats 1000000 in
theorem wire_Number (n : Int) (w : World) (h0 : 0 ≤ n) (h1 : n ≤ 4294967295) :
 Calls Tryz.prog 60 #[.int .i64 n] w fun e w' => ∃ v, e = .returned (.tuple #[v, .int .i64 0]) ∧ OS 5 1 cU8 w' w.heap.size v (varint n.toNat) ∧ Below w.heap.size w w' := by
 obtain ⟨i0, hi, hz0, hz1, hz2⟩ := info_parts info_u8
 have hl5 := varint_len5 n.toNat qzwir_7
 have hd : decide (n < 0) = false := by simp; omega
 have hd2 : decide (4294967295 < n) = false := by simp; omega
 go_enter Tryz.func60, Tryz.ntmps60
 go_wp2
 go_loopw [0, 4] (fun t v wr => ∃ (m : Nat) (d : List UInt8), t = .int .i64 m ∧ m ≤ 4294967295 ∧ OS 5 1 cU8 wr w.heap.size v d ∧ d ++ varint m = varint n.toNat ∧ Below w.heap.size w wr) (fun t _ _ => (intOf t).toNat)
 case atStart => exact ⟨n.toNat, [], by go_num, by omega, OS.nil, rfl, Below.refl _ _⟩
 obtain ⟨m, d, rfl, hm, hown, hd1, hb⟩ := hrel
 have hdl := hid (congrArg List.length hd1)
 have hd0 := hid hd1
 clear hd1
 by_cases hlt : 127 < m
 · have hv := hid (varint_big m qzwir_7)
   have ho := hid (or128 m)
   have hpos := varint_pos (m / 128)
   go_wp2_with (at_builtin; go_must (refine wpL_append flat_u8 rfl _ _ 41 rfl 5 i0 (.int .u8 0) Tryz.underlying41 hi hz0 hz1 hz2 rfl w.heap.size _ d rfl (OS.alloc hown _) _ [moreB m] rfl (one_u8 _ _ _ _ _ (by simp) ho.out) ?c1 ?c2 ?c3 ?_))
   case c1 => have := hdl.out; simp at this ⊢; omega
   case c2 => have := hdl.out; simp [maxLen] at this ⊢; omega
   case c3 => have := hb.size; simp; omega
   intro v' w1 hown1 hg
   have hb1 := b_grown (b_alloc hb _) hg (OS.block hown)
   have hd1 := hid (show (d ++ [moreB m]) ++ varint (m / 128) = varint n.toNat by rw [← hd0.out, hv.out]; simp)
   clear hg hown hb hd0 hv
   go_wp2
   go_roundw
   case rel => exact ⟨m / 128, _, by go_num, by omega, hown1, hd1.out, hb1⟩
   case measure => simp [intOf]; omega
 have hv := hid (varint_small m qzwir_7)
 have hm2 : Hid ((m : Int) = ((lastB m).toNat : Int)) := by show (m : Int) = _; unfold lastB; rw [UInt8.toNat_ofNat']; omega
 have hd1 := hid (show d ++ [lastB m] = varint n.toNat by rw [← hd0.out, hv.out])
 have hd2 := hid (congrArg List.length hd1.out)
 have hsz := hb.size
 clear hd0 hv
 go_wp2_with (at_builtin; go_must (refine wpL_append flat_u8 rfl (.tmp 22) (.tmp 25) 41 rfl 5 i0 (.int .u8 0) Tryz.underlying41 hi hz0 hz1 hz2 rfl w.heap.size _ d rfl (OS.alloc hown _) _ [lastB m] rfl (one_u8 _ _ _ _ _ (by simp) hm2.out) ?d1 ?d2 ?d3 ?_))
 case d1 => have := hd2.out; simp at this ⊢; omega
 case d2 => have := hd2.out; simp [maxLen] at this ⊢; omega
 case d3 => simp; omega
 intro v' w1 hown1 hg
 rw [hd1.out] at hown1
 have hb1 := b_grown (b_alloc hb _) hg (OS.block hown)
 clear hg hown hb
 go_wp2_with (at_builtin; go_must (refine wpL_append flat_u8 rfl (.const (.slice none 0 0)) (.tmp 26) 41 rfl 5 i0 (.int .u8 0) Tryz.underlying41 hi hz0 hz1 hz2 rfl w.heap.size _ [] rfl OS.nil _ (varint n.toNat) rfl (reads_u8 hown1 qzwir_7) ?e1 ?e2 ?e3 ?_))
 case e1 => simp; omega
 case e2 => simp [maxLen]; omega
 case e3 => exact hb1.size
 intro v2 w2 hown2 hg2
 have hb2 := b_grown hb1 hg2 (fun k hk => by simp [Value.ownBlock] at hk)
 clear hg2 hown1 hb1
 go_wp2
 go_ret2
 exact ⟨_, rfl, hown2, hb2⟩
def val : List UInt8 → Nat
 | [] => 0
 | c :: l => c.toNat % 128 + 128 * val l
def readNum (l : List UInt8) : Int × List UInt8 × Int :=
 if 5 ≤ (l.takeWhile fun c => decide (128 ≤ c.toNat)).length then (0, [], 3) else
 match l[(l.takeWhile fun c => decide (128 ≤ c.toNat)).length]? with
 | none => (0, [], 8)
 | some c => if 4294967295 < val (l.take ((l.takeWhile fun c => decide (128 ≤ c.toNat)).length + 1)) ∨ (c.toNat = 0 ∧ 0 < (l.takeWhile fun c => decide (128 ≤ c.toNat)).length) then (0, [], 3)
   else (val (l.take ((l.takeWhile fun c => decide (128 ≤ c.toNat)).length + 1)), l.drop ((l.takeWhile fun c => decide (128 ≤ c.toNat)).length + 1), 0)
theorem tw_len {α : Type} (p : α → Bool) : ∀ (l : List α) (k : Nat), (∀ j x, j < k → l[j]? = some x → p x = true) → k ≤ l.length → (∀ x, l[k]? = some x → p x = false) → (l.takeWhile p).length = k
 | [], k, _, h2, _ => by simp at h2; simp [h2]
 | a :: l, 0, _, _, h3 => by rw [List.takeWhile_cons, h3 a rfl]; rfl
 | a :: l, k + 1, h1, h2, h3 => by
   rw [List.takeWhile_cons, h1 0 a qzwir_7 rfl]
   simp only [if_true, List.length_cons]
   rw [tw_len p l k (fun j x hj hx => h1 (j + 1) x qzwir_7 (by simpa using hx)) (by simpa using h2) (fun x hx => h3 x (by simpa using hx))]
theorem tw_ge {α : Type} (p : α → Bool) : ∀ (l : List α) (k : Nat), (∀ j x, j < k → l[j]? = some x → p x = true) → k ≤ l.length → k ≤ (l.takeWhile p).length
 | [], k, _, h2 => by simpa using h2
 | a :: l, 0, _, _ => by omega
 | a :: l, k + 1, h1, h2 => by
   rw [List.takeWhile_cons, h1 0 a qzwir_7 rfl]
   simp only [if_true, List.length_cons]
   have := tw_ge p l k (fun j x hj hx => h1 (j + 1) x qzwir_7 (by simpa using hx)) (by simpa using h2)
   omega
def Goes (l : List UInt8) (k : Nat) : Prop := k ≤ l.length ∧ ∀ j x, j < k → l[j]? = some x → 128 ≤ x.toNat
theorem Goes.zero (l : List UInt8) : Goes l 0 := ⟨Nat.zero_le _, fun j x h => by omega⟩
theorem Goes.succ {l : List UInt8} {k : Nat} {c : UInt8} (h : Goes l k) (hc : l[k]? = some c) (h128 : 128 ≤ c.toNat) : Goes l (k + 1) := by
 refine ⟨(List.getElem?_eq_some_iff.1 hc).1, fun j x hj hx => ?_⟩
 by_cases hjk : j = k
 · subst hjk; rw [hc] at hx; cases hx; exact h128
 exact h.2 j x qzwir_7 hx
theorem rn_form5 {l : List UInt8} (h : Goes l 5) : readNum l = (0, [], 3) := by
 unfold readNum
 rw [if_pos (tw_ge _ l 5 (fun j x hj hx => by simpa using h.2 j x hj hx) h.1)]
theorem rn_short {l : List UInt8} {k : Nat} (h : Goes l k) (hk : k = l.length) (h5 : k < 5) : readNum l = (0, [], 8) := by
 have e := tw_len (fun c : UInt8 => decide (128 ≤ c.toNat)) l k (fun j x hj hx => by simpa using h.2 j x hj hx) h.1 (fun x hx => by rw [hk] at hx; simp at hx)
 unfold readNum
 rw [e, if_neg qzwir_7, hk]
 simp
theorem rn_at {l : List UInt8} {k : Nat} {c : UInt8} (h : Goes l k) (h5 : k < 5) (hc : l[k]? = some c) (h128 : c.toNat < 128) :
 readNum l = if 4294967295 < val (l.take (k + 1)) ∨ (c.toNat = 0 ∧ 0 < k) then (0, [], 3) else ((val (l.take (k + 1)) : Int), l.drop (k + 1), 0) := by
 have e := tw_len (fun c : UInt8 => decide (128 ≤ c.toNat)) l k (fun j x hj hx => by simpa using h.2 j x hj hx) h.1 (fun x hx => by rw [hc] at hx; cases hx; simpa using h128)
 unfold readNum
 rw [e, if_neg qzwir_7, hc]
theorem val_snoc : ∀ (l : List UInt8) (c : UInt8), val (l ++ [c]) = val l + c.toNat % 128 * 128 ^ l.length
 | [], c => by simp [val]
 | a :: l, c => by
   rw [List.cons_append, val, val, val_snoc l c, List.length_cons, Nat.pow_succ, Nat.mul_add, ← Nat.add_assoc]
   congr 1
   rw [Nat.mul_comm 128, Nat.mul_assoc]
theorem val_lt : ∀ l : List UInt8, val l < 128 ^ l.length
 | [] => by simp [val]
 | a :: l => by
   rw [val, List.length_cons, Nat.pow_succ]
   have h1 := val_lt l
   have h2 : a.toNat % 128 < 128 := Nat.mod_lt _ (by decide)
   omega
theorem val_take {l : List UInt8} {k : Nat} {c : UInt8} (hc : l[k]? = some c) : val (l.take (k + 1)) = val (l.take k) + c.toNat % 128 * 128 ^ k := by
 have hk := (List.getElem?_eq_some_iff.1 hc).1
 rw [List.take_add_one, hc]
 simp only [Option.toList_some]
 rw [val_snoc, List.length_take, Nat.min_eq_left qzwir_7]
theorem os_empty (w : World) (t : TypeId) (B k : Nat) (hk : k = w.heap.size) (hB : B ≤ w.heap.size) : OS t 1 cU8 (w.alloc (.cells #[] t)) B (.slice (some ⟨k, 0, none⟩) 0 0) [] := by
 subst hk
 exact World.ownsRow_lit w #[] 0 hB (by simp [maxLen]) rfl
set_option maxRecDepth 100000 in
set_option maxHeartbeats 400000 in
theorem bytes_Clone (v : Value) (l : List UInt8) (w : World) (h : RB w v l) :
 Calls Tryz.prog 56 #[v] w fun e w' => ∃ v', e = .returned v' ∧ OS 5 1 cU8 w' w.heap.size v' l ∧ Below w.heap.size w w' := by
 obtain ⟨i0, hi, hz0, hz1, hz2⟩ := info_parts info_u8
 have hh := h
 obtain ⟨a, c, rfl, hlc, hcm, hre, hno, hat⟩ := hh
 cases a with
 | none =>
   have hc0 := hno rfl
   subst hc0
   have hl0 : l = [] := List.eq_nil_of_length_eq_zero qzwir_7
   subst hl0
   have he := fun w => Lib.run_eql_slice_nil (P := Tryz.prog) w 41 5 none 0 0 0 0 Tryz.underlying41
   go_enter Tryz.func56, Tryz.ntmps56
   go_wp2
   go_ret
   exact ⟨_, rfl, OS.nil, Below.refl _ _⟩
 | some ad =>
   have he := fun w => Lib.run_eql_slice_nil (P := Tryz.prog) w 41 5 (some ad) l.length c 0 0 Tryz.underlying41
   clear hat
   go_enter Tryz.func56, Tryz.ntmps56
   go_wp2_with (at_builtin; go_must (refine wpL_append flat_u8 rfl (.tmp 5) (.tmp 6) 41 rfl 5 i0 (.int .u8 0) Tryz.underlying41 hi hz0 hz1 hz2 rfl w.heap.size _ [] rfl (os_empty _ _ _ _ (by simp) (by simp)) _ l rfl (h.mono EU8.stable (b_alloc (Below.refl _ _) _)) ?c1 ?c2 ?c3 ?_))
   case c1 => simp; omega
   case c2 => simp [maxLen]; omega
   case c3 => simp
   intro v' w1 hown hg
   have hb := b_grown (b_alloc (Below.refl _ w) (.cells #[] 5)) hg (fun k hk => by simp [Value.ownBlock] at hk; omega)
   clear hg
   go_wp2
   go_ret
   exact ⟨_, rfl, hown, hb⟩
theorem rn_or (n c k : Nat) (h : n < 128 ^ k) : n ||| (c % 128 * 128 ^ k) = n + c % 128 * 128 ^ k := by
 have e : c % 128 * 128 ^ k = (c % 128) <<< (7 * k) := by
  rw [Nat.shiftLeft_eq, Nat.pow_mul]
 rw [e, Nat.or_comm, ← Nat.shiftLeft_add_eq_or_of_lt (by rw [Nat.pow_mul]; exact h), Nat.add_comm]
theorem or_i64 (a b : Nat) (ha : a < 9223372036854775808) (hb : b < 9223372036854775808) : bits .or .i64 (a : Int) (b : Int) = ((a ||| b : Nat) : Int) :=
 (bits_nat .i64 63 (by decide) (fun m a b => by rw [IntKind.wrap_i64]; omega) a b ha hb).2
theorem rn_step {l : List UInt8} {k : Nat} {x : UInt8} (hk : k < 5) (hx : l[k]? = some x) : bits .or .i64 ((val (l.take k) : Nat) : Int) (wrap64 ((x.toNat : Int) % 128 * 2 ^ (7 * k))) = ((val (l.take (k + 1)) : Nat) : Int) := by
 have hl := (List.getElem?_eq_some_iff.1 hx).1
 have hv := val_lt (l.take k)
 rw [List.length_take, Nat.min_eq_left qzwir_7] at hv
 have hp : (128 : Nat) ^ k ≤ 128 ^ 4 := Nat.pow_le_pow_right (by decide) qzwir_7
 have hm : x.toNat % 128 < 128 := Nat.mod_lt _ (by decide)
 have hmul : x.toNat % 128 * 128 ^ k ≤ 127 * 128 ^ 4 := Nat.mul_le_mul qzwir_7 hp
 have e : ((x.toNat : Int) % 128 * 2 ^ (7 * k)) = ((x.toNat % 128 * 128 ^ k : Nat) : Int) := by
  rw [Int.natCast_mul, Int.natCast_pow, Int.pow_mul]; rfl
 rw [e, IntWalk.wrap64_in _ ⟨by omega, by omega⟩, or_i64 _ _ qzwir_7 qzwir_7, rn_or _ _ _ hv, val_take hx]
theorem bstr_inj {a b : List UInt8} (h : bstr a = bstr b) : a = b := by
 have := congrArg (fun s : ByteArray => s.data.toList) h
 simpa [bstr] using this
theorem toList_inj' {a b : ByteArray} (h : a.toList = b.toList) : a = b := by
 obtain ⟨⟨l⟩⟩ := a
 obtain ⟨⟨m⟩⟩ := b
 simp at h
 rw [h]
def ReadPost (l : List UInt8) (w : World) (e : Ending) (w' : World) : Prop :=
 ∃ v, e = .returned (.tuple #[.int .i64 (readNum l).1, v, .int .i64 (readNum l).2.2]) ∧ OS 5 1 cU8 w' w.heap.size v (readNum l).2.1 ∧ Below w.heap.size w w'
theorem read_err {l : List UInt8} {w w' : World} {n : Int} (h : readNum l = (0, [], n)) (hb : Below w.heap.size w w') : ReadPost l w (.returned (.tuple #[.int .i64 0, .slice none 0 0, .int .i64 n])) w' := by
 refine ⟨.slice none 0 0, by rw [h], ?_, hb⟩
 rw [h]
 exact OS.nil
theorem read_ok {l r : List UInt8} {w w' : World} {n : Int} {v : Value} (h : readNum l = (n, r, 0)) (ho : OS 5 1 cU8 w' w.heap.size v r) (hb : Below w.heap.size w w') : ReadPost l w (.returned (.tuple #[.int .i64 n, v, .int .i64 0])) w' := by
 refine ⟨v, by rw [h], ?_, hb⟩
 rw [h]
 exact ho
set_option maxRecDepth 100000 in
set_option maxHeartbeats 2000000 in
theorem wire_ReadNumber (v : Value) (l : List UInt8) (w : World) (h : RB w v l) :
 Calls Tryz.prog 65 #[v] w (ReadPost l w) := by
 have hh := h
 obtain ⟨a, c, rfl, hlc, hcm, hre, hno, hat⟩ := hh
 unfold maxLen at hcm
 go_enter Tryz.func65, Tryz.ntmps65
 go_wp2
 go_loopw [5, 10] (fun t i wr => ∃ k : Nat, i = .int .i64 k ∧ k < 5 ∧ Goes l k ∧ t = .int .i64 ((val (l.take k) : Nat) : Int) ∧ wr = w) (fun _ i _ => 5 - (intOf i).toNat)
 case atStart => exact ⟨0, rfl, by omega, Goes.zero l, by simp [val], rfl⟩
 obtain ⟨k, rfl, hk5, hgo, rfl, rfl⟩ := hrel
 have hkl := hgo.1
 by_cases hlt : k < l.length
 · have hx : l[k]? = some l[k] := List.getElem?_eq_getElem hlt
   generalize l[k] = x at hx
   obtain ⟨b, off, rfl, hbb, he⟩ := hat k _ hx
   unfold EU8 at he
   rw [Nat.mul_one] at he
   have hxl : (x.toNat : Int) < 256 := by have := x.toNat_lt; omega
   have hor := rn_step hk5 hx
   generalize hV : val (l.take (k + 1)) = V at hor
   replace hV := hid hV
   by_cases h128 : 128 ≤ x.toNat
   · have hgs := hgo.succ hx h128
     by_cases hk4 : k = 4
     · subst hk4
       have hend := hid (rn_form5 hgs)
       clear hat hgo hgs hx
       exact qzwir_4
     have hk4' : ((k : Int) == 4) = false := by simp; omega
     replace hgs := hid hgs
     clear hat hgo hx
     go_wp2_with fail
     go_roundw
     case rel => exact ⟨k + 1, by go_num, by omega, hgs.out, by rw [hV.out], by trivial⟩
     case measure => simp [intOf]; omega
   have hat0 := hid (rn_at hgo hk5 hx qzwir_7)
   by_cases hbig : 4294967295 < V
   · have hend := hid (show readNum l = (0, [], 3) by rw [hat0.out, hV.out, if_pos (.inl hbig)])
     have hd : decide (4294967295 < (V : Int)) = true := by simp; omega
     clear hat hgo hx hat0 hV
     exact qzwir_4
   have hd : decide (4294967295 < (V : Int)) = false := by simp; omega
   by_cases hbad : x.toNat = 0 ∧ 0 < k
   · obtain ⟨hx0, hk0⟩ := hbad
     have hend := hid (show readNum l = (0, [], 3) by rw [hat0.out, if_pos (.inr ⟨hx0, hk0⟩)])
     have hx0' : ((x.toNat : Int) == 0) = true := by simp [hx0]
     have hk0' : decide (0 < (k : Int)) = true := by simp; omega
     clear hat hgo hx hat0 hV hx0
     exact qzwir_4
   have hend := hid (show readNum l = ((V : Int), l.drop (k + 1), 0) by rw [hat0.out, hV.out, if_neg qzwir_7])
   have hfrom := RS.from h (k + 1) hlt
   have hdis : (x.toNat = 0 ∧ k = 0) ∨ ((x.toNat : Int) == 0) = false := by
    by_cases hx0 : x.toNat = 0
    · left; omega
    right; simp; omega
   clear hat hgo hx hat0 hV hbad h
   by_cases hcc : c = k + 1
   · subst hcc
     rw [if_pos rfl, Nat.sub_self, show l.length - (k + 1) = 0 by omega] at hfrom
     exact qzwir_1
   rw [if_neg hcc] at hfrom
   simp only [Option.map_some, Addr.add, Nat.mul_one, Nat.add_one_ne_zero, if_false] at hfrom
   exact qzwir_1
 have hend := hid (rn_short hgo qzwir_7 hk5)
 clear hat hgo
 exact qzwir_4
theorem wpL_append_str {P : Program} {w : World} {ops : Array Oper} {rest : List Oper} {o : Oper} {a : Act} {Q : Exit → Act → World → Prop}
 (hgd : o.guard = none) (x y : Operand) (t u : TypeId) (ho : o.op = .call { callee := .builtin .append, args := #[x, y], argTypes := #[t, u] })
 (e : TypeId) (i : TypeInfo) (ht : P.underlying t = some (.slice e)) (hu : P.underlying u = some .string) (hi : P.info? e = some i) (hz : i.zero = some (.int .u8 0)) (hsize : i.size = 1) (hby : i.bytes = 1)
 (B : Nat) (v : Value) (l : List UInt8) (hs : a.eval x = v) (hown : OS e 1 cU8 w B v l) (s : ByteArray) (hx : a.eval y = .string s)
 (hlen : l.length + s.size ≤ 140737488355328) (hmax : l.length + s.size ≤ maxLen) (hB : B ≤ w.heap.size)
 (h : ∀ v' w', OS e 1 cU8 w' B v' (l ++ s.data.toList) → w.grownBy w' v.ownBlock → wpList P ops Q rest (a.put o.dst v') w') : wpList P ops Q (o :: rest) a w := by
 refine Lib.wpList_append_own_string w hgd x y t u ho B e i ht hu hi hz hsize hby v l.length _ hs hown s hx hmax hlen hB ?_
 intro v' w' h1 h2 _
 refine h v' w' ?_ h2
 unfold OS
 rw [List.length_append, List.flatMap_append]
 have e1 : s.data.toList.length = s.size := by rw [Array.length_toList]; rfl
 have e2 : s.data.toList.flatMap cU8 = Lib.strCells s := by
  rw [flat_cU8]; unfold Lib.strCells; rw [List.map_map]; rfl
 rw [e1, e2]
 exact h1
def textBytes (s : ByteArray) : List UInt8 := varint s.size ++ s.data.toList
theorem textBytes_len (s : ByteArray) (h : s.size < 4294967296) : (textBytes s).length ≤ s.size + 5 := by
 unfold textBytes
 have := varint_len5 s.size h
 have e1 : s.data.toList.length = s.size := by rw [Array.length_toList]; rfl
 rw [List.length_append, e1]
 omega
set_option maxRecDepth 100000 in
set_option maxHeartbeats 1000000 in
theorem wire_Text (s : ByteArray) (w : World) (h : s.size ≤ 2000) :
 Calls Tryz.prog 62 #[.string s] w fun e w' => ∃ v, e = .returned (.tuple #[v, .int .i64 0]) ∧ OS 5 1 cU8 w' w.heap.size v (textBytes s) ∧ Below w.heap.size w w' := by
 obtain ⟨i0, hi, hz0, hz1, hz2⟩ := info_parts info_u8
 have hv5 := varint_len5 s.size qzwir_7
 have htl := textBytes_len s qzwir_7
 go_enter Tryz.func62, Tryz.ntmps62
 go_wp2_with fail
 refine (wire_Number _ _ qzwir_7 qzwir_7).mono ?_
 rintro e w1 ⟨v1, rfl, hown, hb1⟩
 rw [Int.toNat_natCast] at hown
 have hs1 := hb1.size
 go_wp2_with (at_builtin; go_must (refine wpL_append_str rfl (.tmp 15) (.tmp 16) 41 9 rfl 5 i0 Tryz.underlying41 Tryz.underlying9 hi hz0 hz1 hz2 w.heap.size _ (varint s.size) rfl hown s rfl ?c1 ?c2 ?c3 ?_))
 case c1 => omega
 case c2 => simp [maxLen]; omega
 case c3 => omega
 intro v2 w2 hown2 hg
 have hb2 := b_grown hb1 hg (OS.block hown)
 have hs2 := hb2.size
 clear hg hown hb1
 go_wp2_with (at_builtin; go_must (refine wpL_append flat_u8 rfl (.const (.slice none 0 0)) (.tmp 17) 41 rfl 5 i0 (.int .u8 0) Tryz.underlying41 hi hz0 hz1 hz2 rfl w.heap.size _ [] rfl OS.nil _ (textBytes s) rfl (reads_u8 hown2 (by show (textBytes s).length ≤ _; omega)) ?d1 ?d2 ?d3 ?_))
 case d1 => simp; omega
 case d2 => simp [maxLen]; omega
 case d3 => exact hs2
 intro v3 w3 hown3 hg3
 have hb3 := b_grown hb2 hg3 (fun k hk => by simp [Value.ownBlock] at hk)
 clear hg3 hown2 hb2
 go_wp2_with fail
 go_ret2
 exact ⟨_, rfl, hown3, hb3⟩
theorem conv_reads (w : World) (t : TypeId) (s : ByteArray) (hs : s.size ≤ 140737488351232) : RB (Lib.bytesWorld w t s) (.slice (some ⟨w.heap.size, 0, none⟩) s.size (grownCap w s.size 0 t)) s.data.toList := by
 have e1 : s.data.toList.length = s.size := by rw [Array.length_toList]; rfl
 refine ⟨_, _, by rw [e1], by rw [e1]; exact grownCap_ge w _ _ _, grownCap_le_maxLen w _ _ _ (by simp [maxLen]; omega), by omega, fun h => by simp at h, fun k x hk => ⟨w.heap.size, 0, rfl, by rw [Lib.bytesWorld_size]; omega, ?_⟩⟩
 have hkl : k < s.size := by rw [← e1]; exact (List.getElem?_eq_some_iff.1 hk).1
 unfold EU8
 rw [Nat.mul_one, Nat.zero_add, Lib.bytesWorld_cell w t s k hkl]
 simp [List.getD, hk]
theorem conv_below (w : World) (t : TypeId) (s : ByteArray) : Below w.heap.size w (Lib.bytesWorld w t s) :=
 ⟨rfl, rfl, rfl, by rw [Lib.bytesWorld_size]; omega, fun k hk => Lib.bytesWorld_at_old w t s k hk⟩
theorem rn_range (l : List UInt8) : 0 ≤ (readNum l).1 ∧ (readNum l).1 ≤ 4294967295 := by
 unfold readNum
 split
 · exact ⟨by decide, by decide⟩
 split
 · exact ⟨by decide, by decide⟩
 split
 · exact ⟨by decide, by decide⟩
 constructor <;> simp <;> omega
theorem rn_rest_le (l : List UInt8) : (readNum l).2.1.length ≤ l.length := by
 unfold readNum
 split
 · simp
 split
 · simp
 split
 · simp
 simp
def readText (l : List UInt8) : ByteArray × List UInt8 × Int :=
 if (readNum l).2.2 ≠ 0 then (⟨#[]⟩, [], (readNum l).2.2) else if 2000 < (readNum l).1 then (⟨#[]⟩, [], 1) else if ((readNum l).2.1.length : Int) < (readNum l).1 then (⟨#[]⟩, [], 8)
 else (bstr ((readNum l).2.1.take (readNum l).1.toNat), (readNum l).2.1.drop (readNum l).1.toNat, 0)
theorem readText_of {l r : List UInt8} {n e : Int} (h : readNum l = (n, r, e)) : readText l = if e ≠ 0 then (⟨#[]⟩, [], e) else if 2000 < n then (⟨#[]⟩, [], 1) else if (r.length : Int) < n then (⟨#[]⟩, [], 8) else (bstr (r.take n.toNat), r.drop n.toNat, 0) := by
 unfold readText; rw [h]
def TextPost (l : List UInt8) (w : World) (e : Ending) (w' : World) : Prop :=
 ∃ v, e = .returned (.tuple #[.string (readText l).1, v, .int .i64 (readText l).2.2]) ∧ RB w' v (readText l).2.1 ∧ Below w.heap.size w w'
theorem text_err {l : List UInt8} {w w' : World} {n : Int} (h : readText l = (⟨#[]⟩, [], n)) (hb : Below w.heap.size w w') : TextPost l w (.returned (.tuple #[.string ⟨#[]⟩, .slice none 0 0, .int .i64 n])) w' := by
 refine ⟨.slice none 0 0, by rw [h], ?_, hb⟩
 rw [h]
 exact RS.nil
theorem text_ok {l r : List UInt8} {w w' : World} {s : ByteArray} {v : Value} (h : readText l = (s, r, 0)) (ho : RB w' v r) (hb : Below w.heap.size w w') : TextPost l w (.returned (.tuple #[.string s, v, .int .i64 0])) w' := by
 refine ⟨v, by rw [h], ?_, hb⟩
 rw [h]
 exact ho
set_option maxRecDepth 100000 in
set_option maxHeartbeats 1000000 in
theorem wire_ReadText (v : Value) (l : List UInt8) (w : World) (h : RB w v l) :
 Calls Tryz.prog 67 #[v] w (TextPost l w) := by
 have hrr := rn_range l
 have hrl := rn_rest_le l
 have hll : l.length ≤ 140737488351232 := by obtain ⟨_, _, _, _, _, hre, _⟩ := h; omega
 go_enter Tryz.func67, Tryz.ntmps67
 go_wp2_with fail
 refine (wire_ReadNumber _ _ _ h).mono ?_
 rintro e w1 ⟨v1, rfl, hown, hb1⟩
 have r1 := reads_u8 hown qzwir_7
 clear hown h
 generalize hp : readNum l = p at hrr hrl r1 ⊢
 obtain ⟨n, r, e⟩ := p
 have hdef := readText_of hp
 clear hp
 simp only at hrr hrl r1 ⊢
 by_cases he : e = 0
 · subst he
   rw [if_neg (by simp)] at hdef
   by_cases h2000 : 2000 < n
   · rw [if_pos h2000] at hdef
     replace hdef := hid hdef
     exact qzwir_5
   rw [if_neg h2000] at hdef
   obtain ⟨m, rfl⟩ := Int.eq_ofNat_of_zero_le hrr.1
   by_cases hshort : r.length < m
   · rw [if_pos qzwir_7] at hdef
     replace hdef := hid hdef
     obtain ⟨a, c, rfl, _⟩ := r1
     exact qzwir_5
   rw [if_neg qzwir_7, Int.toNat_natCast] at hdef
   replace hdef := hid hdef
   have r1' := r1
   obtain ⟨a, c, rfl, hlc, hcm, hre, hno, _⟩ := r1
   unfold maxLen at hcm
   have hup := RS.upto r1' m qzwir_7
   have hfr := RS.from r1' m qzwir_7
   have hml : m ≤ r.length := by omega
   have hc1 : ∀ W, Below w1.heap.size w1 W → (convert 41 9 (.slice a m c)).run Tryz.prog W = .ok (.string (bstr (r.take m))) W := fun W hW =>
    run_string_of 41 5 Tryz.underlying41 Tryz.underlying5 9 Tryz.underlying9 (hup.mono EU8.stable hW)
   have c1 := hc1 _ (Below.drew (Below.refl _ _))
   by_cases hcm2 : c = m
   · subst hcm2
     rw [if_pos rfl, Nat.sub_self, show r.length - c = 0 by omega] at hfr
     replace hc1 := hid hc1
     have hdl : (r.drop c).length ≤ 140737488351232 := by rw [List.length_drop]; omega
     exact qzwir_3
   rw [if_neg hcm2, Nat.mul_one] at hfr
   replace hc1 := hid hc1
   have hdl : (r.drop m).length ≤ 140737488351232 := by rw [List.length_drop]; omega
   exact qzwir_3
 rw [if_pos he] at hdef
 have hne : (e != 0) = true := by simp [he]
 have hne2 : (e == 0) = false := by simp [he]
 replace hdef := hid hdef
 clear he
 exact qzwir_5
theorem readText_rest_le (l : List UInt8) : (readText l).2.1.length ≤ l.length := by
 have h := rn_rest_le l
 unfold readText
 split
 · simp
 split
 · simp
 split
 · simp
 simp; omega
def TextOwn (l : List UInt8) (w : World) (e : Ending) (w' : World) : Prop :=
 ∃ v, e = .returned (.tuple #[.string (readText l).1, v, .int .i64 (readText l).2.2]) ∧ OS 5 1 cU8 w' w.heap.size v (readText l).2.1 ∧ Below w.heap.size w w'
theorem town_err {l : List UInt8} {w w' : World} {n : Int} (h : readText l = (⟨#[]⟩, [], n)) (hb : Below w.heap.size w w') : TextOwn l w (.returned (.tuple #[.string ⟨#[]⟩, .slice none 0 0, .int .i64 n])) w' := by
 refine ⟨.slice none 0 0, by rw [h], ?_, hb⟩
 rw [h]
 exact OS.nil
theorem town_ok {l r : List UInt8} {w w' : World} {s : ByteArray} {v : Value} (h : readText l = (s, r, 0)) (ho : OS 5 1 cU8 w' w.heap.size v r) (hb : Below w.heap.size w w') : TextOwn l w (.returned (.tuple #[.string s, v, .int .i64 0])) w' := by
 refine ⟨v, by rw [h], ?_, hb⟩
 rw [h]
 exact ho
set_option maxRecDepth 100000 in
set_option maxHeartbeats 1000000 in
theorem wire_ReadText_own (v : Value) (l : List UInt8) (w : World) (h : RB w v l) :
 Calls Tryz.prog 67 #[v] w (TextOwn l w) := by
 have hrr := rn_range l
 have hrl := rn_rest_le l
 have hll : l.length ≤ 140737488351232 := by obtain ⟨_, _, _, _, _, hre, _⟩ := h; omega
 go_enter Tryz.func67, Tryz.ntmps67
 go_wp2_with fail
 refine (wire_ReadNumber _ _ _ h).mono ?_
 rintro e w1 ⟨v1, rfl, hown, hb1⟩
 have r1 := reads_u8 hown qzwir_7
 clear hown h
 generalize hp : readNum l = p at hrr hrl r1 ⊢
 obtain ⟨n, r, e⟩ := p
 have hdef := readText_of hp
 clear hp
 simp only at hrr hrl r1 ⊢
 by_cases he : e = 0
 · subst he
   rw [if_neg (by simp)] at hdef
   by_cases h2000 : 2000 < n
   · rw [if_pos h2000] at hdef
     replace hdef := hid hdef
     exact qzwir_6
   rw [if_neg h2000] at hdef
   obtain ⟨m, rfl⟩ := Int.eq_ofNat_of_zero_le hrr.1
   by_cases hshort : r.length < m
   · rw [if_pos qzwir_7] at hdef
     replace hdef := hid hdef
     obtain ⟨a, c, rfl, _⟩ := r1
     exact qzwir_6
   rw [if_neg qzwir_7, Int.toNat_natCast] at hdef
   replace hdef := hid hdef
   have r1' := r1
   obtain ⟨a, c, rfl, hlc, hcm, hre, hno, _⟩ := r1
   unfold maxLen at hcm
   have hup := RS.upto r1' m qzwir_7
   have hfr := RS.from r1' m qzwir_7
   have hml : m ≤ r.length := by omega
   have hc1 : ∀ W, Below w1.heap.size w1 W → (convert 41 9 (.slice a m c)).run Tryz.prog W = .ok (.string (bstr (r.take m))) W := fun W hW =>
    run_string_of 41 5 Tryz.underlying41 Tryz.underlying5 9 Tryz.underlying9 (hup.mono EU8.stable hW)
   have c1 := hc1 _ (Below.drew (Below.refl _ _))
   by_cases hcm2 : c = m
   · subst hcm2
     rw [if_pos rfl, Nat.sub_self, show r.length - c = 0 by omega] at hfr
     exact qzwir_2
   rw [if_neg hcm2, Nat.mul_one] at hfr
   exact qzwir_2
 rw [if_pos he] at hdef
 have hne : (e != 0) = true := by simp [he]
 have hne2 : (e == 0) = false := by simp [he]
 replace hdef := hid hdef
 clear he
 exact qzwir_6
end Go.Proofs.YtpkpgehiplhkpaaGreat
