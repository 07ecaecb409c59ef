/-
  wire.Number and the reference's WireNumber: what each computes.
-/
import Derived.Test.YtaojfpgbpakmpaaOwn
import Derived.BigQuiet
import Derived.Deep.QuietTactic
namespace Go.Proofs.Ytaojfpgbpakmpaa
open Go.RowKit

/-- The last byte of a varint; a byte before it. -/
def lastB (n : Nat) : UInt8 := UInt8.ofNat n
def moreB (n : Nat) : UInt8 := UInt8.ofNat (n % 128 + 128)

/-- The varint of a number. -/
def varint (n : Nat) : List UInt8 := if n < 128 then [lastB n] else moreB n :: varint (n / 128)
termination_by n
decreasing_by omega

theorem varint_small (n : Nat) (h : n < 128) : varint n = [lastB n] := by rw [varint, if_pos h]
theorem varint_big (n : Nat) (h : ¬ n < 128) : varint n = moreB n :: varint (n / 128) := by rw [varint, if_neg h]
theorem varint_len (n : Nat) (k : Nat) (h : n < 128 ^ (k + 1)) : (varint n).length ≤ k + 1 := by
  induction k generalizing n with
  | zero => rw [varint_small n (by simpa using h)]; simp
  | succ k ih =>
    by_cases hn : n < 128
    · rw [varint_small n hn]; simp
    · rw [varint_big n hn, List.length_cons]
      have := ih (n / 128) (by rw [Nat.div_lt_iff_lt_mul (by decide)]; rw [Nat.pow_succ] at h; exact h)
      omega
theorem varint_len5 (n : Nat) (h : n < 4294967296) : (varint n).length ≤ 5 := varint_len n 4 (by omega)
theorem varint_pos (n : Nat) : 0 < (varint n).length := by
  by_cases hn : n < 128
  · rw [varint_small n hn]; simp
  · rw [varint_big n hn]; simp

theorem or128 (m : Nat) : bits .or .u8 ((m : Int) % 128) 128 = ((moreB m).toNat : Int) := by
  unfold moreB
  have h : m % 128 < 128 := Nat.mod_lt _ (by decide)
  have e : ((m : Int) % 128) = ((m % 128 : Nat) : Int) := by omega
  rw [e]
  have := u8_or_nat (m % 128) 128 (by omega) (by decide)
  rw [show ((128 : Nat) : Int) = 128 from rfl] at this
  rw [this]
  have key : ∀ x, x < 128 → x ||| 128 = (UInt8.ofNat (x + 128)).toNat := by decide
  rw [key _ h]

theorem or128' (m : Nat) : bits .or .u8 ((lastB (m % 128)).toNat : Int) 128 = ((moreB m).toNat : Int) := by
  rw [← or128]
  congr 1
  unfold lastB
  rw [UInt8.toNat_ofNat']
  omega

theorem and127 (n : Int) (h0 : 0 ≤ n) (h1 : n < 9223372036854775808) : bits .and .i64 n 127 = ((n.toNat % 128 : Nat) : Int) := by
  have := bits_mask .i64 63 (by decide) (fun m a b => by rw [IntKind.wrap_i64]; omega) 7 (by decide) n h0 h1
  rw [show (2 : Int) ^ 7 - 1 = 127 from rfl] at this
  rw [this]
  omega

theorem mask_one (w : World) (n : Int) (h0 : 0 ≤ n) (h1 : n < 9223372036854775808) : OS 5 1 cU8 (w.alloc (.cells #[.int .u8 (bits .and .i64 n 127 % 256)] 5)) w.heap.size (.slice (some ⟨w.heap.size, 0, none⟩) 1 1) [lastB (n.toNat % 128)] := by
  have e : bits .and .i64 n 127 % 256 = ((lastB (n.toNat % 128)).toNat : Int) := by
    rw [and127 n h0 h1]; unfold lastB; rw [UInt8.toNat_ofNat']; omega
  rw [e]
  exact World.ownsRow_lit w #[.int .u8 ((lastB (n.toNat % 128)).toNat : Int)] 1 (Nat.le_refl _) (by simp [maxLen]) rfl

theorem info_u8 : (Try.prog.info? 5).map (fun i => (i.zero, i.size, i.bytes)) = some (some (.int .u8 0), 1, 1) := by kernel_rfl

set_option maxRecDepth 100000 in
set_option maxHeartbeats 1000000 in
theorem wire_Number (n : Int) (w : World) (h0 : 0 ≤ n) (h1 : n ≤ 4294967295) :
    Calls Try.prog 108 #[.int .i64 n] w fun e w' => ∃ v, e = .returned (.tuple #[v, .int .i64 0]) ∧ OS 5 1 cU8 w' w.heap.size v (varint n.toNat) ∧ Below w.heap.size w w' := by
  obtain ⟨i0, hi, hz0, hz1, hz2⟩ := info_parts info_u8
  have hl5 := varint_len5 n.toNat (by omega)
  have hd : decide (n < 0) = false := by simp; omega
  have hd2 : decide (4294967295 < n) = false := by simp; omega
  go_enter Try.func108, Try.ntmps108
  go_wp2
  go_loopw [0, 4] (fun t v wr => ∃ (m : Nat) (d : List UInt8), t = .int .i64 m ∧ m ≤ 4294967295 ∧ OS 5 1 cU8 wr w.heap.size v d ∧ d ++ varint m = varint n.toNat ∧ Below w.heap.size w wr) (fun t _ _ => (intOf t).toNat)
  case atStart => exact ⟨n.toNat, [], by go_num, by omega, OS.nil, rfl, Below.refl _ _⟩
  case round =>
    obtain ⟨m, d, rfl, hm, hown, hd1, hb⟩ := hrel
    have hdl := hid (congrArg List.length hd1)
    have hd0 := hid hd1
    clear hd1
    by_cases hlt : 127 < m
    · have hv := hid (varint_big m (by omega))
      have ho := hid (or128 m)
      have hpos := varint_pos (m / 128)
      go_wp2_with (at_builtin; go_must (refine wpL_append flat_u8 rfl _ _ 38 rfl 5 i0 (.int .u8 0) Try.underlying38 hi hz0 hz1 hz2 rfl w.heap.size _ d rfl (OS.alloc hown _) _ [moreB m] rfl (one_u8 _ _ _ _ _ (by simp) ho.out) ?c1 ?c2 ?c3 ?_))
      case c1 => have := hdl.out; simp at this ⊢; omega
      case c2 => have := hdl.out; simp [maxLen] at this ⊢; omega
      case c3 => have := hb.size; simp; omega
      intro v' w1 hown1 hg
      have hb1 := b_grown (b_alloc hb _) hg (OS.block hown)
      have hd1 := hid (show (d ++ [moreB m]) ++ varint (m / 128) = varint n.toNat by rw [← hd0.out, hv.out]; simp)
      clear hg hown hb hd0 hv
      go_wp2
      go_roundw
      case rel => exact ⟨m / 128, _, by go_num, by omega, hown1, hd1.out, hb1⟩
      case measure => simp [intOf]; omega
    · have hv := hid (varint_small m (by omega))
      have hm2 : Hid ((m : Int) = ((lastB m).toNat : Int)) := by show (m : Int) = _; unfold lastB; rw [UInt8.toNat_ofNat']; omega
      have hd1 := hid (show d ++ [lastB m] = varint n.toNat by rw [← hd0.out, hv.out])
      have hd2 := hid (congrArg List.length hd1.out)
      have hsz := hb.size
      clear hd0 hv
      go_wp2_with (at_builtin; go_must (refine wpL_append flat_u8 rfl (.tmp 22) (.tmp 25) 38 rfl 5 i0 (.int .u8 0) Try.underlying38 hi hz0 hz1 hz2 rfl w.heap.size _ d rfl (OS.alloc hown _) _ [lastB m] rfl (one_u8 _ _ _ _ _ (by simp) hm2.out) ?d1 ?d2 ?d3 ?_))
      case d1 => have := hd2.out; simp at this ⊢; omega
      case d2 => have := hd2.out; simp [maxLen] at this ⊢; omega
      case d3 => simp; omega
      intro v' w1 hown1 hg
      rw [hd1.out] at hown1
      have hb1 := b_grown (b_alloc hb _) hg (OS.block hown)
      clear hg hown hb
      go_wp2_with (at_builtin; go_must (refine wpL_append flat_u8 rfl (.const (.slice none 0 0)) (.tmp 26) 38 rfl 5 i0 (.int .u8 0) Try.underlying38 hi hz0 hz1 hz2 rfl w.heap.size _ [] rfl OS.nil _ (varint n.toNat) rfl (reads_u8 hown1 (by omega)) ?e1 ?e2 ?e3 ?_))
      case e1 => simp; omega
      case e2 => simp [maxLen]; omega
      case e3 => exact hb1.size
      intro v2 w2 hown2 hg2
      have hb2 := b_grown hb1 hg2 (fun k hk => by simp [Value.ownBlock] at hk)
      clear hg2 hown1 hb1
      go_wp2
      go_ret2
      exact ⟨_, rfl, hown2, hb2⟩

set_option maxRecDepth 100000 in
set_option maxHeartbeats 400000 in
theorem wire_Number_no (n : Int) (w : World) (h : n < 0 ∨ 4294967295 < n) :
    Calls Try.prog 108 #[.int .i64 n] w fun e w' => e = .returned (.tuple #[.slice none 0 0, .int .i64 4]) ∧ w = w' := by
  by_cases h0 : n < 0
  all_goals
    go_enter Try.func108, Try.ntmps108
    go_wp2
    go_ret2
    exact ⟨rfl, rfl⟩

set_option maxRecDepth 100000 in
set_option maxHeartbeats 400000 in
theorem ref_WireNumber_no (n : Int) (w : World) (h : n < 0 ∨ 4294967295 < n) :
    Calls Try.prog 116 #[.int .i64 n] w fun e w' => e = .returned (.tuple #[.slice none 0 0, .int .i64 4]) ∧ w = w' := by
  by_cases h0 : n < 0
  all_goals
    go_enter Try.func116, Try.ntmps116
    go_wp2
    go_ret2
    exact ⟨rfl, rfl⟩

set_option maxRecDepth 100000 in
set_option maxHeartbeats 1000000 in
theorem ref_WireNumber (n : Int) (w : World) (h0 : 0 ≤ n) (h1 : n ≤ 4294967295) :
    Calls Try.prog 116 #[.int .i64 n] w fun e w' => ∃ v, e = .returned (.tuple #[v, .int .i64 0]) ∧ OS 5 1 cU8 w' w.heap.size v (varint n.toNat) ∧ Below w.heap.size w w' := by
  obtain ⟨i0, hi, hz0, hz1, hz2⟩ := info_parts info_u8
  have hl5 := varint_len5 n.toNat (by omega)
  have hd : decide (n < 0) = false := by simp; omega
  have hd2 : decide (4294967296 ≤ n) = false := by simp; omega
  go_enter Try.func116, Try.ntmps116
  go_wp2
  go_loopw [0, 4] (fun t v wr => ∃ (x : Nat) (d : List UInt8), t = .int .i64 ((x / 128 : Nat) : Int) ∧ x ≤ 4294967295 ∧ OS 5 1 cU8 wr w.heap.size v (d ++ [lastB (x % 128)]) ∧ d ++ varint x = varint n.toNat ∧ Below w.heap.size w wr) (fun t _ _ => (intOf t).toNat)
  case atStart => exact ⟨n.toNat, [], by go_num, by omega, mask_one _ _ h0 (by omega), rfl, b_alloc (Below.refl _ _) _⟩
  case round =>
    obtain ⟨x, d, rfl, hx, hown, hd1, hb⟩ := hrel
    have hdl := hid (congrArg List.length hd1)
    have hd0 := hid hd1
    clear hd1
    obtain ⟨g, cap, rfl, hg, hgs, hcell, hfr, hset⟩ := OS.cell1 hown (fun _ => rfl) d.length (lastB (x % 128)) (by simp)
    by_cases hlt : 0 < x / 128
    · have hv := hid (varint_big x (by omega))
      have ho := hid (or128' x)
      have hset1 := hset (moreB x) (.int .u8 (bits .or .u8 ((lastB (x % 128)).toNat : Int) 128)) (by rw [ho.out]; rfl)
      have hs := hb.size
      have hlen : (d ++ [lastB (x % 128)]).length = d.length + 1 := by simp
      rw [hlen] at hset1 hown ⊢
      rw [show (d ++ [lastB (x % 128)]).set d.length (moreB x) = d ++ [moreB x] by simp] at hset1
      clear hset
      simp only [cU8, List.getElem?_cons_zero] at hcell
      have hpos := varint_pos (x / 128)
      have hdl2 : d.length ≤ 3 := by have := hdl.out; rw [hv.out] at this; simp at this; omega
      have hb1 := hid (b_alloc (b_set hb (p := ⟨g, d.length, none⟩) hg (.int .u8 (bits .or .u8 ((lastB (x % 128)).toNat : Int) 128))) (.cells #[.int .u8 (bits .and .i64 ((x : Int) / 128) 127 % 256)] 5))
      have hd1 := hid (show (d ++ [moreB x]) ++ varint (x / 128) = varint n.toNat by rw [← hd0.out, hv.out]; simp)
      have hlast : Hid (bits .and .i64 ((x : Int) / 128) 127 % 256 = ((lastB (x / 128 % 128)).toNat : Int)) := by
        show _ = _
        rw [show ((x : Int) / 128) = ((x / 128 : Nat) : Int) by omega, and127 _ (by omega) (by omega)]
        unfold lastB; rw [UInt8.toNat_ofNat', Int.toNat_natCast]; omega
      clear hlen hown hd0 hv
      go_wp2_with (at_builtin; go_must (refine wpL_append flat_u8 rfl (.tmp 29) (.tmp 33) 38 rfl 5 i0 (.int .u8 0) Try.underlying38 hi hz0 hz1 hz2 rfl w.heap.size _ (d ++ [moreB x]) (by simp; rfl) (OS.alloc hset1 _) _ [lastB (x / 128 % 128)] rfl (one_u8 _ _ _ _ _ (by simp) hlast.out) ?c1 ?c2 ?c3 ?_))
      case c1 => simp; omega
      case c2 => simp [maxLen]; omega
      case c3 => simp; omega
      intro v' w1 hown1 hgr
      have hb2 := b_grown hb1.out hgr (fun k hk => by simp [Value.ownBlock] at hk; omega)
      clear hgr hset1 hb hb1
      go_wp2
      go_roundw
      case rel => exact ⟨x / 128, d ++ [moreB x], by go_num, by omega, by rw [List.append_assoc]; exact hown1, hd1.out, hb2⟩
      case measure => simp [intOf]; omega
    · have hv := hid (varint_small x (by omega))
      have hlen : (d ++ [lastB (x % 128)]).length = d.length + 1 := List.length_append
      have hfin : d ++ [lastB (x % 128)] = varint n.toNat := by rw [← hd0.out, hv.out, Nat.mod_eq_of_lt (by omega)]
      rw [hlen] at hown ⊢
      rw [hfin] at hown
      clear hset hcell hfr hlen hfin hd0 hdl hv
      go_wp2
      go_ret2
      exact ⟨_, rfl, hown, hb⟩

/-- Two slices of bytes that read alike are the same. -/
theorem law_sameBytes_yes (a b : Value) (w : World) (l : List UInt8) (ha : RB w a l) (hb : RB w b l) :
    Calls Try.prog 38 #[a, b] w fun e w' => e = .returned (.bool true) ∧ w = w' := by
  have c1 := run_string_of 38 5 Try.underlying38 Try.underlying5 9 Try.underlying9 ha
  have c2 := run_string_of 38 5 Try.underlying38 Try.underlying5 9 Try.underlying9 hb
  clear ha hb
  go_enter Try.func38, Try.ntmps38
  go_wp2
  go_ret
  exact ⟨rfl, rfl⟩

end Go.Proofs.Ytaojfpgbpakmpaa
