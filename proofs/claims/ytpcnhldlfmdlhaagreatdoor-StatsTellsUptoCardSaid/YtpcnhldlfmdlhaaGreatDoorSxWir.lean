/-
  wire.Number and the reference's WireNumber: what each computes. Reading a number: what wire.ReadNumber answers, in plain words. No program here. bytes.Clone, wire.ReadNumber and the reference's WireNumberOf: what each computes. wire.Text, wire.ReadText and the reference's WireText, WireTextOf: what each computes; the laws WireReads and WireTexts. wire.ReadText once more, saying besides that what is left lies in the call's own memory. Printed by gen_rt.py. The reference's WireTextOf once more, saying besides that what is left lies in new memory. Printed by gen_rt.py.
-/
import Derived.Test.YtpcnhldlfmdlhaaGreatDoorSxBas
import Derived.BigQuiet
import Derived.Deep.QuietTactic
import Derived.Lib.AppendStr
import Derived.Lib.ConvBytes
import Derived.Deep.RegionWith
namespace Go.Proofs.YtpcnhldlfmdlhaaGreatDoor
open Go.RowKit

/-- The last byte of a varint; a byte before it. -/
def lastB (n : Nat) : UInt8 := UInt8.ofNat n
def moreB (n : Nat) : UInt8 := UInt8.ofNat (n % 128 + 128)

/-- The varint of a number. -/
def varint (n : Nat) : List UInt8 := if n < 128 then [lastB n] else moreB n :: varint (n / 128)
termination_by n
decreasing_by omega

theorem varint_small (n : Nat) (h : n < 128) : varint n = [lastB n] := by rw [varint, if_pos h]
theorem varint_big (n : Nat) (h : ¬ n < 128) : varint n = moreB n :: varint (n / 128) := by rw [varint, if_neg h]
theorem varint_len (n : Nat) (k : Nat) (h : n < 128 ^ (k + 1)) : (varint n).length ≤ k + 1 := by
  induction k generalizing n with
  | zero => rw [varint_small n (by simpa using h)]; simp
  | succ k ih =>
    by_cases hn : n < 128
    · rw [varint_small n hn]; simp
    · rw [varint_big n hn, List.length_cons]
      have := ih (n / 128) (by rw [Nat.div_lt_iff_lt_mul (by decide)]; rw [Nat.pow_succ] at h; exact h)
      omega
theorem varint_len5 (n : Nat) (h : n < 4294967296) : (varint n).length ≤ 5 := varint_len n 4 (by omega)
theorem varint_pos (n : Nat) : 0 < (varint n).length := by
  by_cases hn : n < 128
  · rw [varint_small n hn]; simp
  · rw [varint_big n hn]; simp

theorem or128 (m : Nat) : bits .or .u8 ((m : Int) % 128) 128 = ((moreB m).toNat : Int) := by
  unfold moreB
  have h : m % 128 < 128 := Nat.mod_lt _ (by decide)
  have e : ((m : Int) % 128) = ((m % 128 : Nat) : Int) := by omega
  rw [e]
  have := u8_or_nat (m % 128) 128 (by omega) (by decide)
  rw [show ((128 : Nat) : Int) = 128 from rfl] at this
  rw [this]
  have key : ∀ x, x < 128 → x ||| 128 = (UInt8.ofNat (x + 128)).toNat := by decide
  rw [key _ h]

theorem or128' (m : Nat) : bits .or .u8 ((lastB (m % 128)).toNat : Int) 128 = ((moreB m).toNat : Int) := by
  rw [← or128]
  congr 1
  unfold lastB
  rw [UInt8.toNat_ofNat']
  omega

theorem and127 (n : Int) (h0 : 0 ≤ n) (h1 : n < 9223372036854775808) : bits .and .i64 n 127 = ((n.toNat % 128 : Nat) : Int) := by
  have := bits_mask .i64 63 (by decide) (fun m a b => by rw [IntKind.wrap_i64]; omega) 7 (by decide) n h0 h1
  rw [show (2 : Int) ^ 7 - 1 = 127 from rfl] at this
  rw [this]
  omega

theorem mask_one (w : World) (n : Int) (h0 : 0 ≤ n) (h1 : n < 9223372036854775808) : OS 5 1 cU8 (w.alloc (.cells #[.int .u8 (bits .and .i64 n 127 % 256)] 5)) w.heap.size (.slice (some ⟨w.heap.size, 0, none⟩) 1 1) [lastB (n.toNat % 128)] := by
  have e : bits .and .i64 n 127 % 256 = ((lastB (n.toNat % 128)).toNat : Int) := by
    rw [and127 n h0 h1]; unfold lastB; rw [UInt8.toNat_ofNat']; omega
  rw [e]
  exact World.ownsRow_lit w #[.int .u8 ((lastB (n.toNat % 128)).toNat : Int)] 1 (Nat.le_refl _) (by simp [maxLen]) rfl

theorem info_u8 : (Tryz.prog.info? 5).map (fun i => (i.zero, i.size, i.bytes)) = some (some (.int .u8 0), 1, 1) := by kernel_rfl

set_option maxRecDepth 100000 in
set_option maxHeartbeats 400000 in
theorem ref_WireNumber_no (n : Int) (w : World) (h : n < 0 ∨ 4294967295 < n) :
    Calls Tryz.prog 121 #[.int .i64 n] w fun e w' => e = .returned (.tuple #[.slice none 0 0, .int .i64 4]) ∧ w = w' := by
  by_cases h0 : n < 0
  all_goals
    go_enter Tryz.func121, Tryz.ntmps121
    go_wp2
    go_ret2
    exact ⟨rfl, rfl⟩

set_option maxRecDepth 100000 in
set_option maxHeartbeats 1000000 in
theorem ref_WireNumber (n : Int) (w : World) (h0 : 0 ≤ n) (h1 : n ≤ 4294967295) :
    Calls Tryz.prog 121 #[.int .i64 n] w fun e w' => ∃ v, e = .returned (.tuple #[v, .int .i64 0]) ∧ OS 5 1 cU8 w' w.heap.size v (varint n.toNat) ∧ Below w.heap.size w w' := by
  obtain ⟨i0, hi, hz0, hz1, hz2⟩ := info_parts info_u8
  have hl5 := varint_len5 n.toNat (by omega)
  have hd : decide (n < 0) = false := by simp; omega
  have hd2 : decide (4294967296 ≤ n) = false := by simp; omega
  go_enter Tryz.func121, Tryz.ntmps121
  go_wp2
  go_loopw [0, 4] (fun t v wr => ∃ (x : Nat) (d : List UInt8), t = .int .i64 ((x / 128 : Nat) : Int) ∧ x ≤ 4294967295 ∧ OS 5 1 cU8 wr w.heap.size v (d ++ [lastB (x % 128)]) ∧ d ++ varint x = varint n.toNat ∧ Below w.heap.size w wr) (fun t _ _ => (intOf t).toNat)
  case atStart => exact ⟨n.toNat, [], by go_num, by omega, mask_one _ _ h0 (by omega), rfl, b_alloc (Below.refl _ _) _⟩
  case round =>
    obtain ⟨x, d, rfl, hx, hown, hd1, hb⟩ := hrel
    have hdl := hid (congrArg List.length hd1)
    have hd0 := hid hd1
    clear hd1
    obtain ⟨g, cap, rfl, hg, hgs, hcell, hfr, hset⟩ := OS.cell1 hown (fun _ => rfl) d.length (lastB (x % 128)) (by simp)
    by_cases hlt : 0 < x / 128
    · have hv := hid (varint_big x (by omega))
      have ho := hid (or128' x)
      have hset1 := hset (moreB x) (.int .u8 (bits .or .u8 ((lastB (x % 128)).toNat : Int) 128)) (by rw [ho.out]; rfl)
      have hs := hb.size
      have hlen : (d ++ [lastB (x % 128)]).length = d.length + 1 := by simp
      rw [hlen] at hset1 hown ⊢
      rw [show (d ++ [lastB (x % 128)]).set d.length (moreB x) = d ++ [moreB x] by simp] at hset1
      clear hset
      simp only [cU8, List.getElem?_cons_zero] at hcell
      have hpos := varint_pos (x / 128)
      have hdl2 : d.length ≤ 3 := by have := hdl.out; rw [hv.out] at this; simp at this; omega
      have hb1 := hid (b_alloc (b_set hb (p := ⟨g, d.length, none⟩) hg (.int .u8 (bits .or .u8 ((lastB (x % 128)).toNat : Int) 128))) (.cells #[.int .u8 (bits .and .i64 ((x : Int) / 128) 127 % 256)] 5))
      have hd1 := hid (show (d ++ [moreB x]) ++ varint (x / 128) = varint n.toNat by rw [← hd0.out, hv.out]; simp)
      have hlast : Hid (bits .and .i64 ((x : Int) / 128) 127 % 256 = ((lastB (x / 128 % 128)).toNat : Int)) := by
        show _ = _
        rw [show ((x : Int) / 128) = ((x / 128 : Nat) : Int) by omega, and127 _ (by omega) (by omega)]
        unfold lastB; rw [UInt8.toNat_ofNat', Int.toNat_natCast]; omega
      clear hlen hown hd0 hv
      go_wp2_with (at_builtin; go_must (refine wpL_append flat_u8 rfl (.tmp 29) (.tmp 33) 52 rfl 5 i0 (.int .u8 0) Tryz.underlying52 hi hz0 hz1 hz2 rfl w.heap.size _ (d ++ [moreB x]) (by simp; rfl) (OS.alloc hset1 _) _ [lastB (x / 128 % 128)] rfl (one_u8 _ _ _ _ _ (by simp) hlast.out) ?c1 ?c2 ?c3 ?_))
      case c1 => simp; omega
      case c2 => simp [maxLen]; omega
      case c3 => simp; omega
      intro v' w1 hown1 hgr
      have hb2 := b_grown hb1.out hgr (fun k hk => by simp [Value.ownBlock] at hk; omega)
      clear hgr hset1 hb hb1
      go_wp2
      go_roundw
      case rel => exact ⟨x / 128, d ++ [moreB x], by go_num, by omega, by rw [List.append_assoc]; exact hown1, hd1.out, hb2⟩
      case measure => simp [intOf]; omega
    · have hv := hid (varint_small x (by omega))
      have hlen : (d ++ [lastB (x % 128)]).length = d.length + 1 := List.length_append
      have hfin : d ++ [lastB (x % 128)] = varint n.toNat := by rw [← hd0.out, hv.out, Nat.mod_eq_of_lt (by omega)]
      rw [hlen] at hown ⊢
      rw [hfin] at hown
      clear hset hcell hfr hlen hfin hd0 hdl hv
      go_wp2
      go_ret2
      exact ⟨_, rfl, hown, hb⟩

end Go.Proofs.YtpcnhldlfmdlhaaGreatDoor

namespace Go.Proofs.YtpcnhldlfmdlhaaGreatDoor

/-- The number that groups of seven bits spell, the least group first. -/
def val : List UInt8 → Nat
  | [] => 0
  | c :: l => c.toNat % 128 + 128 * val l

def readNum (l : List UInt8) : Int × List UInt8 × Int :=
  if 5 ≤ (l.takeWhile fun c => decide (128 ≤ c.toNat)).length then (0, [], 3) else
  match l[(l.takeWhile fun c => decide (128 ≤ c.toNat)).length]? with
  | none => (0, [], 8)
  | some c => if 4294967295 < val (l.take ((l.takeWhile fun c => decide (128 ≤ c.toNat)).length + 1)) ∨ (c.toNat = 0 ∧ 0 < (l.takeWhile fun c => decide (128 ≤ c.toNat)).length) then (0, [], 3)
    else (val (l.take ((l.takeWhile fun c => decide (128 ≤ c.toNat)).length + 1)), l.drop ((l.takeWhile fun c => decide (128 ≤ c.toNat)).length + 1), 0)

theorem tw_len {α : Type} (p : α → Bool) : ∀ (l : List α) (k : Nat), (∀ j x, j < k → l[j]? = some x → p x = true) → k ≤ l.length → (∀ x, l[k]? = some x → p x = false) → (l.takeWhile p).length = k
  | [], k, _, h2, _ => by simp at h2; simp [h2]
  | a :: l, 0, _, _, h3 => by rw [List.takeWhile_cons, h3 a rfl]; rfl
  | a :: l, k + 1, h1, h2, h3 => by
    rw [List.takeWhile_cons, h1 0 a (by omega) rfl]
    simp only [if_true, List.length_cons]
    rw [tw_len p l k (fun j x hj hx => h1 (j + 1) x (by omega) (by simpa using hx)) (by simpa using h2) (fun x hx => h3 x (by simpa using hx))]
theorem tw_ge {α : Type} (p : α → Bool) : ∀ (l : List α) (k : Nat), (∀ j x, j < k → l[j]? = some x → p x = true) → k ≤ l.length → k ≤ (l.takeWhile p).length
  | [], k, _, h2 => by simpa using h2
  | a :: l, 0, _, _ => by omega
  | a :: l, k + 1, h1, h2 => by
    rw [List.takeWhile_cons, h1 0 a (by omega) rfl]
    simp only [if_true, List.length_cons]
    have := tw_ge p l k (fun j x hj hx => h1 (j + 1) x (by omega) (by simpa using hx)) (by simpa using h2)
    omega

/-- The first k bytes go on. -/
def Goes (l : List UInt8) (k : Nat) : Prop := k ≤ l.length ∧ ∀ j x, j < k → l[j]? = some x → 128 ≤ x.toNat
theorem Goes.zero (l : List UInt8) : Goes l 0 := ⟨Nat.zero_le _, fun j x h => by omega⟩
theorem Goes.succ {l : List UInt8} {k : Nat} {c : UInt8} (h : Goes l k) (hc : l[k]? = some c) (h128 : 128 ≤ c.toNat) : Goes l (k + 1) := by
  refine ⟨(List.getElem?_eq_some_iff.1 hc).1, fun j x hj hx => ?_⟩
  by_cases hjk : j = k
  · subst hjk; rw [hc] at hx; cases hx; exact h128
  · exact h.2 j x (by omega) hx

theorem rn_form5 {l : List UInt8} (h : Goes l 5) : readNum l = (0, [], 3) := by
  unfold readNum
  rw [if_pos (tw_ge _ l 5 (fun j x hj hx => by simpa using h.2 j x hj hx) h.1)]
theorem rn_short {l : List UInt8} {k : Nat} (h : Goes l k) (hk : k = l.length) (h5 : k < 5) : readNum l = (0, [], 8) := by
  have e := tw_len (fun c : UInt8 => decide (128 ≤ c.toNat)) l k (fun j x hj hx => by simpa using h.2 j x hj hx) h.1 (fun x hx => by rw [hk] at hx; simp at hx)
  unfold readNum
  rw [e, if_neg (by omega), hk]
  simp
theorem rn_at {l : List UInt8} {k : Nat} {c : UInt8} (h : Goes l k) (h5 : k < 5) (hc : l[k]? = some c) (h128 : c.toNat < 128) :
    readNum l = if 4294967295 < val (l.take (k + 1)) ∨ (c.toNat = 0 ∧ 0 < k) then (0, [], 3) else ((val (l.take (k + 1)) : Int), l.drop (k + 1), 0) := by
  have e := tw_len (fun c : UInt8 => decide (128 ≤ c.toNat)) l k (fun j x hj hx => by simpa using h.2 j x hj hx) h.1 (fun x hx => by rw [hc] at hx; cases hx; simpa using h128)
  unfold readNum
  rw [e, if_neg (by omega), hc]

theorem val_snoc : ∀ (l : List UInt8) (c : UInt8), val (l ++ [c]) = val l + c.toNat % 128 * 128 ^ l.length
  | [], c => by simp [val]
  | a :: l, c => by
    rw [List.cons_append, val, val, val_snoc l c, List.length_cons, Nat.pow_succ, Nat.mul_add, ← Nat.add_assoc]
    congr 1
    rw [Nat.mul_comm 128, Nat.mul_assoc]
theorem val_lt : ∀ l : List UInt8, val l < 128 ^ l.length
  | [] => by simp [val]
  | a :: l => by
    rw [val, List.length_cons, Nat.pow_succ]
    have h1 := val_lt l
    have h2 : a.toNat % 128 < 128 := Nat.mod_lt _ (by decide)
    omega
theorem val_take {l : List UInt8} {k : Nat} {c : UInt8} (hc : l[k]? = some c) : val (l.take (k + 1)) = val (l.take k) + c.toNat % 128 * 128 ^ k := by
  have hk := (List.getElem?_eq_some_iff.1 hc).1
  rw [List.take_add_one, hc]
  simp only [Option.toList_some]
  rw [val_snoc, List.length_take, Nat.min_eq_left (by omega)]

/-- A number that is spelt so, in as few bytes as may be, is its varint. -/
theorem varint_val : ∀ (l : List UInt8) (c : UInt8), (∀ x ∈ l, 128 ≤ x.toNat) → c.toNat < 128 → (c.toNat ≠ 0 ∨ l = []) → varint (val (l ++ [c])) = l ++ [c]
  | [], c, _, hc, _ => by
    simp only [List.nil_append, val, Nat.mul_zero, Nat.add_zero]
    rw [Nat.mod_eq_of_lt hc, varint_small _ hc]
    congr 1
    apply UInt8.toNat_inj.1
    simp [lastB]
  | a :: l, c, h, hc, h0 => by
    have ha := h a (List.mem_cons_self ..)
    have hc0 : c.toNat ≠ 0 := h0.resolve_right (by simp)
    rw [List.cons_append, val]
    have hpos : 0 < val (l ++ [c]) := by
      rw [val_snoc, Nat.mod_eq_of_lt hc]
      have : 0 < c.toNat * 128 ^ l.length := Nat.mul_pos (by omega) (Nat.pow_pos (by decide))
      omega
    have hm : a.toNat % 128 < 128 := Nat.mod_lt _ (by decide)
    rw [varint_big _ (by omega), show (a.toNat % 128 + 128 * val (l ++ [c])) / 128 = val (l ++ [c]) by omega, varint_val l c (fun x hx => h x (List.mem_cons_of_mem _ hx)) hc (.inl hc0)]
    congr 1
    apply UInt8.toNat_inj.1
    have := a.toNat_lt
    simp only [moreB, UInt8.toNat_ofNat']
    omega
theorem varint_last (n : Nat) (l : List UInt8) (h : varint n = l ++ [0]) : l = [] := by
  induction l generalizing n with
  | nil => rfl
  | cons a l ih =>
    exfalso
    by_cases hn : n < 128
    · rw [varint_small n hn] at h; simp at h
    · rw [varint_big n hn, List.cons_append] at h
      have h2 := (List.cons.inj h).2
      have h3 := ih _ h2
      subst h3
      by_cases hn2 : n / 128 < 128
      · rw [varint_small _ hn2] at h2
        simp only [List.nil_append, List.cons.injEq, and_true] at h2
        have := congrArg UInt8.toNat h2
        simp [lastB] at this
        omega
      · rw [varint_big _ hn2] at h2
        simp only [List.nil_append, List.cons.injEq] at h2
        have := varint_pos (n / 128 / 128)
        rw [h2.2] at this
        simp at this

/-- The reference's test: what was read is written so again. -/
theorem again_iff {l : List UInt8} {k : Nat} {c : UInt8} (h : Goes l k) (hc : l[k]? = some c) (h128 : c.toNat < 128) : varint (val (l.take (k + 1))) = l.take (k + 1) ↔ ¬ (c.toNat = 0 ∧ 0 < k) := by
  have hk := (List.getElem?_eq_some_iff.1 hc).1
  have e : l.take (k + 1) = l.take k ++ [c] := by rw [List.take_add_one, hc]; rfl
  have hall : ∀ x ∈ l.take k, 128 ≤ x.toNat := by
    intro x hx
    obtain ⟨j, hj, he⟩ := List.mem_iff_getElem.1 hx
    simp only [List.length_take] at hj
    refine h.2 j x (by omega) ?_
    rw [← he, List.getElem_take]
    exact List.getElem?_eq_getElem (by omega)
  rw [e]
  constructor
  · rintro he ⟨h0, hk0⟩
    obtain rfl : c = 0 := UInt8.toNat_inj.1 h0
    have := congrArg List.length (varint_last _ _ he)
    rw [List.length_take, List.length_nil] at this
    omega
  · intro hn
    refine varint_val _ c hall h128 ?_
    by_cases hk0 : k = 0
    · right; simp [hk0]
    · left; intro h0; exact hn ⟨h0, by omega⟩

end Go.Proofs.YtpcnhldlfmdlhaaGreatDoor

namespace Go.Proofs.YtpcnhldlfmdlhaaGreatDoor
open Go.RowKit

/-- An empty slice in a new block of no cells. -/
theorem os_empty (w : World) (t : TypeId) (B k : Nat) (hk : k = w.heap.size) (hB : B ≤ w.heap.size) : OS t 1 cU8 (w.alloc (.cells #[] t)) B (.slice (some ⟨k, 0, none⟩) 0 0) [] := by
  subst hk
  exact World.ownsRow_lit w #[] 0 hB (by simp [maxLen]) rfl

set_option maxRecDepth 100000 in
set_option maxHeartbeats 400000 in
theorem bytes_Clone (v : Value) (l : List UInt8) (w : World) (h : RB w v l) :
    Calls Tryz.prog 138 #[v] w fun e w' => ∃ v', e = .returned v' ∧ OS 5 1 cU8 w' w.heap.size v' l ∧ Below w.heap.size w w' := by
  obtain ⟨i0, hi, hz0, hz1, hz2⟩ := info_parts info_u8
  have hh := h
  obtain ⟨a, c, rfl, hlc, hcm, hre, hno, hat⟩ := hh
  cases a with
  | none =>
    have hc0 := hno rfl
    subst hc0
    have hl0 : l = [] := List.eq_nil_of_length_eq_zero (by omega)
    subst hl0
    have he := fun w => Lib.run_eql_slice_nil (P := Tryz.prog) w 52 5 none 0 0 0 0 Tryz.underlying52
    go_enter Tryz.func138, Tryz.ntmps138
    go_wp2
    go_ret
    exact ⟨_, rfl, OS.nil, Below.refl _ _⟩
  | some ad =>
    have he := fun w => Lib.run_eql_slice_nil (P := Tryz.prog) w 52 5 (some ad) l.length c 0 0 Tryz.underlying52
    clear hat
    go_enter Tryz.func138, Tryz.ntmps138
    go_wp2_with (at_builtin; go_must (refine wpL_append flat_u8 rfl (.tmp 5) (.tmp 6) 52 rfl 5 i0 (.int .u8 0) Tryz.underlying52 hi hz0 hz1 hz2 rfl w.heap.size _ [] rfl (os_empty _ _ _ _ (by simp) (by simp)) _ l rfl (h.mono EU8.stable (b_alloc (Below.refl _ _) _)) ?c1 ?c2 ?c3 ?_))
    case c1 => simp; omega
    case c2 => simp [maxLen]; omega
    case c3 => simp
    intro v' w1 hown hg
    have hb := b_grown (b_alloc (Below.refl w.heap.size w) (.cells #[] 5)) hg (fun k hk => by simp [Value.ownBlock] at hk; omega)
    clear hg
    go_wp2
    go_ret
    exact ⟨_, rfl, hown, hb⟩

theorem rn_or (n c k : Nat) (h : n < 128 ^ k) : n ||| (c % 128 * 128 ^ k) = n + c % 128 * 128 ^ k := by
  have e : c % 128 * 128 ^ k = (c % 128) <<< (7 * k) := by
    rw [Nat.shiftLeft_eq, Nat.pow_mul]
  rw [e, Nat.or_comm, ← Nat.shiftLeft_add_eq_or_of_lt (by rw [Nat.pow_mul]; exact h), Nat.add_comm]

theorem or_i64 (a b : Nat) (ha : a < 9223372036854775808) (hb : b < 9223372036854775808) : bits .or .i64 (a : Int) (b : Int) = ((a ||| b : Nat) : Int) :=
  (bits_nat .i64 63 (by decide) (fun m a b => by rw [IntKind.wrap_i64]; omega) a b ha hb).2

theorem rn_step {l : List UInt8} {k : Nat} {x : UInt8} (hk : k < 5) (hx : l[k]? = some x) : bits .or .i64 ((val (l.take k) : Nat) : Int) (wrap64 ((x.toNat : Int) % 128 * 2 ^ (7 * k))) = ((val (l.take (k + 1)) : Nat) : Int) := by
  have hl := (List.getElem?_eq_some_iff.1 hx).1
  have hv := val_lt (l.take k)
  rw [List.length_take, Nat.min_eq_left (by omega)] at hv
  have hp : (128 : Nat) ^ k ≤ 128 ^ 4 := Nat.pow_le_pow_right (by decide) (by omega)
  have hm : x.toNat % 128 < 128 := Nat.mod_lt _ (by decide)
  have hmul : x.toNat % 128 * 128 ^ k ≤ 127 * 128 ^ 4 := Nat.mul_le_mul (by omega) hp
  have e : ((x.toNat : Int) % 128 * 2 ^ (7 * k)) = ((x.toNat % 128 * 128 ^ k : Nat) : Int) := by
    rw [Int.natCast_mul, Int.natCast_pow, Int.pow_mul]; rfl
  rw [e, IntWalk.wrap64_in _ ⟨by omega, by omega⟩, or_i64 _ _ (by omega) (by omega), rn_or _ _ _ hv, val_take hx]

theorem and127_u8 (y : UInt8) : bits .and .u8 (y.toNat : Int) 127 = ((y.toNat % 128 : Nat) : Int) := by
  have := u8_and_nat y.toNat 127 y.toNat_lt (by decide)
  rw [show ((127 : Nat) : Int) = 127 from rfl] at this
  rw [this, show (127 : Nat) = 2 ^ 7 - 1 from rfl, Nat.and_two_pow_sub_one_eq_mod]

theorem bstr_inj {a b : List UInt8} (h : bstr a = bstr b) : a = b := by
  have := congrArg (fun s : ByteArray => s.data.toList) h
  simpa [bstr] using this
theorem toList_inj' {a b : ByteArray} (h : a.toList = b.toList) : a = b := by
  obtain ⟨⟨l⟩⟩ := a
  obtain ⟨⟨m⟩⟩ := b
  simp at h
  rw [h]

def ReadPost (l : List UInt8) (w : World) (e : Ending) (w' : World) : Prop :=
  ∃ v, e = .returned (.tuple #[.int .i64 (readNum l).1, v, .int .i64 (readNum l).2.2]) ∧ OS 5 1 cU8 w' w.heap.size v (readNum l).2.1 ∧ Below w.heap.size w w'

theorem read_err {l : List UInt8} {w w' : World} {n : Int} (h : readNum l = (0, [], n)) (hb : Below w.heap.size w w') : ReadPost l w (.returned (.tuple #[.int .i64 0, .slice none 0 0, .int .i64 n])) w' := by
  refine ⟨.slice none 0 0, by rw [h], ?_, hb⟩
  rw [h]
  exact OS.nil
theorem read_ok {l r : List UInt8} {w w' : World} {n : Int} {v : Value} (h : readNum l = (n, r, 0)) (ho : OS 5 1 cU8 w' w.heap.size v r) (hb : Below w.heap.size w w') : ReadPost l w (.returned (.tuple #[.int .i64 n, v, .int .i64 0])) w' := by
  refine ⟨v, by rw [h], ?_, hb⟩
  rw [h]
  exact ho

set_option maxRecDepth 100000 in
set_option maxHeartbeats 2000000 in
theorem wire_ReadNumber (v : Value) (l : List UInt8) (w : World) (h : RB w v l) :
    Calls Tryz.prog 112 #[v] w (ReadPost l w) := by
  have hh := h
  obtain ⟨a, c, rfl, hlc, hcm, hre, hno, hat⟩ := hh
  unfold maxLen at hcm
  go_enter Tryz.func112, Tryz.ntmps112
  go_wp2
  go_loopw [5, 10] (fun t i wr => ∃ k : Nat, i = .int .i64 k ∧ k < 5 ∧ Goes l k ∧ t = .int .i64 ((val (l.take k) : Nat) : Int) ∧ wr = w) (fun _ i _ => 5 - (intOf i).toNat)
  case atStart => exact ⟨0, rfl, by omega, Goes.zero l, by simp [val], rfl⟩
  case round =>
    obtain ⟨k, rfl, hk5, hgo, rfl, rfl⟩ := hrel
    have hkl := hgo.1
    by_cases hlt : k < l.length
    · have hx : l[k]? = some l[k] := List.getElem?_eq_getElem hlt
      generalize l[k] = x at hx
      obtain ⟨b, off, rfl, hbb, he⟩ := hat k _ hx
      unfold EU8 at he
      rw [Nat.mul_one] at he
      have hxl : (x.toNat : Int) < 256 := by have := x.toNat_lt; omega
      have hor := rn_step hk5 hx
      generalize hV : val (l.take (k + 1)) = V at hor
      replace hV := hid hV
      by_cases h128 : 128 ≤ x.toNat
      · have hgs := hgo.succ hx h128
        by_cases hk4 : k = 4
        · subst hk4
          have hend := hid (rn_form5 hgs)
          clear hat hgo hgs hx
          go_wp2_with fail
          go_ret3
          exact read_err hend.out (Below.refl _ _)
        · have hk4' : ((k : Int) == 4) = false := by simp; omega
          replace hgs := hid hgs
          clear hat hgo hx
          go_wp2_with fail
          go_roundw
          case rel => exact ⟨k + 1, by go_num, by omega, hgs.out, by rw [hV.out], by trivial⟩
          case measure => simp [intOf]; omega
      · have hat0 := hid (rn_at hgo hk5 hx (by omega))
        by_cases hbig : 4294967295 < V
        · have hend := hid (show readNum l = (0, [], 3) by rw [hat0.out, hV.out, if_pos (.inl hbig)])
          have hd : decide (4294967295 < (V : Int)) = true := by simp; omega
          clear hat hgo hx hat0 hV
          go_wp2_with fail
          go_ret3
          exact read_err hend.out (Below.refl _ _)
        · have hd : decide (4294967295 < (V : Int)) = false := by simp; omega
          by_cases hbad : x.toNat = 0 ∧ 0 < k
          · obtain ⟨hx0, hk0⟩ := hbad
            have hend := hid (show readNum l = (0, [], 3) by rw [hat0.out, if_pos (.inr ⟨hx0, hk0⟩)])
            have hx0' : ((x.toNat : Int) == 0) = true := by simp [hx0]
            have hk0' : decide (0 < (k : Int)) = true := by simp; omega
            clear hat hgo hx hat0 hV hx0
            go_wp2_with fail
            go_ret3
            exact read_err hend.out (Below.refl _ _)
          · have hend := hid (show readNum l = ((V : Int), l.drop (k + 1), 0) by rw [hat0.out, hV.out, if_neg (by omega)])
            have hfrom := RS.from h (k + 1) hlt
            have hdis : (x.toNat = 0 ∧ k = 0) ∨ ((x.toNat : Int) == 0) = false := by
              by_cases hx0 : x.toNat = 0
              · left; omega
              · right; simp; omega
            clear hat hgo hx hat0 hV hbad h
            by_cases hcc : c = k + 1
            · subst hcc
              rw [if_pos rfl, Nat.sub_self, show l.length - (k + 1) = 0 by omega] at hfrom
              rcases hdis with ⟨g1, g2⟩ | g1
              · have g1' : ((x.toNat : Int) == 0) = true := by simp [g1]
                have g2' : decide (0 < k) = false := by simp [g2]
                clear g1 g2
                go_wp2_with fail
                refine (bytes_Clone _ _ _ hfrom).mono ?_
                rintro e w1 ⟨v', rfl, hown, hb⟩
                clear hfrom
                go_wp2_with fail
                go_ret3
                exact read_ok hend.out hown hb
              · go_wp2_with fail
                refine (bytes_Clone _ _ _ hfrom).mono ?_
                rintro e w1 ⟨v', rfl, hown, hb⟩
                clear hfrom
                go_wp2_with fail
                go_ret3
                exact read_ok hend.out hown hb
            · rw [if_neg hcc] at hfrom
              simp only [Option.map_some, Addr.add, Nat.mul_one, Nat.add_one_ne_zero, if_false] at hfrom
              rcases hdis with ⟨g1, g2⟩ | g1
              · have g1' : ((x.toNat : Int) == 0) = true := by simp [g1]
                have g2' : decide (0 < k) = false := by simp [g2]
                clear g1 g2
                go_wp2_with fail
                refine (bytes_Clone _ _ _ hfrom).mono ?_
                rintro e w1 ⟨v', rfl, hown, hb⟩
                clear hfrom
                go_wp2_with fail
                go_ret3
                exact read_ok hend.out hown hb
              · go_wp2_with fail
                refine (bytes_Clone _ _ _ hfrom).mono ?_
                rintro e w1 ⟨v', rfl, hown, hb⟩
                clear hfrom
                go_wp2_with fail
                go_ret3
                exact read_ok hend.out hown hb
    · have hend := hid (rn_short hgo (by omega) hk5)
      clear hat hgo
      go_wp2_with fail
      go_ret3
      exact read_err hend.out (Below.refl _ _)

set_option maxRecDepth 100000 in
set_option maxHeartbeats 2000000 in
theorem ref_WireNumberOf (v : Value) (l : List UInt8) (w : World) (h : RB w v l) :
    Calls Tryz.prog 101 #[v] w (ReadPost l w) := by
  have hh := h
  obtain ⟨a, c, rfl, hlc, hcm, hre, hno, hat⟩ := hh
  unfold maxLen at hcm
  go_enter Tryz.func101, Tryz.ntmps101
  go_wp2
  go_loopw [5] (fun i wr => ∃ k : Nat, i = .int .i64 k ∧ k ≤ 5 ∧ Goes l k ∧ wr = w) (fun i _ => 5 - (intOf i).toNat)
  case atStart => exact ⟨0, rfl, by omega, Goes.zero l, rfl⟩
  case round =>
    obtain ⟨k, rfl, hk5, hgo, rfl⟩ := hrel
    have hkl := hgo.1
    by_cases hk : k = 5
    · subst hk
      have hend := hid (rn_form5 hgo)
      have hd : decide ((5 : Int) < 5) = false := by decide
      clear hat hgo
      by_cases h5l : 5 < l.length
      all_goals
        go_wp2_with fail
        go_ret3
        exact read_err hend.out (Below.refl _ _)
    · have hk' : ((k : Int) == 5) = false := by simp; omega
      by_cases hlt : k < l.length
      · have hx : l[k]? = some l[k] := List.getElem?_eq_getElem hlt
        generalize l[k] = x at hx
        obtain ⟨b, off, rfl, hbb, he⟩ := hat k _ hx
        unfold EU8 at he
        rw [Nat.mul_one] at he
        have hxl : (x.toNat : Int) < 256 := by have := x.toNat_lt; omega
        by_cases h128 : 128 ≤ x.toNat
        · have hgs := hid (hgo.succ hx h128)
          clear hat hgo hx
          go_wp2_with fail
          go_roundw
          case rel => exact ⟨k + 1, by go_num, by omega, hgs.out, by trivial⟩
          case measure => simp [intOf]; omega
        · have hkl' : ((k : Int) == (l.length : Int)) = false := by simp; omega
          have hat0 := hid (rn_at hgo (by omega) hx (by omega))
          have hag := hid (again_iff hgo hx (by omega))
          have hcells : Hid (∀ j y, l[j]? = some y → wr.cell? ⟨b, off + j, none⟩ = some (.int .u8 (y.toNat : Int))) := by
            show ∀ j y, _ → _
            intro j y hj
            obtain ⟨b', off', e', hb', he'⟩ := hat j y hj
            simp only [Option.some.injEq, Addr.mk.injEq, and_true] at e'
            obtain ⟨rfl, rfl⟩ := e'
            unfold EU8 at he'
            rwa [Nat.mul_one] at he'
          clear hat hgo hx
          go_wp2_with fail
          go_loopw [6, 7] (fun n i wi => ∃ j : Nat, j ≤ k + 1 ∧ i = .int .i64 ((j : Int) - 1) ∧ n = .int .i64 ((val ((l.take (k + 1)).drop j) : Nat) : Int) ∧ wi = wr) (fun _ i _ => (intOf i + 1).toNat)
          case atStart => exact ⟨k + 1, by omega, by go_num, by rw [List.drop_of_length_le (by simp; omega)]; rfl, rfl⟩
          case round =>
            obtain ⟨j, hj, rfl, rfl, rfl⟩ := hrel
            have hvl := val_lt ((l.take (k + 1)).drop j)
            rw [List.length_drop, List.length_take, Nat.min_eq_left (by omega)] at hvl
            by_cases hj0 : 0 < j
            · obtain ⟨y, hy⟩ : ∃ y, l[j - 1]? = some y := ⟨_, List.getElem?_eq_getElem (by omega)⟩
              have hyc := hcells.out _ _ hy
              have hyl : (y.toNat : Int) < 256 := by have := y.toNat_lt; omega
              have hvs := hid (show val ((l.take (k + 1)).drop (j - 1)) = y.toNat % 128 + 128 * val ((l.take (k + 1)).drop j) by
                have : (l.take (k + 1)).drop (j - 1) = y :: (l.take (k + 1)).drop j := by
                  rw [List.drop_eq_getElem_cons (by simp; omega)]
                  congr 1
                  · rw [List.getElem_take]
                    exact (List.getElem?_eq_some_iff.1 hy).2
                  · rw [Nat.sub_add_cancel hj0]
                rw [this, val])
              have hp : (128 : Nat) ^ (k + 1 - j) ≤ 128 ^ 4 := Nat.pow_le_pow_right (by decide) (by omega)
              have hub : val ((l.take (k + 1)).drop j) < 268435456 := by omega
              have hand : bits .and .u8 (y.toNat : Int) 127 = ((y.toNat % 128 : Nat) : Int) := and127_u8 y
              have hy7 : y.toNat % 128 < 128 := Nat.mod_lt _ (by decide)
              generalize y.toNat % 128 = y7 at hand hy7 hvs
              clear hvl hp hy hcells
              go_wp2_with fail
              go_roundw
              case rel => exact ⟨j - 1, by omega, by go_num, by rw [hvs.out]; go_num, by trivial⟩
              case measure => simp [intOf]; omega
            · obtain rfl : j = 0 := by omega
              rw [List.drop_zero]
              generalize hV : val (l.take (k + 1)) = V
              replace hV := hid hV
              have hbuf := RS.upto h (k + 1) (by omega)
              have hfrom := RS.from h (k + 1) hlt
              have hlt1 : (l.take (k + 1)).length = k + 1 := by simp; omega
              clear hvl hcells h
              by_cases hbig : 4294967295 < V
              · have hend := hid (show readNum l = (0, [], 3) by rw [hat0.out, hV.out, if_pos (.inl hbig)])
                clear hat0 hag hV
                go_wp2_with fail
                refine (ref_WireNumber_no _ _ (.inr (by omega))).mono ?_
                rintro e w1 ⟨rfl, rfl⟩
                go_wp2_with fail
                go_quiet (fail)
                go_wp2_with fail
                go_ret3
                exact read_err hend.out (below_drewN (Below.refl _ _) _)
              · go_wp2_with fail
                refine (ref_WireNumber _ _ (by omega) (by omega)).mono ?_
                rintro e w1 ⟨v1, rfl, hown, hb1⟩
                rw [Int.toNat_natCast] at hown
                have hvn := varint_len5 V (by omega)
                have r1 := reads_u8 hown (by omega)
                have r2 := hbuf.mono EU8.stable hb1
                have r3 := hfrom.mono EU8.stable hb1
                have c1 : ∀ n, (convert 52 9 v1).run Tryz.prog (w1.drewN n) = .ok (.string (bstr (varint V))) (w1.drewN n) := fun n => run_string_of 52 5 Tryz.underlying52 Tryz.underlying5 9 Tryz.underlying9 r1
                have c2 : ∀ n, (convert 52 9 (.slice (some ⟨b, off, none⟩) (k + 1) c)).run Tryz.prog (w1.drewN n) = .ok (.string (bstr (l.take (k + 1)))) (w1.drewN n) := fun n => run_string_of 52 5 Tryz.underlying52 Tryz.underlying5 9 Tryz.underlying9 r2
                clear hown hbuf hfrom r1 r2
                by_cases hbad : x.toNat = 0 ∧ 0 < k
                · have hend := hid (show readNum l = (0, [], 3) by rw [hat0.out, if_pos (.inr hbad)])
                  have hne : ((bstr (varint V)).toList == (bstr (l.take (k + 1))).toList) = false := by
                    rw [beq_eq_false_iff_ne, ← hV.out]
                    intro he
                    exact (hag.out.1 (bstr_inj (toList_inj' he))) hbad
                  clear hat0 hag hbad hV r3
                  go_wp2_with fail
                  go_quiet (fail)
                  go_wp2_with fail
                  go_ret3
                  exact read_err hend.out (below_drewN hb1 _)
                · have hend := hid (show readNum l = ((V : Int), l.drop (k + 1), 0) by rw [hat0.out, hV.out, if_neg (by omega)])
                  have hne : ((bstr (varint V)).toList == (bstr (l.take (k + 1))).toList) = true := by
                    rw [beq_iff_eq, ← hV.out, hag.out.2 hbad]
                  clear hat0 hag hbad hV
                  obtain ⟨i0, hi, hz0, hz1, hz2⟩ := info_parts info_u8
                  go_wp2_with fail
                  go_quiet (fail)
                  by_cases hcc : c = k + 1
                  · subst hcc
                    rw [if_pos rfl, Nat.sub_self, show l.length - (k + 1) = 0 by omega] at r3
                    go_wp2_with (at_builtin; go_must (refine wpL_append flat_u8 rfl (.tmp 65) (.tmp 69) 52 rfl 5 i0 (.int .u8 0) Tryz.underlying52 hi hz0 hz1 hz2 rfl _ _ [] rfl (os_empty _ _ _ _ (by simp) (by have := hb1.size; simp; omega)) _ (l.drop (k + 1)) rfl (RS.mono EU8.stable (w := w1) r3 (b_alloc (below_drewN (Below.refl _ _) _) _)) ?c1 ?c2 ?c3 ?_))
                    case c1 => simp; omega
                    case c2 => simp [maxLen]; omega
                    case c3 => have := hb1.size; simp; omega
                    intro v' w2 hown hg
                    have hb2 := b_grown (b_alloc (below_drewN hb1 nq) (.cells #[] 5)) hg (fun k hk => by have := hb1.size; simp [Value.ownBlock] at hk; omega)
                    clear hg
                    go_wp2_with fail
                    go_ret3
                    exact read_ok hend.out hown hb2
                  · rw [if_neg hcc] at r3
                    simp only [Option.map_some, Addr.add, Nat.mul_one, Nat.add_one_ne_zero, if_false] at r3
                    go_wp2_with (at_builtin; go_must (refine wpL_append flat_u8 rfl (.tmp 65) (.tmp 69) 52 rfl 5 i0 (.int .u8 0) Tryz.underlying52 hi hz0 hz1 hz2 rfl _ _ [] rfl (os_empty _ _ _ _ (by simp) (by have := hb1.size; simp; omega)) _ (l.drop (k + 1)) rfl (RS.mono EU8.stable (w := w1) r3 (b_alloc (below_drewN (Below.refl _ _) _) _)) ?c1 ?c2 ?c3 ?_))
                    case c1 => simp; omega
                    case c2 => simp [maxLen]; omega
                    case c3 => have := hb1.size; simp; omega
                    intro v' w2 hown hg
                    have hb2 := b_grown (b_alloc (below_drewN hb1 nq) (.cells #[] 5)) hg (fun k hk => by have := hb1.size; simp [Value.ownBlock] at hk; omega)
                    clear hg
                    go_wp2_with fail
                    go_ret3
                    exact read_ok hend.out hown hb2
      · have hkl' : ((k : Int) == (l.length : Int)) = true := by simp; omega
        have hend := hid (rn_short hgo (by omega) (by omega))
        clear hat hgo
        go_wp2_with fail
        go_ret3
        exact read_err hend.out (Below.refl _ _)
end Go.Proofs.YtpcnhldlfmdlhaaGreatDoor

namespace Go.Proofs.YtpcnhldlfmdlhaaGreatDoor
open Go.RowKit

/-- A string made into bytes: a new block that reads so. -/
theorem conv_reads (w : World) (t : TypeId) (s : ByteArray) (hs : s.size ≤ 140737488351232) : RB (Lib.bytesWorld w t s) (.slice (some ⟨w.heap.size, 0, none⟩) s.size (grownCap w s.size 0 t)) s.data.toList := by
  have e1 : s.data.toList.length = s.size := by rw [Array.length_toList]; rfl
  refine ⟨_, _, by rw [e1], by rw [e1]; exact grownCap_ge w _ _ _, grownCap_le_maxLen w _ _ _ (by simp [maxLen]; omega), by omega, fun h => by simp at h, fun k x hk => ⟨w.heap.size, 0, rfl, by rw [Lib.bytesWorld_size]; omega, ?_⟩⟩
  have hkl : k < s.size := by rw [← e1]; exact (List.getElem?_eq_some_iff.1 hk).1
  unfold EU8
  rw [Nat.mul_one, Nat.zero_add, Lib.bytesWorld_cell w t s k hkl]
  simp [List.getD, hk]
theorem conv_below (w : World) (t : TypeId) (s : ByteArray) : Below w.heap.size w (Lib.bytesWorld w t s) :=
  ⟨rfl, rfl, rfl, by rw [Lib.bytesWorld_size]; omega, fun k hk => Lib.bytesWorld_at_old w t s k hk⟩

theorem rn_range (l : List UInt8) : 0 ≤ (readNum l).1 ∧ (readNum l).1 ≤ 4294967295 := by
  unfold readNum
  split
  · exact ⟨by decide, by decide⟩
  · split
    · exact ⟨by decide, by decide⟩
    · split
      · exact ⟨by decide, by decide⟩
      · constructor <;> simp <;> omega
theorem rn_rest_le (l : List UInt8) : (readNum l).2.1.length ≤ l.length := by
  unfold readNum
  split
  · simp
  · split
    · simp
    · split
      · simp
      · simp

def readText (l : List UInt8) : ByteArray × List UInt8 × Int :=
  if (readNum l).2.2 ≠ 0 then (⟨#[]⟩, [], (readNum l).2.2) else if 2000 < (readNum l).1 then (⟨#[]⟩, [], 1) else if ((readNum l).2.1.length : Int) < (readNum l).1 then (⟨#[]⟩, [], 8)
  else (bstr ((readNum l).2.1.take (readNum l).1.toNat), (readNum l).2.1.drop (readNum l).1.toNat, 0)

theorem readText_of {l r : List UInt8} {n e : Int} (h : readNum l = (n, r, e)) : readText l = if e ≠ 0 then (⟨#[]⟩, [], e) else if 2000 < n then (⟨#[]⟩, [], 1) else if (r.length : Int) < n then (⟨#[]⟩, [], 8) else (bstr (r.take n.toNat), r.drop n.toNat, 0) := by
  unfold readText; rw [h]

theorem readText_rest_le (l : List UInt8) : (readText l).2.1.length ≤ l.length := by
  have h := rn_rest_le l
  unfold readText
  split
  · simp
  · split
    · simp
    · split
      · simp
      · simp; omega

end Go.Proofs.YtpcnhldlfmdlhaaGreatDoor

namespace Go.Proofs.YtpcnhldlfmdlhaaGreatDoor
open Go.RowKit

def TextOwn (l : List UInt8) (w : World) (e : Ending) (w' : World) : Prop :=
  ∃ v, e = .returned (.tuple #[.string (readText l).1, v, .int .i64 (readText l).2.2]) ∧ OS 5 1 cU8 w' w.heap.size v (readText l).2.1 ∧ Below w.heap.size w w'
theorem town_err {l : List UInt8} {w w' : World} {n : Int} (h : readText l = (⟨#[]⟩, [], n)) (hb : Below w.heap.size w w') : TextOwn l w (.returned (.tuple #[.string ⟨#[]⟩, .slice none 0 0, .int .i64 n])) w' := by
  refine ⟨.slice none 0 0, by rw [h], ?_, hb⟩
  rw [h]
  exact OS.nil
theorem town_ok {l r : List UInt8} {w w' : World} {s : ByteArray} {v : Value} (h : readText l = (s, r, 0)) (ho : OS 5 1 cU8 w' w.heap.size v r) (hb : Below w.heap.size w w') : TextOwn l w (.returned (.tuple #[.string s, v, .int .i64 0])) w' := by
  refine ⟨v, by rw [h], ?_, hb⟩
  rw [h]
  exact ho

set_option maxRecDepth 100000 in
set_option maxHeartbeats 1000000 in
theorem wire_ReadText_own (v : Value) (l : List UInt8) (w : World) (h : RB w v l) :
    Calls Tryz.prog 113 #[v] w (TextOwn l w) := by
  have hrr := rn_range l
  have hrl := rn_rest_le l
  have hll : l.length ≤ 140737488351232 := by obtain ⟨_, _, _, _, _, hre, _⟩ := h; omega
  go_enter Tryz.func113, Tryz.ntmps113
  go_wp2_with fail
  refine (wire_ReadNumber _ _ _ h).mono ?_
  rintro e w1 ⟨v1, rfl, hown, hb1⟩
  have r1 := reads_u8 hown (by omega)
  clear hown h
  generalize hp : readNum l = p at hrr hrl r1 ⊢
  obtain ⟨n, r, e⟩ := p
  have hdef := readText_of hp
  clear hp
  simp only at hrr hrl r1 ⊢
  by_cases he : e = 0
  · subst he
    rw [if_neg (by simp)] at hdef
    by_cases h2000 : 2000 < n
    · rw [if_pos h2000] at hdef
      replace hdef := hid hdef
      go_wp2_with fail
      go_ret3
      exact town_err hdef.out hb1
    · rw [if_neg h2000] at hdef
      obtain ⟨m, rfl⟩ := Int.eq_ofNat_of_zero_le hrr.1
      by_cases hshort : r.length < m
      · rw [if_pos (by omega)] at hdef
        replace hdef := hid hdef
        obtain ⟨a, c, rfl, _⟩ := r1
        go_wp2_with fail
        go_ret3
        exact town_err hdef.out hb1
      · rw [if_neg (by omega), Int.toNat_natCast] at hdef
        replace hdef := hid hdef
        have r1' := r1
        obtain ⟨a, c, rfl, hlc, hcm, hre, hno, _⟩ := r1
        unfold maxLen at hcm
        have hup := RS.upto r1' m (by omega)
        have hfr := RS.from r1' m (by omega)
        have hml : m ≤ r.length := by omega
        have hc1 : ∀ W, Below w1.heap.size w1 W → (convert 52 9 (.slice a m c)).run Tryz.prog W = .ok (.string (bstr (r.take m))) W := fun W hW =>
          run_string_of 52 5 Tryz.underlying52 Tryz.underlying5 9 Tryz.underlying9 (hup.mono EU8.stable hW)
        have c1 := hc1 _ (Below.drew (Below.refl _ _))
        by_cases hcm2 : c = m
        · subst hcm2
          rw [if_pos rfl, Nat.sub_self, show r.length - c = 0 by omega] at hfr
          replace hc1 := hid hc1
          go_wp2_with fail
          go_region_with (go_at_call 138; refine (bytes_Clone _ _ _ (hfr.mono EU8.stable (Below.drew (Below.refl _ _)))).mono ?_; rintro e w2 ⟨v2, rfl, ho2, hb2⟩; have c2 := hc1.out _ (b_call (Below.drew (Below.refl _ _)) hb2))
          all_goals
            have hb3 := b_call hb1 (b_call (Below.drew (Below.refl _ _)) hb2)
            clear c1 c2 hb2
            go_wp2_with fail
            go_ret3
            exact town_ok hdef.out (OS.mono ho2 hb1.size) hb3
        · rw [if_neg hcm2, Nat.mul_one] at hfr
          replace hc1 := hid hc1
          go_wp2_with fail
          go_region_with (go_at_call 138; refine (bytes_Clone _ _ _ (hfr.mono EU8.stable (Below.drew (Below.refl _ _)))).mono ?_; rintro e w2 ⟨v2, rfl, ho2, hb2⟩; have c2 := hc1.out _ (b_call (Below.drew (Below.refl _ _)) hb2))
          all_goals
            have hb3 := b_call hb1 (b_call (Below.drew (Below.refl _ _)) hb2)
            clear c1 c2 hb2
            go_wp2_with fail
            go_ret3
            exact town_ok hdef.out (OS.mono ho2 hb1.size) hb3
  · rw [if_pos he] at hdef
    have hne : (e != 0) = true := by simp [he]
    have hne2 : (e == 0) = false := by simp [he]
    replace hdef := hid hdef
    clear he
    go_wp2_with fail
    go_ret3
    exact town_err hdef.out hb1

end Go.Proofs.YtpcnhldlfmdlhaaGreatDoor

namespace Go.Proofs.YtpcnhldlfmdlhaaGreatDoor
open Go.RowKit

def TextNew (l : List UInt8) (w : World) (e : Ending) (w' : World) : Prop :=
  ∃ v, e = .returned (.tuple #[.string (readText l).1, v, .int .i64 (readText l).2.2]) ∧ RB w' v (readText l).2.1 ∧ (∀ k, v.ownBlock = some k → w.heap.size ≤ k) ∧ Below w.heap.size w w'
theorem tnew_err {l : List UInt8} {w w' : World} {n : Int} (h : readText l = (⟨#[]⟩, [], n)) (hb : Below w.heap.size w w') : TextNew l w (.returned (.tuple #[.string ⟨#[]⟩, .slice none 0 0, .int .i64 n])) w' := by
  refine ⟨.slice none 0 0, by rw [h], ?_, fun k hk => by simp [Value.ownBlock] at hk, hb⟩
  rw [h]
  exact RS.nil
theorem tnew_ok {l r : List UInt8} {w w' : World} {s : ByteArray} {v : Value} (h : readText l = (s, r, 0)) (ho : RB w' v r) (hn : ∀ k, v.ownBlock = some k → w.heap.size ≤ k) (hb : Below w.heap.size w w') : TextNew l w (.returned (.tuple #[.string s, v, .int .i64 0])) w' := by
  refine ⟨v, by rw [h], ?_, hn, hb⟩
  rw [h]
  exact ho
theorem own_map {a : Option Addr} {n l c l' c' k : Nat} (h : (Value.slice (a.map (·.add n)) l c).ownBlock = some k) : (Value.slice a l' c').ownBlock = some k := by
  cases a with
  | none => simp [Value.ownBlock] at h
  | some ad =>
    simp only [Option.map_some, Value.ownBlock, Option.some.injEq] at h ⊢
    rw [← h]
    unfold Addr.add
    split <;> rfl

set_option maxRecDepth 100000 in
set_option maxHeartbeats 1000000 in
theorem ref_WireTextOf_new (v : Value) (l : List UInt8) (w : World) (h : RB w v l) :
    Calls Tryz.prog 102 #[v] w (TextNew l w) := by
  have hrr := rn_range l
  have hrl := rn_rest_le l
  have hll : l.length ≤ 140737488351232 := by obtain ⟨_, _, _, _, _, hre, _⟩ := h; omega
  go_enter Tryz.func102, Tryz.ntmps102
  go_wp2_with fail
  refine (ref_WireNumberOf _ _ _ h).mono ?_
  rintro e w1 ⟨v1, rfl, hown, hb1⟩
  have r1 := reads_u8 hown (by omega)
  have hnew := hid (OS.block hown)
  clear hown h
  generalize hp : readNum l = p at hrr hrl r1 ⊢
  obtain ⟨n, r, e⟩ := p
  have hdef := readText_of hp
  clear hp
  simp only at hrr hrl r1 ⊢
  by_cases he : e = 0
  · subst he
    rw [if_neg (by simp)] at hdef
    by_cases h2000 : 2000 < n
    · rw [if_pos h2000] at hdef
      replace hdef := hid hdef
      go_wp2_with fail
      go_ret3
      exact tnew_err hdef.out hb1
    · rw [if_neg h2000] at hdef
      obtain ⟨m, rfl⟩ := Int.eq_ofNat_of_zero_le hrr.1
      by_cases hshort : r.length < m
      · rw [if_pos (by omega)] at hdef
        replace hdef := hid hdef
        obtain ⟨a, c, rfl, _⟩ := r1
        go_wp2_with fail
        go_ret3
        exact tnew_err hdef.out hb1
      · rw [if_neg (by omega), Int.toNat_natCast] at hdef
        replace hdef := hid hdef
        have r1' := r1
        obtain ⟨a, c, rfl, hlc, hcm, hre, hno, _⟩ := r1
        unfold maxLen at hcm
        have hup := RS.upto r1' m (by omega)
        have hfr := RS.from r1' m (by omega)
        have hml : m ≤ r.length := by omega
        have c1 : ∀ n, (convert 52 9 (.slice a m c)).run Tryz.prog (w1.drewN n) = .ok (.string (bstr (r.take m))) (w1.drewN n) := fun n =>
          run_string_of 52 5 Tryz.underlying52 Tryz.underlying5 9 Tryz.underlying9 hup
        by_cases hcm2 : c = m
        · subst hcm2
          rw [if_pos rfl, Nat.sub_self, show r.length - c = 0 by omega] at hfr
          go_wp2_with fail
          go_quiet (fail)
          go_wp2_with fail
          go_ret3
          exact tnew_ok hdef.out (RS.mono EU8.stable (w := w1) hfr (below_drewN (Below.refl _ _) _)) (fun k hk => hnew.out k (by cases a <;> exact hk)) (below_drewN hb1 _)
        · rw [if_neg hcm2, Nat.mul_one] at hfr
          go_wp2_with fail
          go_quiet (fail)
          go_wp2_with fail
          go_ret3
          exact tnew_ok hdef.out (RS.mono EU8.stable (w := w1) hfr (below_drewN (Below.refl _ _) _)) (fun k hk => hnew.out k (own_map hk)) (below_drewN hb1 _)
  · rw [if_pos he] at hdef
    have hne : (e != 0) = true := by simp [he]
    have hne2 : (e == 0) = false := by simp [he]
    replace hdef := hid hdef
    clear he
    go_wp2_with fail
    go_ret3
    exact tnew_err hdef.out hb1

end Go.Proofs.YtpcnhldlfmdlhaaGreatDoor
