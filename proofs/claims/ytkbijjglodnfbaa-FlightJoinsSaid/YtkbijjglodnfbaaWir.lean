/-
  wire.Number and the reference's WireNumber: what each computes. Reading a number: what wire.ReadNumber answers, in plain words. No program here. bytes.Clone, wire.ReadNumber and the reference's WireNumberOf: what each computes. wire.Text, wire.ReadText and the reference's WireText, WireTextOf: what each computes; the laws WireReads and WireTexts. wire.ReadText once more, saying besides that what is left lies in the call's own memory. Printed by gen_rt.py. The reference's WireTextOf once more, saying besides that what is left lies in new memory. Printed by gen_rt.py.
-/
import Derived.Test.YtkbijjglodnfbaaBas
import Derived.BigQuiet
import Derived.Deep.QuietTactic
import Derived.Lib.AppendStr
import Derived.Lib.ConvBytes
import Derived.Deep.RegionWith
namespace Go.Proofs.Ytkbijjglodnfbaa
open Go.RowKit

/-- The last byte of a varint; a byte before it. -/
def lastB (n : Nat) : UInt8 := UInt8.ofNat n
def moreB (n : Nat) : UInt8 := UInt8.ofNat (n % 128 + 128)

/-- The varint of a number. -/
def varint (n : Nat) : List UInt8 := if n < 128 then [lastB n] else moreB n :: varint (n / 128)
termination_by n
decreasing_by omega

theorem varint_small (n : Nat) (h : n < 128) : varint n = [lastB n] := by rw [varint, if_pos h]
theorem varint_big (n : Nat) (h : ¬ n < 128) : varint n = moreB n :: varint (n / 128) := by rw [varint, if_neg h]
theorem varint_len (n : Nat) (k : Nat) (h : n < 128 ^ (k + 1)) : (varint n).length ≤ k + 1 := by
  induction k generalizing n with
  | zero => rw [varint_small n (by simpa using h)]; simp
  | succ k ih =>
    by_cases hn : n < 128
    · rw [varint_small n hn]; simp
    · rw [varint_big n hn, List.length_cons]
      have := ih (n / 128) (by rw [Nat.div_lt_iff_lt_mul (by decide)]; rw [Nat.pow_succ] at h; exact h)
      omega
theorem varint_len5 (n : Nat) (h : n < 4294967296) : (varint n).length ≤ 5 := varint_len n 4 (by omega)
theorem varint_pos (n : Nat) : 0 < (varint n).length := by
  by_cases hn : n < 128
  · rw [varint_small n hn]; simp
  · rw [varint_big n hn]; simp

theorem or128 (m : Nat) : bits .or .u8 ((m : Int) % 128) 128 = ((moreB m).toNat : Int) := by
  unfold moreB
  have h : m % 128 < 128 := Nat.mod_lt _ (by decide)
  have e : ((m : Int) % 128) = ((m % 128 : Nat) : Int) := by omega
  rw [e]
  have := u8_or_nat (m % 128) 128 (by omega) (by decide)
  rw [show ((128 : Nat) : Int) = 128 from rfl] at this
  rw [this]
  have key : ∀ x, x < 128 → x ||| 128 = (UInt8.ofNat (x + 128)).toNat := by decide
  rw [key _ h]

theorem or128' (m : Nat) : bits .or .u8 ((lastB (m % 128)).toNat : Int) 128 = ((moreB m).toNat : Int) := by
  rw [← or128]
  congr 1
  unfold lastB
  rw [UInt8.toNat_ofNat']
  omega

theorem and127 (n : Int) (h0 : 0 ≤ n) (h1 : n < 9223372036854775808) : bits .and .i64 n 127 = ((n.toNat % 128 : Nat) : Int) := by
  have := bits_mask .i64 63 (by decide) (fun m a b => by rw [IntKind.wrap_i64]; omega) 7 (by decide) n h0 h1
  rw [show (2 : Int) ^ 7 - 1 = 127 from rfl] at this
  rw [this]
  omega

theorem mask_one (w : World) (n : Int) (h0 : 0 ≤ n) (h1 : n < 9223372036854775808) : OS 5 1 cU8 (w.alloc (.cells #[.int .u8 (bits .and .i64 n 127 % 256)] 5)) w.heap.size (.slice (some ⟨w.heap.size, 0, none⟩) 1 1) [lastB (n.toNat % 128)] := by
  have e : bits .and .i64 n 127 % 256 = ((lastB (n.toNat % 128)).toNat : Int) := by
    rw [and127 n h0 h1]; unfold lastB; rw [UInt8.toNat_ofNat']; omega
  rw [e]
  exact World.ownsRow_lit w #[.int .u8 ((lastB (n.toNat % 128)).toNat : Int)] 1 (Nat.le_refl _) (by simp [maxLen]) rfl

theorem info_u8 : (Try.prog.info? 5).map (fun i => (i.zero, i.size, i.bytes)) = some (some (.int .u8 0), 1, 1) := by kernel_rfl

end Go.Proofs.Ytkbijjglodnfbaa

namespace Go.Proofs.Ytkbijjglodnfbaa

/-- The number that groups of seven bits spell, the least group first. -/
def val : List UInt8 → Nat
  | [] => 0
  | c :: l => c.toNat % 128 + 128 * val l

def readNum (l : List UInt8) : Int × List UInt8 × Int :=
  if 5 ≤ (l.takeWhile fun c => decide (128 ≤ c.toNat)).length then (0, [], 3) else
  match l[(l.takeWhile fun c => decide (128 ≤ c.toNat)).length]? with
  | none => (0, [], 8)
  | some c => if 4294967295 < val (l.take ((l.takeWhile fun c => decide (128 ≤ c.toNat)).length + 1)) ∨ (c.toNat = 0 ∧ 0 < (l.takeWhile fun c => decide (128 ≤ c.toNat)).length) then (0, [], 3)
    else (val (l.take ((l.takeWhile fun c => decide (128 ≤ c.toNat)).length + 1)), l.drop ((l.takeWhile fun c => decide (128 ≤ c.toNat)).length + 1), 0)

theorem tw_len {α : Type} (p : α → Bool) : ∀ (l : List α) (k : Nat), (∀ j x, j < k → l[j]? = some x → p x = true) → k ≤ l.length → (∀ x, l[k]? = some x → p x = false) → (l.takeWhile p).length = k
  | [], k, _, h2, _ => by simp at h2; simp [h2]
  | a :: l, 0, _, _, h3 => by rw [List.takeWhile_cons, h3 a rfl]; rfl
  | a :: l, k + 1, h1, h2, h3 => by
    rw [List.takeWhile_cons, h1 0 a (by omega) rfl]
    simp only [if_true, List.length_cons]
    rw [tw_len p l k (fun j x hj hx => h1 (j + 1) x (by omega) (by simpa using hx)) (by simpa using h2) (fun x hx => h3 x (by simpa using hx))]
theorem tw_ge {α : Type} (p : α → Bool) : ∀ (l : List α) (k : Nat), (∀ j x, j < k → l[j]? = some x → p x = true) → k ≤ l.length → k ≤ (l.takeWhile p).length
  | [], k, _, h2 => by simpa using h2
  | a :: l, 0, _, _ => by omega
  | a :: l, k + 1, h1, h2 => by
    rw [List.takeWhile_cons, h1 0 a (by omega) rfl]
    simp only [if_true, List.length_cons]
    have := tw_ge p l k (fun j x hj hx => h1 (j + 1) x (by omega) (by simpa using hx)) (by simpa using h2)
    omega

/-- The first k bytes go on. -/
def Goes (l : List UInt8) (k : Nat) : Prop := k ≤ l.length ∧ ∀ j x, j < k → l[j]? = some x → 128 ≤ x.toNat
theorem Goes.zero (l : List UInt8) : Goes l 0 := ⟨Nat.zero_le _, fun j x h => by omega⟩
theorem Goes.succ {l : List UInt8} {k : Nat} {c : UInt8} (h : Goes l k) (hc : l[k]? = some c) (h128 : 128 ≤ c.toNat) : Goes l (k + 1) := by
  refine ⟨(List.getElem?_eq_some_iff.1 hc).1, fun j x hj hx => ?_⟩
  by_cases hjk : j = k
  · subst hjk; rw [hc] at hx; cases hx; exact h128
  · exact h.2 j x (by omega) hx

theorem rn_form5 {l : List UInt8} (h : Goes l 5) : readNum l = (0, [], 3) := by
  unfold readNum
  rw [if_pos (tw_ge _ l 5 (fun j x hj hx => by simpa using h.2 j x hj hx) h.1)]
theorem rn_short {l : List UInt8} {k : Nat} (h : Goes l k) (hk : k = l.length) (h5 : k < 5) : readNum l = (0, [], 8) := by
  have e := tw_len (fun c : UInt8 => decide (128 ≤ c.toNat)) l k (fun j x hj hx => by simpa using h.2 j x hj hx) h.1 (fun x hx => by rw [hk] at hx; simp at hx)
  unfold readNum
  rw [e, if_neg (by omega), hk]
  simp
theorem rn_at {l : List UInt8} {k : Nat} {c : UInt8} (h : Goes l k) (h5 : k < 5) (hc : l[k]? = some c) (h128 : c.toNat < 128) :
    readNum l = if 4294967295 < val (l.take (k + 1)) ∨ (c.toNat = 0 ∧ 0 < k) then (0, [], 3) else ((val (l.take (k + 1)) : Int), l.drop (k + 1), 0) := by
  have e := tw_len (fun c : UInt8 => decide (128 ≤ c.toNat)) l k (fun j x hj hx => by simpa using h.2 j x hj hx) h.1 (fun x hx => by rw [hc] at hx; cases hx; simpa using h128)
  unfold readNum
  rw [e, if_neg (by omega), hc]

theorem val_snoc : ∀ (l : List UInt8) (c : UInt8), val (l ++ [c]) = val l + c.toNat % 128 * 128 ^ l.length
  | [], c => by simp [val]
  | a :: l, c => by
    rw [List.cons_append, val, val, val_snoc l c, List.length_cons, Nat.pow_succ, Nat.mul_add, ← Nat.add_assoc]
    congr 1
    rw [Nat.mul_comm 128, Nat.mul_assoc]
theorem val_lt : ∀ l : List UInt8, val l < 128 ^ l.length
  | [] => by simp [val]
  | a :: l => by
    rw [val, List.length_cons, Nat.pow_succ]
    have h1 := val_lt l
    have h2 : a.toNat % 128 < 128 := Nat.mod_lt _ (by decide)
    omega
theorem val_take {l : List UInt8} {k : Nat} {c : UInt8} (hc : l[k]? = some c) : val (l.take (k + 1)) = val (l.take k) + c.toNat % 128 * 128 ^ k := by
  have hk := (List.getElem?_eq_some_iff.1 hc).1
  rw [List.take_add_one, hc]
  simp only [Option.toList_some]
  rw [val_snoc, List.length_take, Nat.min_eq_left (by omega)]

/-- A number that is spelt so, in as few bytes as may be, is its varint. -/
theorem varint_val : ∀ (l : List UInt8) (c : UInt8), (∀ x ∈ l, 128 ≤ x.toNat) → c.toNat < 128 → (c.toNat ≠ 0 ∨ l = []) → varint (val (l ++ [c])) = l ++ [c]
  | [], c, _, hc, _ => by
    simp only [List.nil_append, val, Nat.mul_zero, Nat.add_zero]
    rw [Nat.mod_eq_of_lt hc, varint_small _ hc]
    congr 1
    apply UInt8.toNat_inj.1
    simp [lastB]
  | a :: l, c, h, hc, h0 => by
    have ha := h a (List.mem_cons_self ..)
    have hc0 : c.toNat ≠ 0 := h0.resolve_right (by simp)
    rw [List.cons_append, val]
    have hpos : 0 < val (l ++ [c]) := by
      rw [val_snoc, Nat.mod_eq_of_lt hc]
      have : 0 < c.toNat * 128 ^ l.length := Nat.mul_pos (by omega) (Nat.pow_pos (by decide))
      omega
    have hm : a.toNat % 128 < 128 := Nat.mod_lt _ (by decide)
    rw [varint_big _ (by omega), show (a.toNat % 128 + 128 * val (l ++ [c])) / 128 = val (l ++ [c]) by omega, varint_val l c (fun x hx => h x (List.mem_cons_of_mem _ hx)) hc (.inl hc0)]
    congr 1
    apply UInt8.toNat_inj.1
    have := a.toNat_lt
    simp only [moreB, UInt8.toNat_ofNat']
    omega
theorem varint_last (n : Nat) (l : List UInt8) (h : varint n = l ++ [0]) : l = [] := by
  induction l generalizing n with
  | nil => rfl
  | cons a l ih =>
    exfalso
    by_cases hn : n < 128
    · rw [varint_small n hn] at h; simp at h
    · rw [varint_big n hn, List.cons_append] at h
      have h2 := (List.cons.inj h).2
      have h3 := ih _ h2
      subst h3
      by_cases hn2 : n / 128 < 128
      · rw [varint_small _ hn2] at h2
        simp only [List.nil_append, List.cons.injEq, and_true] at h2
        have := congrArg UInt8.toNat h2
        simp [lastB] at this
        omega
      · rw [varint_big _ hn2] at h2
        simp only [List.nil_append, List.cons.injEq] at h2
        have := varint_pos (n / 128 / 128)
        rw [h2.2] at this
        simp at this

/-- The reference's test: what was read is written so again. -/
theorem again_iff {l : List UInt8} {k : Nat} {c : UInt8} (h : Goes l k) (hc : l[k]? = some c) (h128 : c.toNat < 128) : varint (val (l.take (k + 1))) = l.take (k + 1) ↔ ¬ (c.toNat = 0 ∧ 0 < k) := by
  have hk := (List.getElem?_eq_some_iff.1 hc).1
  have e : l.take (k + 1) = l.take k ++ [c] := by rw [List.take_add_one, hc]; rfl
  have hall : ∀ x ∈ l.take k, 128 ≤ x.toNat := by
    intro x hx
    obtain ⟨j, hj, he⟩ := List.mem_iff_getElem.1 hx
    simp only [List.length_take] at hj
    refine h.2 j x (by omega) ?_
    rw [← he, List.getElem_take]
    exact List.getElem?_eq_getElem (by omega)
  rw [e]
  constructor
  · rintro he ⟨h0, hk0⟩
    obtain rfl : c = 0 := UInt8.toNat_inj.1 h0
    have := congrArg List.length (varint_last _ _ he)
    rw [List.length_take, List.length_nil] at this
    omega
  · intro hn
    refine varint_val _ c hall h128 ?_
    by_cases hk0 : k = 0
    · right; simp [hk0]
    · left; intro h0; exact hn ⟨h0, by omega⟩

end Go.Proofs.Ytkbijjglodnfbaa

namespace Go.Proofs.Ytkbijjglodnfbaa
open Go.RowKit

/-- An empty slice in a new block of no cells. -/
theorem os_empty (w : World) (t : TypeId) (B k : Nat) (hk : k = w.heap.size) (hB : B ≤ w.heap.size) : OS t 1 cU8 (w.alloc (.cells #[] t)) B (.slice (some ⟨k, 0, none⟩) 0 0) [] := by
  subst hk
  exact World.ownsRow_lit w #[] 0 hB (by simp [maxLen]) rfl

theorem rn_or (n c k : Nat) (h : n < 128 ^ k) : n ||| (c % 128 * 128 ^ k) = n + c % 128 * 128 ^ k := by
  have e : c % 128 * 128 ^ k = (c % 128) <<< (7 * k) := by
    rw [Nat.shiftLeft_eq, Nat.pow_mul]
  rw [e, Nat.or_comm, ← Nat.shiftLeft_add_eq_or_of_lt (by rw [Nat.pow_mul]; exact h), Nat.add_comm]

theorem or_i64 (a b : Nat) (ha : a < 9223372036854775808) (hb : b < 9223372036854775808) : bits .or .i64 (a : Int) (b : Int) = ((a ||| b : Nat) : Int) :=
  (bits_nat .i64 63 (by decide) (fun m a b => by rw [IntKind.wrap_i64]; omega) a b ha hb).2

theorem rn_step {l : List UInt8} {k : Nat} {x : UInt8} (hk : k < 5) (hx : l[k]? = some x) : bits .or .i64 ((val (l.take k) : Nat) : Int) (wrap64 ((x.toNat : Int) % 128 * 2 ^ (7 * k))) = ((val (l.take (k + 1)) : Nat) : Int) := by
  have hl := (List.getElem?_eq_some_iff.1 hx).1
  have hv := val_lt (l.take k)
  rw [List.length_take, Nat.min_eq_left (by omega)] at hv
  have hp : (128 : Nat) ^ k ≤ 128 ^ 4 := Nat.pow_le_pow_right (by decide) (by omega)
  have hm : x.toNat % 128 < 128 := Nat.mod_lt _ (by decide)
  have hmul : x.toNat % 128 * 128 ^ k ≤ 127 * 128 ^ 4 := Nat.mul_le_mul (by omega) hp
  have e : ((x.toNat : Int) % 128 * 2 ^ (7 * k)) = ((x.toNat % 128 * 128 ^ k : Nat) : Int) := by
    rw [Int.natCast_mul, Int.natCast_pow, Int.pow_mul]; rfl
  rw [e, IntWalk.wrap64_in _ ⟨by omega, by omega⟩, or_i64 _ _ (by omega) (by omega), rn_or _ _ _ hv, val_take hx]

theorem and127_u8 (y : UInt8) : bits .and .u8 (y.toNat : Int) 127 = ((y.toNat % 128 : Nat) : Int) := by
  have := u8_and_nat y.toNat 127 y.toNat_lt (by decide)
  rw [show ((127 : Nat) : Int) = 127 from rfl] at this
  rw [this, show (127 : Nat) = 2 ^ 7 - 1 from rfl, Nat.and_two_pow_sub_one_eq_mod]

theorem bstr_inj {a b : List UInt8} (h : bstr a = bstr b) : a = b := by
  have := congrArg (fun s : ByteArray => s.data.toList) h
  simpa [bstr] using this
theorem toList_inj' {a b : ByteArray} (h : a.toList = b.toList) : a = b := by
  obtain ⟨⟨l⟩⟩ := a
  obtain ⟨⟨m⟩⟩ := b
  simp at h
  rw [h]

def ReadPost (l : List UInt8) (w : World) (e : Ending) (w' : World) : Prop :=
  ∃ v, e = .returned (.tuple #[.int .i64 (readNum l).1, v, .int .i64 (readNum l).2.2]) ∧ OS 5 1 cU8 w' w.heap.size v (readNum l).2.1 ∧ Below w.heap.size w w'

theorem read_err {l : List UInt8} {w w' : World} {n : Int} (h : readNum l = (0, [], n)) (hb : Below w.heap.size w w') : ReadPost l w (.returned (.tuple #[.int .i64 0, .slice none 0 0, .int .i64 n])) w' := by
  refine ⟨.slice none 0 0, by rw [h], ?_, hb⟩
  rw [h]
  exact OS.nil
theorem read_ok {l r : List UInt8} {w w' : World} {n : Int} {v : Value} (h : readNum l = (n, r, 0)) (ho : OS 5 1 cU8 w' w.heap.size v r) (hb : Below w.heap.size w w') : ReadPost l w (.returned (.tuple #[.int .i64 n, v, .int .i64 0])) w' := by
  refine ⟨v, by rw [h], ?_, hb⟩
  rw [h]
  exact ho

end Go.Proofs.Ytkbijjglodnfbaa

namespace Go.Proofs.Ytkbijjglodnfbaa
open Go.RowKit

/-- append(out, s...): out owned, s a string. -/
theorem wpL_append_str {P : Program} {w : World} {ops : Array Oper} {rest : List Oper} {o : Oper} {a : Act} {Q : Exit → Act → World → Prop}
    (hgd : o.guard = none) (x y : Operand) (t u : TypeId) (ho : o.op = .call { callee := .builtin .append, args := #[x, y], argTypes := #[t, u] })
    (e : TypeId) (i : TypeInfo) (ht : P.underlying t = some (.slice e)) (hu : P.underlying u = some .string) (hi : P.info? e = some i) (hz : i.zero = some (.int .u8 0)) (hsize : i.size = 1) (hby : i.bytes = 1)
    (B : Nat) (v : Value) (l : List UInt8) (hs : a.eval x = v) (hown : OS e 1 cU8 w B v l) (s : ByteArray) (hx : a.eval y = .string s)
    (hlen : l.length + s.size ≤ 140737488355328) (hmax : l.length + s.size ≤ maxLen) (hB : B ≤ w.heap.size)
    (h : ∀ v' w', OS e 1 cU8 w' B v' (l ++ s.data.toList) → w.grownBy w' v.ownBlock → wpList P ops Q rest (a.put o.dst v') w') : wpList P ops Q (o :: rest) a w := by
  refine Lib.wpList_append_own_string w hgd x y t u ho B e i ht hu hi hz hsize hby v l.length _ hs hown s hx hmax hlen hB ?_
  intro v' w' h1 h2 _
  refine h v' w' ?_ h2
  unfold OS
  rw [List.length_append, List.flatMap_append]
  have e1 : s.data.toList.length = s.size := by rw [Array.length_toList]; rfl
  have e2 : s.data.toList.flatMap cU8 = Lib.strCells s := by
    rw [flat_cU8]; unfold Lib.strCells; rw [List.map_map]; rfl
  rw [e1, e2]
  exact h1

def textBytes (s : ByteArray) : List UInt8 := varint s.size ++ s.data.toList
theorem textBytes_len (s : ByteArray) (h : s.size < 4294967296) : (textBytes s).length ≤ s.size + 5 := by
  unfold textBytes
  have := varint_len5 s.size h
  have e1 : s.data.toList.length = s.size := by rw [Array.length_toList]; rfl
  rw [List.length_append, e1]
  omega

/-- A string made into bytes: a new block that reads so. -/
theorem conv_reads (w : World) (t : TypeId) (s : ByteArray) (hs : s.size ≤ 140737488351232) : RB (Lib.bytesWorld w t s) (.slice (some ⟨w.heap.size, 0, none⟩) s.size (grownCap w s.size 0 t)) s.data.toList := by
  have e1 : s.data.toList.length = s.size := by rw [Array.length_toList]; rfl
  refine ⟨_, _, by rw [e1], by rw [e1]; exact grownCap_ge w _ _ _, grownCap_le_maxLen w _ _ _ (by simp [maxLen]; omega), by omega, fun h => by simp at h, fun k x hk => ⟨w.heap.size, 0, rfl, by rw [Lib.bytesWorld_size]; omega, ?_⟩⟩
  have hkl : k < s.size := by rw [← e1]; exact (List.getElem?_eq_some_iff.1 hk).1
  unfold EU8
  rw [Nat.mul_one, Nat.zero_add, Lib.bytesWorld_cell w t s k hkl]
  simp [List.getD, hk]
theorem conv_below (w : World) (t : TypeId) (s : ByteArray) : Below w.heap.size w (Lib.bytesWorld w t s) :=
  ⟨rfl, rfl, rfl, by rw [Lib.bytesWorld_size]; omega, fun k hk => Lib.bytesWorld_at_old w t s k hk⟩

theorem rn_range (l : List UInt8) : 0 ≤ (readNum l).1 ∧ (readNum l).1 ≤ 4294967295 := by
  unfold readNum
  split
  · exact ⟨by decide, by decide⟩
  · split
    · exact ⟨by decide, by decide⟩
    · split
      · exact ⟨by decide, by decide⟩
      · constructor <;> simp <;> omega
theorem rn_rest_le (l : List UInt8) : (readNum l).2.1.length ≤ l.length := by
  unfold readNum
  split
  · simp
  · split
    · simp
    · split
      · simp
      · simp

def readText (l : List UInt8) : ByteArray × List UInt8 × Int :=
  if (readNum l).2.2 ≠ 0 then (⟨#[]⟩, [], (readNum l).2.2) else if 2000 < (readNum l).1 then (⟨#[]⟩, [], 1) else if ((readNum l).2.1.length : Int) < (readNum l).1 then (⟨#[]⟩, [], 8)
  else (bstr ((readNum l).2.1.take (readNum l).1.toNat), (readNum l).2.1.drop (readNum l).1.toNat, 0)

theorem readText_of {l r : List UInt8} {n e : Int} (h : readNum l = (n, r, e)) : readText l = if e ≠ 0 then (⟨#[]⟩, [], e) else if 2000 < n then (⟨#[]⟩, [], 1) else if (r.length : Int) < n then (⟨#[]⟩, [], 8) else (bstr (r.take n.toNat), r.drop n.toNat, 0) := by
  unfold readText; rw [h]

def TextPost (l : List UInt8) (w : World) (e : Ending) (w' : World) : Prop :=
  ∃ v, e = .returned (.tuple #[.string (readText l).1, v, .int .i64 (readText l).2.2]) ∧ RB w' v (readText l).2.1 ∧ Below w.heap.size w w'
theorem text_err {l : List UInt8} {w w' : World} {n : Int} (h : readText l = (⟨#[]⟩, [], n)) (hb : Below w.heap.size w w') : TextPost l w (.returned (.tuple #[.string ⟨#[]⟩, .slice none 0 0, .int .i64 n])) w' := by
  refine ⟨.slice none 0 0, by rw [h], ?_, hb⟩
  rw [h]
  exact RS.nil
theorem text_ok {l r : List UInt8} {w w' : World} {s : ByteArray} {v : Value} (h : readText l = (s, r, 0)) (ho : RB w' v r) (hb : Below w.heap.size w w') : TextPost l w (.returned (.tuple #[.string s, v, .int .i64 0])) w' := by
  refine ⟨v, by rw [h], ?_, hb⟩
  rw [h]
  exact ho

theorem readText_rest_le (l : List UInt8) : (readText l).2.1.length ≤ l.length := by
  have h := rn_rest_le l
  unfold readText
  split
  · simp
  · split
    · simp
    · split
      · simp
      · simp; omega

end Go.Proofs.Ytkbijjglodnfbaa

namespace Go.Proofs.Ytkbijjglodnfbaa
open Go.RowKit

def TextOwn (l : List UInt8) (w : World) (e : Ending) (w' : World) : Prop :=
  ∃ v, e = .returned (.tuple #[.string (readText l).1, v, .int .i64 (readText l).2.2]) ∧ OS 5 1 cU8 w' w.heap.size v (readText l).2.1 ∧ Below w.heap.size w w'
theorem town_err {l : List UInt8} {w w' : World} {n : Int} (h : readText l = (⟨#[]⟩, [], n)) (hb : Below w.heap.size w w') : TextOwn l w (.returned (.tuple #[.string ⟨#[]⟩, .slice none 0 0, .int .i64 n])) w' := by
  refine ⟨.slice none 0 0, by rw [h], ?_, hb⟩
  rw [h]
  exact OS.nil
theorem town_ok {l r : List UInt8} {w w' : World} {s : ByteArray} {v : Value} (h : readText l = (s, r, 0)) (ho : OS 5 1 cU8 w' w.heap.size v r) (hb : Below w.heap.size w w') : TextOwn l w (.returned (.tuple #[.string s, v, .int .i64 0])) w' := by
  refine ⟨v, by rw [h], ?_, hb⟩
  rw [h]
  exact ho

end Go.Proofs.Ytkbijjglodnfbaa

namespace Go.Proofs.Ytkbijjglodnfbaa
open Go.RowKit

def TextNew (l : List UInt8) (w : World) (e : Ending) (w' : World) : Prop :=
  ∃ v, e = .returned (.tuple #[.string (readText l).1, v, .int .i64 (readText l).2.2]) ∧ RB w' v (readText l).2.1 ∧ (∀ k, v.ownBlock = some k → w.heap.size ≤ k) ∧ Below w.heap.size w w'
theorem tnew_err {l : List UInt8} {w w' : World} {n : Int} (h : readText l = (⟨#[]⟩, [], n)) (hb : Below w.heap.size w w') : TextNew l w (.returned (.tuple #[.string ⟨#[]⟩, .slice none 0 0, .int .i64 n])) w' := by
  refine ⟨.slice none 0 0, by rw [h], ?_, fun k hk => by simp [Value.ownBlock] at hk, hb⟩
  rw [h]
  exact RS.nil
theorem tnew_ok {l r : List UInt8} {w w' : World} {s : ByteArray} {v : Value} (h : readText l = (s, r, 0)) (ho : RB w' v r) (hn : ∀ k, v.ownBlock = some k → w.heap.size ≤ k) (hb : Below w.heap.size w w') : TextNew l w (.returned (.tuple #[.string s, v, .int .i64 0])) w' := by
  refine ⟨v, by rw [h], ?_, hn, hb⟩
  rw [h]
  exact ho
theorem own_map {a : Option Addr} {n l c l' c' k : Nat} (h : (Value.slice (a.map (·.add n)) l c).ownBlock = some k) : (Value.slice a l' c').ownBlock = some k := by
  cases a with
  | none => simp [Value.ownBlock] at h
  | some ad =>
    simp only [Option.map_some, Value.ownBlock, Option.some.injEq] at h ⊢
    rw [← h]
    unfold Addr.add
    split <;> rfl

end Go.Proofs.Ytkbijjglodnfbaa
