/-
  bytes.Clone, wire.ReadNumber and the reference's WireNumberOf: what each computes.
-/
import Derived.Test.YtaojfpgbpakmpaaRead
namespace Go.Proofs.Ytaojfpgbpakmpaa
open Go.RowKit

/-- An empty slice in a new block of no cells. -/
theorem os_empty (w : World) (t : TypeId) (B k : Nat) (hk : k = w.heap.size) (hB : B ≤ w.heap.size) : OS t 1 cU8 (w.alloc (.cells #[] t)) B (.slice (some ⟨k, 0, none⟩) 0 0) [] := by
  subst hk
  exact World.ownsRow_lit w #[] 0 hB (by simp [maxLen]) rfl

set_option maxRecDepth 100000 in
set_option maxHeartbeats 400000 in
theorem bytes_Clone (v : Value) (l : List UInt8) (w : World) (h : RB w v l) :
    Calls Try.prog 112 #[v] w fun e w' => ∃ v', e = .returned v' ∧ OS 5 1 cU8 w' w.heap.size v' l ∧ Below w.heap.size w w' := by
  obtain ⟨i0, hi, hz0, hz1, hz2⟩ := info_parts info_u8
  have hh := h
  obtain ⟨a, c, rfl, hlc, hcm, hre, hno, hat⟩ := hh
  cases a with
  | none =>
    have hc0 := hno rfl
    subst hc0
    have hl0 : l = [] := List.eq_nil_of_length_eq_zero (by omega)
    subst hl0
    have he := fun w => Lib.run_eql_slice_nil (P := Try.prog) w 38 5 none 0 0 0 0 Try.underlying38
    go_enter Try.func112, Try.ntmps112
    go_wp2
    go_ret
    exact ⟨_, rfl, OS.nil, Below.refl _ _⟩
  | some ad =>
    have he := fun w => Lib.run_eql_slice_nil (P := Try.prog) w 38 5 (some ad) l.length c 0 0 Try.underlying38
    clear hat
    go_enter Try.func112, Try.ntmps112
    go_wp2_with (at_builtin; go_must (refine wpL_append flat_u8 rfl (.tmp 5) (.tmp 6) 38 rfl 5 i0 (.int .u8 0) Try.underlying38 hi hz0 hz1 hz2 rfl w.heap.size _ [] rfl (os_empty _ _ _ _ (by simp) (by simp)) _ l rfl (h.mono EU8.stable (b_alloc (Below.refl _ _) _)) ?c1 ?c2 ?c3 ?_))
    case c1 => simp; omega
    case c2 => simp [maxLen]; omega
    case c3 => simp
    intro v' w1 hown hg
    have hb := b_grown (b_alloc (Below.refl w.heap.size w) (.cells #[] 5)) hg (fun k hk => by simp [Value.ownBlock] at hk; omega)
    clear hg
    go_wp2
    go_ret
    exact ⟨_, rfl, hown, hb⟩

theorem rn_or (n c k : Nat) (h : n < 128 ^ k) : n ||| (c % 128 * 128 ^ k) = n + c % 128 * 128 ^ k := by
  have e : c % 128 * 128 ^ k = (c % 128) <<< (7 * k) := by
    rw [Nat.shiftLeft_eq, Nat.pow_mul]
  rw [e, Nat.or_comm, ← Nat.shiftLeft_add_eq_or_of_lt (by rw [Nat.pow_mul]; exact h), Nat.add_comm]

theorem or_i64 (a b : Nat) (ha : a < 9223372036854775808) (hb : b < 9223372036854775808) : bits .or .i64 (a : Int) (b : Int) = ((a ||| b : Nat) : Int) :=
  (bits_nat .i64 63 (by decide) (fun m a b => by rw [IntKind.wrap_i64]; omega) a b ha hb).2

theorem rn_step {l : List UInt8} {k : Nat} {x : UInt8} (hk : k < 5) (hx : l[k]? = some x) : bits .or .i64 ((val (l.take k) : Nat) : Int) (wrap64 ((x.toNat : Int) % 128 * 2 ^ (7 * k))) = ((val (l.take (k + 1)) : Nat) : Int) := by
  have hl := (List.getElem?_eq_some_iff.1 hx).1
  have hv := val_lt (l.take k)
  rw [List.length_take, Nat.min_eq_left (by omega)] at hv
  have hp : (128 : Nat) ^ k ≤ 128 ^ 4 := Nat.pow_le_pow_right (by decide) (by omega)
  have hm : x.toNat % 128 < 128 := Nat.mod_lt _ (by decide)
  have hmul : x.toNat % 128 * 128 ^ k ≤ 127 * 128 ^ 4 := Nat.mul_le_mul (by omega) hp
  have e : ((x.toNat : Int) % 128 * 2 ^ (7 * k)) = ((x.toNat % 128 * 128 ^ k : Nat) : Int) := by
    rw [Int.natCast_mul, Int.natCast_pow, Int.pow_mul]; rfl
  rw [e, IntWalk.wrap64_in _ ⟨by omega, by omega⟩, or_i64 _ _ (by omega) (by omega), rn_or _ _ _ hv, val_take hx]

theorem and127_u8 (y : UInt8) : bits .and .u8 (y.toNat : Int) 127 = ((y.toNat % 128 : Nat) : Int) := by
  have := u8_and_nat y.toNat 127 y.toNat_lt (by decide)
  rw [show ((127 : Nat) : Int) = 127 from rfl] at this
  rw [this, show (127 : Nat) = 2 ^ 7 - 1 from rfl, Nat.and_two_pow_sub_one_eq_mod]

theorem bstr_inj {a b : List UInt8} (h : bstr a = bstr b) : a = b := by
  have := congrArg (fun s : ByteArray => s.data.toList) h
  simpa [bstr] using this
theorem toList_inj' {a b : ByteArray} (h : a.toList = b.toList) : a = b := by
  obtain ⟨⟨l⟩⟩ := a
  obtain ⟨⟨m⟩⟩ := b
  simp at h
  rw [h]

def ReadPost (l : List UInt8) (w : World) (e : Ending) (w' : World) : Prop :=
  ∃ v, e = .returned (.tuple #[.int .i64 (readNum l).1, v, .int .i64 (readNum l).2.2]) ∧ OS 5 1 cU8 w' w.heap.size v (readNum l).2.1 ∧ Below w.heap.size w w'

theorem read_err {l : List UInt8} {w w' : World} {n : Int} (h : readNum l = (0, [], n)) (hb : Below w.heap.size w w') : ReadPost l w (.returned (.tuple #[.int .i64 0, .slice none 0 0, .int .i64 n])) w' := by
  refine ⟨.slice none 0 0, by rw [h], ?_, hb⟩
  rw [h]
  exact OS.nil
theorem read_ok {l r : List UInt8} {w w' : World} {n : Int} {v : Value} (h : readNum l = (n, r, 0)) (ho : OS 5 1 cU8 w' w.heap.size v r) (hb : Below w.heap.size w w') : ReadPost l w (.returned (.tuple #[.int .i64 n, v, .int .i64 0])) w' := by
  refine ⟨v, by rw [h], ?_, hb⟩
  rw [h]
  exact ho

set_option maxRecDepth 100000 in
set_option maxHeartbeats 2000000 in
theorem wire_ReadNumber (v : Value) (l : List UInt8) (w : World) (h : RB w v l) :
    Calls Try.prog 158 #[v] w (ReadPost l w) := by
  have hh := h
  obtain ⟨a, c, rfl, hlc, hcm, hre, hno, hat⟩ := hh
  unfold maxLen at hcm
  go_enter Try.func158, Try.ntmps158
  go_wp2
  go_loopw [5, 10] (fun t i wr => ∃ k : Nat, i = .int .i64 k ∧ k < 5 ∧ Goes l k ∧ t = .int .i64 ((val (l.take k) : Nat) : Int) ∧ wr = w) (fun _ i _ => 5 - (intOf i).toNat)
  case atStart => exact ⟨0, rfl, by omega, Goes.zero l, by simp [val], rfl⟩
  case round =>
    obtain ⟨k, rfl, hk5, hgo, rfl, rfl⟩ := hrel
    have hkl := hgo.1
    by_cases hlt : k < l.length
    · have hx : l[k]? = some l[k] := List.getElem?_eq_getElem hlt
      generalize l[k] = x at hx
      obtain ⟨b, off, rfl, hbb, he⟩ := hat k _ hx
      unfold EU8 at he
      rw [Nat.mul_one] at he
      have hxl : (x.toNat : Int) < 256 := by have := x.toNat_lt; omega
      have hor := rn_step hk5 hx
      generalize hV : val (l.take (k + 1)) = V at hor
      replace hV := hid hV
      by_cases h128 : 128 ≤ x.toNat
      · have hgs := hgo.succ hx h128
        by_cases hk4 : k = 4
        · subst hk4
          have hend := hid (rn_form5 hgs)
          clear hat hgo hgs hx
          go_wp2_with fail
          go_ret3
          exact read_err hend.out (Below.refl _ _)
        · have hk4' : ((k : Int) == 4) = false := by simp; omega
          replace hgs := hid hgs
          clear hat hgo hx
          go_wp2_with fail
          go_roundw
          case rel => exact ⟨k + 1, by go_num, by omega, hgs.out, by rw [hV.out], by trivial⟩
          case measure => simp [intOf]; omega
      · have hat0 := hid (rn_at hgo hk5 hx (by omega))
        by_cases hbig : 4294967295 < V
        · have hend := hid (show readNum l = (0, [], 3) by rw [hat0.out, hV.out, if_pos (.inl hbig)])
          have hd : decide (4294967295 < (V : Int)) = true := by simp; omega
          clear hat hgo hx hat0 hV
          go_wp2_with fail
          go_ret3
          exact read_err hend.out (Below.refl _ _)
        · have hd : decide (4294967295 < (V : Int)) = false := by simp; omega
          by_cases hbad : x.toNat = 0 ∧ 0 < k
          · obtain ⟨hx0, hk0⟩ := hbad
            have hend := hid (show readNum l = (0, [], 3) by rw [hat0.out, if_pos (.inr ⟨hx0, hk0⟩)])
            have hx0' : ((x.toNat : Int) == 0) = true := by simp [hx0]
            have hk0' : decide (0 < (k : Int)) = true := by simp; omega
            clear hat hgo hx hat0 hV hx0
            go_wp2_with fail
            go_ret3
            exact read_err hend.out (Below.refl _ _)
          · have hend := hid (show readNum l = ((V : Int), l.drop (k + 1), 0) by rw [hat0.out, hV.out, if_neg (by omega)])
            have hfrom := RS.from h (k + 1) hlt
            have hdis : (x.toNat = 0 ∧ k = 0) ∨ ((x.toNat : Int) == 0) = false := by
              by_cases hx0 : x.toNat = 0
              · left; omega
              · right; simp; omega
            clear hat hgo hx hat0 hV hbad h
            by_cases hcc : c = k + 1
            · subst hcc
              rw [if_pos rfl, Nat.sub_self, show l.length - (k + 1) = 0 by omega] at hfrom
              rcases hdis with ⟨g1, g2⟩ | g1
              · have g1' : ((x.toNat : Int) == 0) = true := by simp [g1]
                have g2' : decide (0 < k) = false := by simp [g2]
                clear g1 g2
                go_wp2_with fail
                refine (bytes_Clone _ _ _ hfrom).mono ?_
                rintro e w1 ⟨v', rfl, hown, hb⟩
                clear hfrom
                go_wp2_with fail
                go_ret3
                exact read_ok hend.out hown hb
              · go_wp2_with fail
                refine (bytes_Clone _ _ _ hfrom).mono ?_
                rintro e w1 ⟨v', rfl, hown, hb⟩
                clear hfrom
                go_wp2_with fail
                go_ret3
                exact read_ok hend.out hown hb
            · rw [if_neg hcc] at hfrom
              simp only [Option.map_some, Addr.add, Nat.mul_one, Nat.add_one_ne_zero, if_false] at hfrom
              rcases hdis with ⟨g1, g2⟩ | g1
              · have g1' : ((x.toNat : Int) == 0) = true := by simp [g1]
                have g2' : decide (0 < k) = false := by simp [g2]
                clear g1 g2
                go_wp2_with fail
                refine (bytes_Clone _ _ _ hfrom).mono ?_
                rintro e w1 ⟨v', rfl, hown, hb⟩
                clear hfrom
                go_wp2_with fail
                go_ret3
                exact read_ok hend.out hown hb
              · go_wp2_with fail
                refine (bytes_Clone _ _ _ hfrom).mono ?_
                rintro e w1 ⟨v', rfl, hown, hb⟩
                clear hfrom
                go_wp2_with fail
                go_ret3
                exact read_ok hend.out hown hb
    · have hend := hid (rn_short hgo (by omega) hk5)
      clear hat hgo
      go_wp2_with fail
      go_ret3
      exact read_err hend.out (Below.refl _ _)

set_option maxRecDepth 100000 in
set_option maxHeartbeats 2000000 in
theorem ref_WireNumberOf (v : Value) (l : List UInt8) (w : World) (h : RB w v l) :
    Calls Try.prog 134 #[v] w (ReadPost l w) := by
  have hh := h
  obtain ⟨a, c, rfl, hlc, hcm, hre, hno, hat⟩ := hh
  unfold maxLen at hcm
  go_enter Try.func134, Try.ntmps134
  go_wp2
  go_loopw [5] (fun i wr => ∃ k : Nat, i = .int .i64 k ∧ k ≤ 5 ∧ Goes l k ∧ wr = w) (fun i _ => 5 - (intOf i).toNat)
  case atStart => exact ⟨0, rfl, by omega, Goes.zero l, rfl⟩
  case round =>
    obtain ⟨k, rfl, hk5, hgo, rfl⟩ := hrel
    have hkl := hgo.1
    by_cases hk : k = 5
    · subst hk
      have hend := hid (rn_form5 hgo)
      have hd : decide ((5 : Int) < 5) = false := by decide
      clear hat hgo
      by_cases h5l : 5 < l.length
      all_goals
        go_wp2_with fail
        go_ret3
        exact read_err hend.out (Below.refl _ _)
    · have hk' : ((k : Int) == 5) = false := by simp; omega
      by_cases hlt : k < l.length
      · have hx : l[k]? = some l[k] := List.getElem?_eq_getElem hlt
        generalize l[k] = x at hx
        obtain ⟨b, off, rfl, hbb, he⟩ := hat k _ hx
        unfold EU8 at he
        rw [Nat.mul_one] at he
        have hxl : (x.toNat : Int) < 256 := by have := x.toNat_lt; omega
        by_cases h128 : 128 ≤ x.toNat
        · have hgs := hid (hgo.succ hx h128)
          clear hat hgo hx
          go_wp2_with fail
          go_roundw
          case rel => exact ⟨k + 1, by go_num, by omega, hgs.out, by trivial⟩
          case measure => simp [intOf]; omega
        · have hkl' : ((k : Int) == (l.length : Int)) = false := by simp; omega
          have hat0 := hid (rn_at hgo (by omega) hx (by omega))
          have hag := hid (again_iff hgo hx (by omega))
          have hcells : Hid (∀ j y, l[j]? = some y → wr.cell? ⟨b, off + j, none⟩ = some (.int .u8 (y.toNat : Int))) := by
            show ∀ j y, _ → _
            intro j y hj
            obtain ⟨b', off', e', hb', he'⟩ := hat j y hj
            simp only [Option.some.injEq, Addr.mk.injEq, and_true] at e'
            obtain ⟨rfl, rfl⟩ := e'
            unfold EU8 at he'
            rwa [Nat.mul_one] at he'
          clear hat hgo hx
          go_wp2_with fail
          go_loopw [6, 7] (fun n i wi => ∃ j : Nat, j ≤ k + 1 ∧ i = .int .i64 ((j : Int) - 1) ∧ n = .int .i64 ((val ((l.take (k + 1)).drop j) : Nat) : Int) ∧ wi = wr) (fun _ i _ => (intOf i + 1).toNat)
          case atStart => exact ⟨k + 1, by omega, by go_num, by rw [List.drop_of_length_le (by simp; omega)]; rfl, rfl⟩
          case round =>
            obtain ⟨j, hj, rfl, rfl, rfl⟩ := hrel
            have hvl := val_lt ((l.take (k + 1)).drop j)
            rw [List.length_drop, List.length_take, Nat.min_eq_left (by omega)] at hvl
            by_cases hj0 : 0 < j
            · obtain ⟨y, hy⟩ : ∃ y, l[j - 1]? = some y := ⟨_, List.getElem?_eq_getElem (by omega)⟩
              have hyc := hcells.out _ _ hy
              have hyl : (y.toNat : Int) < 256 := by have := y.toNat_lt; omega
              have hvs := hid (show val ((l.take (k + 1)).drop (j - 1)) = y.toNat % 128 + 128 * val ((l.take (k + 1)).drop j) by
                have : (l.take (k + 1)).drop (j - 1) = y :: (l.take (k + 1)).drop j := by
                  rw [List.drop_eq_getElem_cons (by simp; omega)]
                  congr 1
                  · rw [List.getElem_take]
                    exact (List.getElem?_eq_some_iff.1 hy).2
                  · rw [Nat.sub_add_cancel hj0]
                rw [this, val])
              have hp : (128 : Nat) ^ (k + 1 - j) ≤ 128 ^ 4 := Nat.pow_le_pow_right (by decide) (by omega)
              have hub : val ((l.take (k + 1)).drop j) < 268435456 := by omega
              have hand : bits .and .u8 (y.toNat : Int) 127 = ((y.toNat % 128 : Nat) : Int) := and127_u8 y
              have hy7 : y.toNat % 128 < 128 := Nat.mod_lt _ (by decide)
              generalize y.toNat % 128 = y7 at hand hy7 hvs
              clear hvl hp hy hcells
              go_wp2_with fail
              go_roundw
              case rel => exact ⟨j - 1, by omega, by go_num, by rw [hvs.out]; go_num, by trivial⟩
              case measure => simp [intOf]; omega
            · obtain rfl : j = 0 := by omega
              rw [List.drop_zero]
              generalize hV : val (l.take (k + 1)) = V
              replace hV := hid hV
              have hbuf := RS.upto h (k + 1) (by omega)
              have hfrom := RS.from h (k + 1) hlt
              have hlt1 : (l.take (k + 1)).length = k + 1 := by simp; omega
              clear hvl hcells h
              by_cases hbig : 4294967295 < V
              · have hend := hid (show readNum l = (0, [], 3) by rw [hat0.out, hV.out, if_pos (.inl hbig)])
                clear hat0 hag hV
                go_wp2_with fail
                refine (ref_WireNumber_no _ _ (.inr (by omega))).mono ?_
                rintro e w1 ⟨rfl, rfl⟩
                go_wp2_with fail
                go_quiet (fail)
                go_wp2_with fail
                go_ret3
                exact read_err hend.out (below_drewN (Below.refl _ _) _)
              · go_wp2_with fail
                refine (ref_WireNumber _ _ (by omega) (by omega)).mono ?_
                rintro e w1 ⟨v1, rfl, hown, hb1⟩
                rw [Int.toNat_natCast] at hown
                have hvn := varint_len5 V (by omega)
                have r1 := reads_u8 hown (by omega)
                have r2 := hbuf.mono EU8.stable hb1
                have r3 := hfrom.mono EU8.stable hb1
                have c1 : ∀ n, (convert 38 9 v1).run Try.prog (w1.drewN n) = .ok (.string (bstr (varint V))) (w1.drewN n) := fun n => run_string_of 38 5 Try.underlying38 Try.underlying5 9 Try.underlying9 r1
                have c2 : ∀ n, (convert 38 9 (.slice (some ⟨b, off, none⟩) (k + 1) c)).run Try.prog (w1.drewN n) = .ok (.string (bstr (l.take (k + 1)))) (w1.drewN n) := fun n => run_string_of 38 5 Try.underlying38 Try.underlying5 9 Try.underlying9 r2
                clear hown hbuf hfrom r1 r2
                by_cases hbad : x.toNat = 0 ∧ 0 < k
                · have hend := hid (show readNum l = (0, [], 3) by rw [hat0.out, if_pos (.inr hbad)])
                  have hne : ((bstr (varint V)).toList == (bstr (l.take (k + 1))).toList) = false := by
                    rw [beq_eq_false_iff_ne, ← hV.out]
                    intro he
                    exact (hag.out.1 (bstr_inj (toList_inj' he))) hbad
                  clear hat0 hag hbad hV r3
                  go_wp2_with fail
                  go_quiet (fail)
                  go_wp2_with fail
                  go_ret3
                  exact read_err hend.out (below_drewN hb1 _)
                · have hend := hid (show readNum l = ((V : Int), l.drop (k + 1), 0) by rw [hat0.out, hV.out, if_neg (by omega)])
                  have hne : ((bstr (varint V)).toList == (bstr (l.take (k + 1))).toList) = true := by
                    rw [beq_iff_eq, ← hV.out, hag.out.2 hbad]
                  clear hat0 hag hbad hV
                  obtain ⟨i0, hi, hz0, hz1, hz2⟩ := info_parts info_u8
                  go_wp2_with fail
                  go_quiet (fail)
                  by_cases hcc : c = k + 1
                  · subst hcc
                    rw [if_pos rfl, Nat.sub_self, show l.length - (k + 1) = 0 by omega] at r3
                    go_wp2_with (at_builtin; go_must (refine wpL_append flat_u8 rfl (.tmp 65) (.tmp 69) 38 rfl 5 i0 (.int .u8 0) Try.underlying38 hi hz0 hz1 hz2 rfl _ _ [] rfl (os_empty _ _ _ _ (by simp) (by have := hb1.size; simp; omega)) _ (l.drop (k + 1)) rfl (RS.mono EU8.stable (w := w1) r3 (b_alloc (below_drewN (Below.refl _ _) _) _)) ?c1 ?c2 ?c3 ?_))
                    case c1 => simp; omega
                    case c2 => simp [maxLen]; omega
                    case c3 => have := hb1.size; simp; omega
                    intro v' w2 hown hg
                    have hb2 := b_grown (b_alloc (below_drewN hb1 nq) (.cells #[] 5)) hg (fun k hk => by have := hb1.size; simp [Value.ownBlock] at hk; omega)
                    clear hg
                    go_wp2_with fail
                    go_ret3
                    exact read_ok hend.out hown hb2
                  · rw [if_neg hcc] at r3
                    simp only [Option.map_some, Addr.add, Nat.mul_one, Nat.add_one_ne_zero, if_false] at r3
                    go_wp2_with (at_builtin; go_must (refine wpL_append flat_u8 rfl (.tmp 65) (.tmp 69) 38 rfl 5 i0 (.int .u8 0) Try.underlying38 hi hz0 hz1 hz2 rfl _ _ [] rfl (os_empty _ _ _ _ (by simp) (by have := hb1.size; simp; omega)) _ (l.drop (k + 1)) rfl (RS.mono EU8.stable (w := w1) r3 (b_alloc (below_drewN (Below.refl _ _) _) _)) ?c1 ?c2 ?c3 ?_))
                    case c1 => simp; omega
                    case c2 => simp [maxLen]; omega
                    case c3 => have := hb1.size; simp; omega
                    intro v' w2 hown hg
                    have hb2 := b_grown (b_alloc (below_drewN hb1 nq) (.cells #[] 5)) hg (fun k hk => by have := hb1.size; simp [Value.ownBlock] at hk; omega)
                    clear hg
                    go_wp2_with fail
                    go_ret3
                    exact read_ok hend.out hown hb2
      · have hkl' : ((k : Int) == (l.length : Int)) = true := by simp; omega
        have hend := hid (rn_short hgo (by omega) (by omega))
        clear hat hgo
        go_wp2_with fail
        go_ret3
        exact read_err hend.out (Below.refl _ _)
end Go.Proofs.Ytaojfpgbpakmpaa
