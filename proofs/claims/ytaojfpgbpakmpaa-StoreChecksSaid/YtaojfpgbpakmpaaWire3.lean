/-
  wire.Text, wire.ReadText and the reference's WireText, WireTextOf: what each computes; the laws WireReads and WireTexts.
-/
import Derived.Test.YtaojfpgbpakmpaaWire2
import Derived.Lib.AppendStr
import Derived.Lib.ConvBytes
import Derived.Deep.RegionWith
namespace Go.Proofs.Ytaojfpgbpakmpaa
open Go.RowKit

/-- append(out, s...): out owned, s a string. -/
theorem wpL_append_str {P : Program} {w : World} {ops : Array Oper} {rest : List Oper} {o : Oper} {a : Act} {Q : Exit → Act → World → Prop}
    (hgd : o.guard = none) (x y : Operand) (t u : TypeId) (ho : o.op = .call { callee := .builtin .append, args := #[x, y], argTypes := #[t, u] })
    (e : TypeId) (i : TypeInfo) (ht : P.underlying t = some (.slice e)) (hu : P.underlying u = some .string) (hi : P.info? e = some i) (hz : i.zero = some (.int .u8 0)) (hsize : i.size = 1) (hby : i.bytes = 1)
    (B : Nat) (v : Value) (l : List UInt8) (hs : a.eval x = v) (hown : OS e 1 cU8 w B v l) (s : ByteArray) (hx : a.eval y = .string s)
    (hlen : l.length + s.size ≤ 140737488355328) (hmax : l.length + s.size ≤ maxLen) (hB : B ≤ w.heap.size)
    (h : ∀ v' w', OS e 1 cU8 w' B v' (l ++ s.data.toList) → w.grownBy w' v.ownBlock → wpList P ops Q rest (a.put o.dst v') w') : wpList P ops Q (o :: rest) a w := by
  refine Lib.wpList_append_own_string w hgd x y t u ho B e i ht hu hi hz hsize hby v l.length _ hs hown s hx hmax hlen hB ?_
  intro v' w' h1 h2 _
  refine h v' w' ?_ h2
  unfold OS
  rw [List.length_append, List.flatMap_append]
  have e1 : s.data.toList.length = s.size := by rw [Array.length_toList]; rfl
  have e2 : s.data.toList.flatMap cU8 = Lib.strCells s := by
    rw [flat_cU8]; unfold Lib.strCells; rw [List.map_map]; rfl
  rw [e1, e2]
  exact h1

def textBytes (s : ByteArray) : List UInt8 := varint s.size ++ s.data.toList
theorem textBytes_len (s : ByteArray) (h : s.size < 4294967296) : (textBytes s).length ≤ s.size + 5 := by
  unfold textBytes
  have := varint_len5 s.size h
  have e1 : s.data.toList.length = s.size := by rw [Array.length_toList]; rfl
  rw [List.length_append, e1]
  omega

set_option maxRecDepth 100000 in
set_option maxHeartbeats 1000000 in
theorem wire_Text (s : ByteArray) (w : World) (h : s.size ≤ 2000) :
    Calls Try.prog 110 #[.string s] w fun e w' => ∃ v, e = .returned (.tuple #[v, .int .i64 0]) ∧ OS 5 1 cU8 w' w.heap.size v (textBytes s) ∧ Below w.heap.size w w' := by
  obtain ⟨i0, hi, hz0, hz1, hz2⟩ := info_parts info_u8
  have hv5 := varint_len5 s.size (by omega)
  have htl := textBytes_len s (by omega)
  go_enter Try.func110, Try.ntmps110
  go_wp2_with fail
  refine (wire_Number _ _ (by omega) (by omega)).mono ?_
  rintro e w1 ⟨v1, rfl, hown, hb1⟩
  rw [Int.toNat_natCast] at hown
  have hs1 := hb1.size
  go_wp2_with (at_builtin; go_must (refine wpL_append_str rfl (.tmp 15) (.tmp 16) 38 9 rfl 5 i0 Try.underlying38 Try.underlying9 hi hz0 hz1 hz2 w.heap.size _ (varint s.size) rfl hown s rfl ?c1 ?c2 ?c3 ?_))
  case c1 => omega
  case c2 => simp [maxLen]; omega
  case c3 => omega
  intro v2 w2 hown2 hg
  have hb2 := b_grown hb1 hg (OS.block hown)
  have hs2 := hb2.size
  clear hg hown hb1
  go_wp2_with (at_builtin; go_must (refine wpL_append flat_u8 rfl (.const (.slice none 0 0)) (.tmp 17) 38 rfl 5 i0 (.int .u8 0) Try.underlying38 hi hz0 hz1 hz2 rfl w.heap.size _ [] rfl OS.nil _ (textBytes s) rfl (reads_u8 hown2 (by show (textBytes s).length ≤ _; omega)) ?d1 ?d2 ?d3 ?_))
  case d1 => simp; omega
  case d2 => simp [maxLen]; omega
  case d3 => exact hs2
  intro v3 w3 hown3 hg3
  have hb3 := b_grown hb2 hg3 (fun k hk => by simp [Value.ownBlock] at hk)
  clear hg3 hown2 hb2
  go_wp2_with fail
  go_ret2
  exact ⟨_, rfl, hown3, hb3⟩

set_option maxRecDepth 100000 in
set_option maxHeartbeats 400000 in
theorem wire_Text_no (s : ByteArray) (w : World) (h : 2000 < s.size) (hm : s.size ≤ 140737488351232) :
    Calls Try.prog 110 #[.string s] w fun e w' => e = .returned (.tuple #[.slice none 0 0, .int .i64 1]) ∧ w = w' := by
  go_enter Try.func110, Try.ntmps110
  go_wp2_with fail
  go_ret2
  exact ⟨rfl, rfl⟩

set_option maxRecDepth 100000 in
set_option maxHeartbeats 400000 in
theorem ref_WireText_no (s : ByteArray) (w : World) (h : 2000 < s.size) (hm : s.size ≤ 140737488351232) :
    Calls Try.prog 118 #[.string s] w fun e w' => e = .returned (.tuple #[.slice none 0 0, .int .i64 1]) ∧ w = w' := by
  go_enter Try.func118, Try.ntmps118
  go_wp2_with fail
  go_ret2
  exact ⟨rfl, rfl⟩

/-- A string made into bytes: a new block that reads so. -/
theorem conv_reads (w : World) (t : TypeId) (s : ByteArray) (hs : s.size ≤ 140737488351232) : RB (Lib.bytesWorld w t s) (.slice (some ⟨w.heap.size, 0, none⟩) s.size (grownCap w s.size 0 t)) s.data.toList := by
  have e1 : s.data.toList.length = s.size := by rw [Array.length_toList]; rfl
  refine ⟨_, _, by rw [e1], by rw [e1]; exact grownCap_ge w _ _ _, grownCap_le_maxLen w _ _ _ (by simp [maxLen]; omega), by omega, fun h => by simp at h, fun k x hk => ⟨w.heap.size, 0, rfl, by rw [Lib.bytesWorld_size]; omega, ?_⟩⟩
  have hkl : k < s.size := by rw [← e1]; exact (List.getElem?_eq_some_iff.1 hk).1
  unfold EU8
  rw [Nat.mul_one, Nat.zero_add, Lib.bytesWorld_cell w t s k hkl]
  simp [List.getD, hk]
theorem conv_below (w : World) (t : TypeId) (s : ByteArray) : Below w.heap.size w (Lib.bytesWorld w t s) :=
  ⟨rfl, rfl, rfl, by rw [Lib.bytesWorld_size]; omega, fun k hk => Lib.bytesWorld_at_old w t s k hk⟩

set_option maxRecDepth 100000 in
set_option maxHeartbeats 1000000 in
theorem ref_WireText (s : ByteArray) (w : World) (h : s.size ≤ 2000) :
    Calls Try.prog 118 #[.string s] w fun e w' => ∃ v, e = .returned (.tuple #[v, .int .i64 0]) ∧ OS 5 1 cU8 w' w.heap.size v (textBytes s) ∧ Below w.heap.size w w' := by
  obtain ⟨i0, hi, hz0, hz1, hz2⟩ := info_parts info_u8
  have hv5 := varint_len5 s.size (by omega)
  have e1 : s.data.toList.length = s.size := by rw [Array.length_toList]; rfl
  go_enter Try.func118, Try.ntmps118
  go_wp2_with fail
  refine (ref_WireNumber _ _ (by omega) (by omega)).mono ?_
  rintro e w1 ⟨v1, rfl, hown, hb1⟩
  rw [Int.toNat_natCast] at hown
  have hs1 := hb1.size
  have hcv := Lib.run_convert_string_bytes (P := Try.prog) w1 9 38 5 s Try.underlying9 Try.underlying38 Try.underlying5
  have hrd := conv_reads w1 5 s (by omega)
  have hbl := conv_below w1 5 s
  generalize Lib.bytesWorld w1 5 s = w2 at hcv hrd hbl
  generalize grownCap w1 s.size 0 5 = c2 at hcv hrd
  generalize w1.heap.size = b2 at hcv hrd
  have hown2 := hown.below hbl
  have hb2 := b_call hb1 hbl
  have hs2 := hb2.size
  clear hbl hown
  go_wp2_with (at_builtin; go_must (refine wpL_append flat_u8 rfl (.tmp 15) (.tmp 17) 38 rfl 5 i0 (.int .u8 0) Try.underlying38 hi hz0 hz1 hz2 rfl w.heap.size _ (varint s.size) rfl hown2 _ s.data.toList rfl hrd ?d1 ?d2 ?d3 ?_))
  case d1 => rw [e1]; omega
  case d2 => rw [e1]; simp [maxLen]; omega
  case d3 => exact hs2
  intro v3 w3 hown3 hg3
  have hb3 := b_grown hb2 hg3 (OS.block hown2)
  clear hg3 hown2 hb2
  go_wp2_with fail
  go_ret2
  exact ⟨_, rfl, hown3, hb3⟩

theorem rn_range (l : List UInt8) : 0 ≤ (readNum l).1 ∧ (readNum l).1 ≤ 4294967295 := by
  unfold readNum
  split
  · exact ⟨by decide, by decide⟩
  · split
    · exact ⟨by decide, by decide⟩
    · split
      · exact ⟨by decide, by decide⟩
      · constructor <;> simp <;> omega
theorem rn_rest_le (l : List UInt8) : (readNum l).2.1.length ≤ l.length := by
  unfold readNum
  split
  · simp
  · split
    · simp
    · split
      · simp
      · simp

def readText (l : List UInt8) : ByteArray × List UInt8 × Int :=
  if (readNum l).2.2 ≠ 0 then (⟨#[]⟩, [], (readNum l).2.2) else if 2000 < (readNum l).1 then (⟨#[]⟩, [], 1) else if ((readNum l).2.1.length : Int) < (readNum l).1 then (⟨#[]⟩, [], 8)
  else (bstr ((readNum l).2.1.take (readNum l).1.toNat), (readNum l).2.1.drop (readNum l).1.toNat, 0)

theorem readText_of {l r : List UInt8} {n e : Int} (h : readNum l = (n, r, e)) : readText l = if e ≠ 0 then (⟨#[]⟩, [], e) else if 2000 < n then (⟨#[]⟩, [], 1) else if (r.length : Int) < n then (⟨#[]⟩, [], 8) else (bstr (r.take n.toNat), r.drop n.toNat, 0) := by
  unfold readText; rw [h]

def TextPost (l : List UInt8) (w : World) (e : Ending) (w' : World) : Prop :=
  ∃ v, e = .returned (.tuple #[.string (readText l).1, v, .int .i64 (readText l).2.2]) ∧ RB w' v (readText l).2.1 ∧ Below w.heap.size w w'
theorem text_err {l : List UInt8} {w w' : World} {n : Int} (h : readText l = (⟨#[]⟩, [], n)) (hb : Below w.heap.size w w') : TextPost l w (.returned (.tuple #[.string ⟨#[]⟩, .slice none 0 0, .int .i64 n])) w' := by
  refine ⟨.slice none 0 0, by rw [h], ?_, hb⟩
  rw [h]
  exact RS.nil
theorem text_ok {l r : List UInt8} {w w' : World} {s : ByteArray} {v : Value} (h : readText l = (s, r, 0)) (ho : RB w' v r) (hb : Below w.heap.size w w') : TextPost l w (.returned (.tuple #[.string s, v, .int .i64 0])) w' := by
  refine ⟨v, by rw [h], ?_, hb⟩
  rw [h]
  exact ho

set_option maxRecDepth 100000 in
set_option maxHeartbeats 1000000 in
theorem wire_ReadText (v : Value) (l : List UInt8) (w : World) (h : RB w v l) :
    Calls Try.prog 139 #[v] w (TextPost l w) := by
  have hrr := rn_range l
  have hrl := rn_rest_le l
  have hll : l.length ≤ 140737488351232 := by obtain ⟨_, _, _, _, _, hre, _⟩ := h; omega
  go_enter Try.func139, Try.ntmps139
  go_wp2_with fail
  refine (wire_ReadNumber _ _ _ h).mono ?_
  rintro e w1 ⟨v1, rfl, hown, hb1⟩
  have r1 := reads_u8 hown (by omega)
  clear hown h
  generalize hp : readNum l = p at hrr hrl r1 ⊢
  obtain ⟨n, r, e⟩ := p
  have hdef := readText_of hp
  clear hp
  simp only at hrr hrl r1 ⊢
  by_cases he : e = 0
  · subst he
    rw [if_neg (by simp)] at hdef
    by_cases h2000 : 2000 < n
    · rw [if_pos h2000] at hdef
      replace hdef := hid hdef
      go_wp2_with fail
      go_ret3
      exact text_err hdef.out hb1
    · rw [if_neg h2000] at hdef
      obtain ⟨m, rfl⟩ := Int.eq_ofNat_of_zero_le hrr.1
      by_cases hshort : r.length < m
      · rw [if_pos (by omega)] at hdef
        replace hdef := hid hdef
        obtain ⟨a, c, rfl, _⟩ := r1
        go_wp2_with fail
        go_ret3
        exact text_err hdef.out hb1
      · rw [if_neg (by omega), Int.toNat_natCast] at hdef
        replace hdef := hid hdef
        have r1' := r1
        obtain ⟨a, c, rfl, hlc, hcm, hre, hno, _⟩ := r1
        unfold maxLen at hcm
        have hup := RS.upto r1' m (by omega)
        have hfr := RS.from r1' m (by omega)
        have hml : m ≤ r.length := by omega
        have hc1 : ∀ W, Below w1.heap.size w1 W → (convert 38 9 (.slice a m c)).run Try.prog W = .ok (.string (bstr (r.take m))) W := fun W hW =>
          run_string_of 38 5 Try.underlying38 Try.underlying5 9 Try.underlying9 (hup.mono EU8.stable hW)
        have c1 := hc1 _ (Below.drew (Below.refl _ _))
        by_cases hcm2 : c = m
        · subst hcm2
          rw [if_pos rfl, Nat.sub_self, show r.length - c = 0 by omega] at hfr
          replace hc1 := hid hc1
          have hdl : (r.drop c).length ≤ 140737488351232 := by rw [List.length_drop]; omega
          go_wp2_with fail
          go_region_with (go_at_call 112; refine (bytes_Clone _ _ _ (hfr.mono EU8.stable (Below.drew (Below.refl _ _)))).mono ?_; rintro e w2 ⟨v2, rfl, ho2, hb2⟩; have c2 := hc1.out _ (b_call (Below.drew (Below.refl _ _)) hb2))
          all_goals
            have hb3 := b_call hb1 (b_call (Below.drew (Below.refl _ _)) hb2)
            clear c1 c2 hb2
            go_wp2_with fail
            go_ret3
            exact text_ok hdef.out (reads_u8 ho2 hdl) hb3
        · rw [if_neg hcm2, Nat.mul_one] at hfr
          replace hc1 := hid hc1
          have hdl : (r.drop m).length ≤ 140737488351232 := by rw [List.length_drop]; omega
          go_wp2_with fail
          go_region_with (go_at_call 112; refine (bytes_Clone _ _ _ (hfr.mono EU8.stable (Below.drew (Below.refl _ _)))).mono ?_; rintro e w2 ⟨v2, rfl, ho2, hb2⟩; have c2 := hc1.out _ (b_call (Below.drew (Below.refl _ _)) hb2))
          all_goals
            have hb3 := b_call hb1 (b_call (Below.drew (Below.refl _ _)) hb2)
            clear c1 c2 hb2
            go_wp2_with fail
            go_ret3
            exact text_ok hdef.out (reads_u8 ho2 hdl) hb3
  · rw [if_pos he] at hdef
    have hne : (e != 0) = true := by simp [he]
    have hne2 : (e == 0) = false := by simp [he]
    replace hdef := hid hdef
    clear he
    go_wp2_with fail
    go_ret3
    exact text_err hdef.out hb1

set_option maxRecDepth 100000 in
set_option maxHeartbeats 1000000 in
theorem ref_WireTextOf (v : Value) (l : List UInt8) (w : World) (h : RB w v l) :
    Calls Try.prog 135 #[v] w (TextPost l w) := by
  have hrr := rn_range l
  have hrl := rn_rest_le l
  have hll : l.length ≤ 140737488351232 := by obtain ⟨_, _, _, _, _, hre, _⟩ := h; omega
  go_enter Try.func135, Try.ntmps135
  go_wp2_with fail
  refine (ref_WireNumberOf _ _ _ h).mono ?_
  rintro e w1 ⟨v1, rfl, hown, hb1⟩
  have r1 := reads_u8 hown (by omega)
  clear hown h
  generalize hp : readNum l = p at hrr hrl r1 ⊢
  obtain ⟨n, r, e⟩ := p
  have hdef := readText_of hp
  clear hp
  simp only at hrr hrl r1 ⊢
  by_cases he : e = 0
  · subst he
    rw [if_neg (by simp)] at hdef
    by_cases h2000 : 2000 < n
    · rw [if_pos h2000] at hdef
      replace hdef := hid hdef
      go_wp2_with fail
      go_ret3
      exact text_err hdef.out hb1
    · rw [if_neg h2000] at hdef
      obtain ⟨m, rfl⟩ := Int.eq_ofNat_of_zero_le hrr.1
      by_cases hshort : r.length < m
      · rw [if_pos (by omega)] at hdef
        replace hdef := hid hdef
        obtain ⟨a, c, rfl, _⟩ := r1
        go_wp2_with fail
        go_ret3
        exact text_err hdef.out hb1
      · rw [if_neg (by omega), Int.toNat_natCast] at hdef
        replace hdef := hid hdef
        have r1' := r1
        obtain ⟨a, c, rfl, hlc, hcm, hre, hno, _⟩ := r1
        unfold maxLen at hcm
        have hup := RS.upto r1' m (by omega)
        have hfr := RS.from r1' m (by omega)
        have hml : m ≤ r.length := by omega
        have c1 : ∀ n, (convert 38 9 (.slice a m c)).run Try.prog (w1.drewN n) = .ok (.string (bstr (r.take m))) (w1.drewN n) := fun n =>
          run_string_of 38 5 Try.underlying38 Try.underlying5 9 Try.underlying9 hup
        by_cases hcm2 : c = m
        · subst hcm2
          rw [if_pos rfl, Nat.sub_self, show r.length - c = 0 by omega] at hfr
          go_wp2_with fail
          go_quiet (fail)
          go_wp2_with fail
          go_ret3
          exact text_ok hdef.out (RS.mono EU8.stable (w := w1) hfr (below_drewN (Below.refl _ _) _)) (below_drewN hb1 _)
        · rw [if_neg hcm2, Nat.mul_one] at hfr
          go_wp2_with fail
          go_quiet (fail)
          go_wp2_with fail
          go_ret3
          exact text_ok hdef.out (RS.mono EU8.stable (w := w1) hfr (below_drewN (Below.refl _ _) _)) (below_drewN hb1 _)
  · rw [if_pos he] at hdef
    have hne : (e != 0) = true := by simp [he]
    have hne2 : (e == 0) = false := by simp [he]
    replace hdef := hid hdef
    clear he
    go_wp2_with fail
    go_ret3
    exact text_err hdef.out hb1

theorem readText_rest_le (l : List UInt8) : (readText l).2.1.length ≤ l.length := by
  have h := rn_rest_le l
  unfold readText
  split
  · simp
  · split
    · simp
    · split
      · simp
      · simp; omega

end Go.Proofs.Ytaojfpgbpakmpaa
