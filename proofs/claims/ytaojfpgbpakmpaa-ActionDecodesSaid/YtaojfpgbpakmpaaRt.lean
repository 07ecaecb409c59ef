/-
  wire.ReadText once more, saying besides that what is left lies in the call's own memory. Printed by gen_rt.py.
-/
import Derived.Test.YtaojfpgbpakmpaaWire3
namespace Go.Proofs.Ytaojfpgbpakmpaa
open Go.RowKit

def TextOwn (l : List UInt8) (w : World) (e : Ending) (w' : World) : Prop :=
  ∃ v, e = .returned (.tuple #[.string (readText l).1, v, .int .i64 (readText l).2.2]) ∧ OS 5 1 cU8 w' w.heap.size v (readText l).2.1 ∧ Below w.heap.size w w'
theorem town_err {l : List UInt8} {w w' : World} {n : Int} (h : readText l = (⟨#[]⟩, [], n)) (hb : Below w.heap.size w w') : TextOwn l w (.returned (.tuple #[.string ⟨#[]⟩, .slice none 0 0, .int .i64 n])) w' := by
  refine ⟨.slice none 0 0, by rw [h], ?_, hb⟩
  rw [h]
  exact OS.nil
theorem town_ok {l r : List UInt8} {w w' : World} {s : ByteArray} {v : Value} (h : readText l = (s, r, 0)) (ho : OS 5 1 cU8 w' w.heap.size v r) (hb : Below w.heap.size w w') : TextOwn l w (.returned (.tuple #[.string s, v, .int .i64 0])) w' := by
  refine ⟨v, by rw [h], ?_, hb⟩
  rw [h]
  exact ho

set_option maxRecDepth 100000 in
set_option maxHeartbeats 1000000 in
theorem wire_ReadText_own (v : Value) (l : List UInt8) (w : World) (h : RB w v l) :
    Calls Try.prog 139 #[v] w (TextOwn l w) := by
  have hrr := rn_range l
  have hrl := rn_rest_le l
  have hll : l.length ≤ 140737488351232 := by obtain ⟨_, _, _, _, _, hre, _⟩ := h; omega
  go_enter Try.func139, Try.ntmps139
  go_wp2_with fail
  refine (wire_ReadNumber _ _ _ h).mono ?_
  rintro e w1 ⟨v1, rfl, hown, hb1⟩
  have r1 := reads_u8 hown (by omega)
  clear hown h
  generalize hp : readNum l = p at hrr hrl r1 ⊢
  obtain ⟨n, r, e⟩ := p
  have hdef := readText_of hp
  clear hp
  simp only at hrr hrl r1 ⊢
  by_cases he : e = 0
  · subst he
    rw [if_neg (by simp)] at hdef
    by_cases h2000 : 2000 < n
    · rw [if_pos h2000] at hdef
      replace hdef := hid hdef
      go_wp2_with fail
      go_ret3
      exact town_err hdef.out hb1
    · rw [if_neg h2000] at hdef
      obtain ⟨m, rfl⟩ := Int.eq_ofNat_of_zero_le hrr.1
      by_cases hshort : r.length < m
      · rw [if_pos (by omega)] at hdef
        replace hdef := hid hdef
        obtain ⟨a, c, rfl, _⟩ := r1
        go_wp2_with fail
        go_ret3
        exact town_err hdef.out hb1
      · rw [if_neg (by omega), Int.toNat_natCast] at hdef
        replace hdef := hid hdef
        have r1' := r1
        obtain ⟨a, c, rfl, hlc, hcm, hre, hno, _⟩ := r1
        unfold maxLen at hcm
        have hup := RS.upto r1' m (by omega)
        have hfr := RS.from r1' m (by omega)
        have hml : m ≤ r.length := by omega
        have hc1 : ∀ W, Below w1.heap.size w1 W → (convert 38 9 (.slice a m c)).run Try.prog W = .ok (.string (bstr (r.take m))) W := fun W hW =>
          run_string_of 38 5 Try.underlying38 Try.underlying5 9 Try.underlying9 (hup.mono EU8.stable hW)
        have c1 := hc1 _ (Below.drew (Below.refl _ _))
        by_cases hcm2 : c = m
        · subst hcm2
          rw [if_pos rfl, Nat.sub_self, show r.length - c = 0 by omega] at hfr
          replace hc1 := hid hc1
          go_wp2_with fail
          go_region_with (go_at_call 112; refine (bytes_Clone _ _ _ (hfr.mono EU8.stable (Below.drew (Below.refl _ _)))).mono ?_; rintro e w2 ⟨v2, rfl, ho2, hb2⟩; have c2 := hc1.out _ (b_call (Below.drew (Below.refl _ _)) hb2))
          all_goals
            have hb3 := b_call hb1 (b_call (Below.drew (Below.refl _ _)) hb2)
            clear c1 c2 hb2
            go_wp2_with fail
            go_ret3
            exact town_ok hdef.out (OS.mono ho2 hb1.size) hb3
        · rw [if_neg hcm2, Nat.mul_one] at hfr
          replace hc1 := hid hc1
          go_wp2_with fail
          go_region_with (go_at_call 112; refine (bytes_Clone _ _ _ (hfr.mono EU8.stable (Below.drew (Below.refl _ _)))).mono ?_; rintro e w2 ⟨v2, rfl, ho2, hb2⟩; have c2 := hc1.out _ (b_call (Below.drew (Below.refl _ _)) hb2))
          all_goals
            have hb3 := b_call hb1 (b_call (Below.drew (Below.refl _ _)) hb2)
            clear c1 c2 hb2
            go_wp2_with fail
            go_ret3
            exact town_ok hdef.out (OS.mono ho2 hb1.size) hb3
  · rw [if_pos he] at hdef
    have hne : (e != 0) = true := by simp [he]
    have hne2 : (e == 0) = false := by simp [he]
    replace hdef := hid hdef
    clear he
    go_wp2_with fail
    go_ret3
    exact town_err hdef.out hb1

end Go.Proofs.Ytaojfpgbpakmpaa
