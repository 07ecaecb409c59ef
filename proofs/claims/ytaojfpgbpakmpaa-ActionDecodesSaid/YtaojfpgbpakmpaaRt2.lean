/-
  The reference's WireTextOf once more, saying besides that what is left lies in new memory. Printed by gen_rt.py.
-/
import Derived.Test.YtaojfpgbpakmpaaRt
namespace Go.Proofs.Ytaojfpgbpakmpaa
open Go.RowKit

def TextNew (l : List UInt8) (w : World) (e : Ending) (w' : World) : Prop :=
  ∃ v, e = .returned (.tuple #[.string (readText l).1, v, .int .i64 (readText l).2.2]) ∧ RB w' v (readText l).2.1 ∧ (∀ k, v.ownBlock = some k → w.heap.size ≤ k) ∧ Below w.heap.size w w'
theorem tnew_err {l : List UInt8} {w w' : World} {n : Int} (h : readText l = (⟨#[]⟩, [], n)) (hb : Below w.heap.size w w') : TextNew l w (.returned (.tuple #[.string ⟨#[]⟩, .slice none 0 0, .int .i64 n])) w' := by
  refine ⟨.slice none 0 0, by rw [h], ?_, fun k hk => by simp [Value.ownBlock] at hk, hb⟩
  rw [h]
  exact RS.nil
theorem tnew_ok {l r : List UInt8} {w w' : World} {s : ByteArray} {v : Value} (h : readText l = (s, r, 0)) (ho : RB w' v r) (hn : ∀ k, v.ownBlock = some k → w.heap.size ≤ k) (hb : Below w.heap.size w w') : TextNew l w (.returned (.tuple #[.string s, v, .int .i64 0])) w' := by
  refine ⟨v, by rw [h], ?_, hn, hb⟩
  rw [h]
  exact ho
theorem own_map {a : Option Addr} {n l c l' c' k : Nat} (h : (Value.slice (a.map (·.add n)) l c).ownBlock = some k) : (Value.slice a l' c').ownBlock = some k := by
  cases a with
  | none => simp [Value.ownBlock] at h
  | some ad =>
    simp only [Option.map_some, Value.ownBlock, Option.some.injEq] at h ⊢
    rw [← h]
    unfold Addr.add
    split <;> rfl

set_option maxRecDepth 100000 in
set_option maxHeartbeats 1000000 in
theorem ref_WireTextOf_new (v : Value) (l : List UInt8) (w : World) (h : RB w v l) :
    Calls Try.prog 135 #[v] w (TextNew l w) := by
  have hrr := rn_range l
  have hrl := rn_rest_le l
  have hll : l.length ≤ 140737488351232 := by obtain ⟨_, _, _, _, _, hre, _⟩ := h; omega
  go_enter Try.func135, Try.ntmps135
  go_wp2_with fail
  refine (ref_WireNumberOf _ _ _ h).mono ?_
  rintro e w1 ⟨v1, rfl, hown, hb1⟩
  have r1 := reads_u8 hown (by omega)
  have hnew := hid (OS.block hown)
  clear hown h
  generalize hp : readNum l = p at hrr hrl r1 ⊢
  obtain ⟨n, r, e⟩ := p
  have hdef := readText_of hp
  clear hp
  simp only at hrr hrl r1 ⊢
  by_cases he : e = 0
  · subst he
    rw [if_neg (by simp)] at hdef
    by_cases h2000 : 2000 < n
    · rw [if_pos h2000] at hdef
      replace hdef := hid hdef
      go_wp2_with fail
      go_ret3
      exact tnew_err hdef.out hb1
    · rw [if_neg h2000] at hdef
      obtain ⟨m, rfl⟩ := Int.eq_ofNat_of_zero_le hrr.1
      by_cases hshort : r.length < m
      · rw [if_pos (by omega)] at hdef
        replace hdef := hid hdef
        obtain ⟨a, c, rfl, _⟩ := r1
        go_wp2_with fail
        go_ret3
        exact tnew_err hdef.out hb1
      · rw [if_neg (by omega), Int.toNat_natCast] at hdef
        replace hdef := hid hdef
        have r1' := r1
        obtain ⟨a, c, rfl, hlc, hcm, hre, hno, _⟩ := r1
        unfold maxLen at hcm
        have hup := RS.upto r1' m (by omega)
        have hfr := RS.from r1' m (by omega)
        have hml : m ≤ r.length := by omega
        have c1 : ∀ n, (convert 38 9 (.slice a m c)).run Try.prog (w1.drewN n) = .ok (.string (bstr (r.take m))) (w1.drewN n) := fun n =>
          run_string_of 38 5 Try.underlying38 Try.underlying5 9 Try.underlying9 hup
        by_cases hcm2 : c = m
        · subst hcm2
          rw [if_pos rfl, Nat.sub_self, show r.length - c = 0 by omega] at hfr
          go_wp2_with fail
          go_quiet (fail)
          go_wp2_with fail
          go_ret3
          exact tnew_ok hdef.out (RS.mono EU8.stable (w := w1) hfr (below_drewN (Below.refl _ _) _)) (fun k hk => hnew.out k (by cases a <;> exact hk)) (below_drewN hb1 _)
        · rw [if_neg hcm2, Nat.mul_one] at hfr
          go_wp2_with fail
          go_quiet (fail)
          go_wp2_with fail
          go_ret3
          exact tnew_ok hdef.out (RS.mono EU8.stable (w := w1) hfr (below_drewN (Below.refl _ _) _)) (fun k hk => hnew.out k (own_map hk)) (below_drewN hb1 _)
  · rw [if_pos he] at hdef
    have hne : (e != 0) = true := by simp [he]
    have hne2 : (e == 0) = false := by simp [he]
    replace hdef := hid hdef
    clear he
    go_wp2_with fail
    go_ret3
    exact tnew_err hdef.out hb1

end Go.Proofs.Ytaojfpgbpakmpaa
