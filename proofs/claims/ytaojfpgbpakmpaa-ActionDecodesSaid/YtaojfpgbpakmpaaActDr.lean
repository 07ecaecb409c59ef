/-
  The reference's ActionOf: what it answers.
-/
import Derived.Test.YtaojfpgbpakmpaaActD
namespace Go.Proofs.Ytaojfpgbpakmpaa
open Go.RowKit

set_option maxRecDepth 100000 in
theorem actionOf_no (e : Int) (w : World) : Calls Try.prog 141 #[.int .i64 e] w fun x w' => x = .returned (.tuple #[.agg #[.string ⟨#[]⟩, .slice none 0 0], .int .i64 e]) ∧ Below w.heap.size w w' := by
  go_enter Try.func141, Try.ntmps141
  go_wp2_with fail
  go_returns
  exact ⟨rfl, b_alloc (Below.refl _ _) _⟩
theorem prefix_of {b : List UInt8} : Lib.hasPrefix (bstr b).data.toList [65, 65, 49] = decide (b.take 3 = [65, 65, 49]) := by
  unfold Lib.hasPrefix bstr
  rw [Bool.eq_iff_iff, List.isPrefixOf_iff_prefix, decide_eq_true_iff, List.prefix_iff_eq_take]
  exact ⟨fun h => h.symm, fun h => h.symm⟩

set_option maxRecDepth 100000 in
set_option maxHeartbeats 1000000 in
theorem ref_ActionOf (v : Value) (b : List UInt8) (w : World) (h : RB w v b) : Calls Try.prog 52 #[v] w (ADPost b w) := by
  have hR := hid h
  obtain ⟨w1, hw1⟩ : ∃ w1 : World, w1 = w.alloc (Obj.cells #[.string ⟨#[]⟩, .slice none 0 0] 66) := ⟨_, rfl⟩
  have hb1 : Below w.heap.size w w1 := by rw [hw1]; exact b_alloc (Below.refl _ _) _
  have hq1 : w1.heap[w.heap.size]? = some (.cells #[.string ⟨#[]⟩, .slice none 0 0] 66 (0, 0)) := by rw [hw1]; exact heap_alloc_new w _
  have hR1 := hR.out.mono EU8.stable hb1
  obtain ⟨a, c, rfl, hlc, hcm, hre, hno, hat⟩ := h
  unfold maxLen at hcm
  by_cases hsz : 2000 < b.length
  · have hz := hid (da_size hsz)
    have q : decide (2000 < (b.length : Int)) = true := by simp; omega
    replace hq1 := hid hq1
    replace hb1 := hid hb1
    clear hat hno hR1
    go_enter Try.func52, Try.ntmps52
    go_wp2_with fail
    rw [← hw1]
    ((with_reducible refine (actionOf_no _ _).mono ?_); rintro e9 wn ⟨rfl, bn⟩)
    have hqn := (bn.block w.heap.size (Array.getElem?_eq_some_iff.1 hq1.out).1).trans hq1.out
    have hbn := b_call hb1.out bn
    clear bn
    obtain ⟨m0, m1, n0, n1⟩ := box2f hqn
    go_wp2_with fail
    have hq9 := box2_set (u0 := .string ⟨#[]⟩) (u1 := .slice none 0 0) hqn
    have hb9 := b_set (b_set hbn (p := ⟨w.heap.size, 0, none⟩) (Nat.le_refl _) (.string ⟨#[]⟩)) (p := ⟨w.heap.size, 1, none⟩) (Nat.le_refl _) (.slice none 0 0)
    obtain ⟨k0, k1, -, -⟩ := box2f hq9
    generalize (wn.setCell ⟨w.heap.size, 0, none⟩ (.string ⟨#[]⟩)).setCell ⟨w.heap.size, 1, none⟩ (.slice none 0 0) = w9 at *
    (try simp only [Exit.inBlock, Exit.then])
    refine bodyPost_ret (by simp [results, Try.results52, go_sem, k0, k1]; try rfl) rfl ?_
    exact ad_no hz.out hb9
  · have q : decide (2000 < (b.length : Int)) = false := by simp; omega
    have cd := run_string_of 38 5 Try.underlying38 Try.underlying5 9 Try.underlying9 hR1
    have hpf := Try.strings_HasPrefix (bstr b) ⟨#[65, 65, 49]⟩ w1
    rw [show (⟨#[65, 65, 49]⟩ : ByteArray).data.toList = [65, 65, 49] from rfl, prefix_of] at hpf
    by_cases hs : b.take 3 = [65, 65, 49]
    · rw [decide_eq_true hs] at hpf
      have hb3 : 3 ≤ b.length := by
        have := congrArg List.length hs
        rw [List.length_take] at this
        simp at this; omega
      have hc3 : 3 ≤ c := by omega
      obtain ⟨bb, off, rfl⟩ : ∃ bb off, a = some ⟨bb, off, none⟩ := by
        obtain ⟨bb, off, e, _⟩ := hat 0 _ (List.getElem?_eq_getElem (show 0 < b.length by omega))
        exact ⟨bb, off, e⟩
      obtain ⟨A, hA⟩ : ∃ A, (if c = 3 then (some ⟨bb, off, none⟩ : Option Addr) else some ⟨bb, off + 3, none⟩) = A := ⟨_, rfl⟩
      have hA2 : (if c = 3 then (some ⟨bb, off, none⟩ : Option Addr) else (some (⟨bb, off, none⟩ : Addr)).map (·.add (3 * 1))) = A := by rw [← hA]; simp [Addr.add_lit]
      have hrr := behind_reads hR1 3 hb3
      rw [behind_slice, hA2] at hrr
      have f1 := hid fun w (g : RB w (.slice A (b.length - 3) (c - 3)) (b.drop 3)) => ref_WireTextOf _ _ w g
      unfold TextPost at f1
      have z1 := hid fun s r e (h3 : readText (b.drop 3) = (s, r, e)) (he : e ≠ 0) => da_text hsz hs h3 he
      have z2 := hid fun s r l e (h3 : readText (b.drop 3) = (s, r, 0)) (h4 : decParts r = (l, e)) (he : e ≠ 0) => da_parts hsz hs h3 h4 he
      have z3 := hid fun s r l (h3 : readText (b.drop 3) = (s, r, 0)) (h4 : decParts r = (l, 0)) => da_rest hsz hs h3 h4
      have zs := hid fun s r (h3 : readText (b.drop 3) = (s, r, 0)) => readText_size h3
      generalize ht : readText (b.drop 3) = t at *
      obtain ⟨s, r, e⟩ := t
      simp only at f1
      replace hpf := hid hpf
      replace hrr := hid hrr
      replace hb1 := hid hb1
      replace hq1 := hid hq1
      clear hs ht hA2 hat hno hR1
      rw [hw1] at cd
      go_enter Try.func52, Try.ntmps52
      go_wp2_with fail
      rw [← hw1] at cd ⊢
      ((with_reducible refine hpf.out.mono ?_); rintro e1 w1' ⟨rfl, rfl⟩)
      clear hpf cd hw1
      have hl1 := (Array.getElem?_eq_some_iff.1 hq1.out).1
      go_wp2_with fail
      ((with_reducible refine (f1.out _ hrr.out).mono ?_); rintro e2 w2 ⟨v2, rfl, r2, b2⟩)
      have hq2 := hid ((b2.block w.heap.size hl1).trans hq1.out)
      have hb2 := hid (b_call hb1.out b2)
      have hl2 := (Array.getElem?_eq_some_iff.1 hq2.out).1
      clear hq1 hl1 b2 hb1 hA
      by_cases he : e = 0
      · subst he
        have f2 := hid fun w (g : RB w v2 r) => ref_PartsOf v2 r w g
        unfold DecPost at f2
        have hsz2 := (zs.out s r rfl).1
        replace z2 := hid fun l e (h4 : decParts r = (l, e)) (he : e ≠ 0) => z2.out s r l e rfl h4 he
        replace z3 := hid fun l (h4 : decParts r = (l, 0)) => z3.out s r l rfl h4
        clear z1 zs
        generalize hp : decParts r = p at *
        obtain ⟨l, e⟩ := p
        simp only at f2
        clear hp
        go_wp2_with fail
        ((with_reducible refine (f2.out _ r2).mono ?_); rintro e3 w3 ⟨v3, rfl, r3, b3⟩)
        have hq3 := hid ((b3.block w.heap.size hl2).trans hq2.out)
        have hb3 := hid (b_call hb2.out b3)
        have hl3 := (Array.getElem?_eq_some_iff.1 hq3.out).1
        clear hq2 hl2 b3 hb2 r2
        by_cases he : e = 0
        · subst he
          have hz := z3.out l rfl
          clear z2 z3
          have f3 := hid fun w (g : RP w v3 l) => ref_ActionFault s v3 l w (by omega) g
          obtain ⟨a3, c3, rfl, -⟩ := id r3
          replace r3 := hid r3
          generalize actFault s l = z at *
          replace hz := hid hz
          go_wp2_with fail
          ((with_reducible refine (f3.out _ (r3.out.mono EPart.stable (b_alloc (Below.refl _ _) _))).mono ?_); rintro e4 w4 ⟨rfl, b4⟩)
          have hqC := hid ((b4.block w3.heap.size (by simp)).trans (heap_alloc_new w3 _))
          have hq4 := hid ((b4.block w.heap.size (by simp; omega)).trans ((heap_alloc_old w3 _ hl3).trans hq3.out))
          have hb4 := hid (b_call (b_alloc hb3.out _) b4)
          have r4 := hid ((r3.out.mono EPart.stable (b_alloc (Below.refl _ _) _)).mono EPart.stable b4)
          obtain ⟨x0, x1, y0, y1⟩ := box2f hq4.out
          obtain ⟨p0, p1, -, -⟩ := box2f hqC.out
          clear hq3 hl3 b4 hb3 r3
          by_cases he : z = 0
          · subst he
            replace hz := hid (hz.out.trans (if_neg (by simp)))
            go_wp2_with fail
            have hq9 := box2_set (u0 := .string s) (u1 := .slice a3 l.length c3) hq4.out
            have hb9 := b_set (b_set hb4.out (p := ⟨w.heap.size, 0, none⟩) (Nat.le_refl _) (.string s)) (p := ⟨w.heap.size, 1, none⟩) (Nat.le_refl _) (.slice a3 l.length c3)
            have r9 := rp_box (o := 1) (x := .slice a3 l.length c3) (rp_box (o := 0) (x := .string s) r4.out hq4.out (fun _ e => by cases e)) (box2_0 hq4.out) (fun _ e => by cases e)
            obtain ⟨k0, k1, -, -⟩ := box2f hq9
            generalize (w4.setCell ⟨w.heap.size, 0, none⟩ (.string s)).setCell ⟨w.heap.size, 1, none⟩ (.slice a3 l.length c3) = w9 at *
            (try simp only [Exit.inBlock, Exit.then])
            refine bodyPost_ret (by simp [results, Try.results52, go_sem, k0, k1]; try rfl) rfl ?_
            exact ad_ok hz.out r9 hb9
          · have t : (z != 0) = true := by simp [he]
            replace hz := hid (hz.out.trans (if_pos he))
            replace he := hid he
            clear x0 x1 y0 y1
            go_wp2_with fail
            ((with_reducible refine (actionOf_no _ _).mono ?_); rintro e9 wn ⟨rfl, bn⟩)
            have hqn := (bn.block w.heap.size (Array.getElem?_eq_some_iff.1 hq4.out).1).trans hq4.out
            have hbn := b_call hb4.out bn
            clear bn
            obtain ⟨m0, m1, n0, n1⟩ := box2f hqn
            go_wp2_with fail
            have hq9 := box2_set (u0 := .string ⟨#[]⟩) (u1 := .slice none 0 0) hqn
            have hb9 := b_set (b_set hbn (p := ⟨w.heap.size, 0, none⟩) (Nat.le_refl _) (.string ⟨#[]⟩)) (p := ⟨w.heap.size, 1, none⟩) (Nat.le_refl _) (.slice none 0 0)
            obtain ⟨k0, k1, -, -⟩ := box2f hq9
            generalize (wn.setCell ⟨w.heap.size, 0, none⟩ (.string ⟨#[]⟩)).setCell ⟨w.heap.size, 1, none⟩ (.slice none 0 0) = w9 at *
            (try simp only [Exit.inBlock, Exit.then])
            refine bodyPost_ret (by simp [results, Try.results52, go_sem, k0, k1]; try rfl) rfl ?_
            exact ad_no hz.out hb9
        · have hz := hid (z2.out l e rfl he)
          have t : (e != 0) = true := by simp [he]
          clear z2 z3
          replace he := hid he
          go_wp2_with fail
          ((with_reducible refine (actionOf_no _ _).mono ?_); rintro e9 wn ⟨rfl, bn⟩)
          have hqn := (bn.block w.heap.size (Array.getElem?_eq_some_iff.1 hq3.out).1).trans hq3.out
          have hbn := b_call hb3.out bn
          clear bn
          obtain ⟨m0, m1, n0, n1⟩ := box2f hqn
          go_wp2_with fail
          have hq9 := box2_set (u0 := .string ⟨#[]⟩) (u1 := .slice none 0 0) hqn
          have hb9 := b_set (b_set hbn (p := ⟨w.heap.size, 0, none⟩) (Nat.le_refl _) (.string ⟨#[]⟩)) (p := ⟨w.heap.size, 1, none⟩) (Nat.le_refl _) (.slice none 0 0)
          obtain ⟨k0, k1, -, -⟩ := box2f hq9
          generalize (wn.setCell ⟨w.heap.size, 0, none⟩ (.string ⟨#[]⟩)).setCell ⟨w.heap.size, 1, none⟩ (.slice none 0 0) = w9 at *
          (try simp only [Exit.inBlock, Exit.then])
          refine bodyPost_ret (by simp [results, Try.results52, go_sem, k0, k1]; try rfl) rfl ?_
          exact ad_no hz.out hb9
      · have hz := hid (z1.out s r e rfl he)
        have t : (e != 0) = true := by simp [he]
        clear z1 z2 z3 zs
        replace he := hid he
        go_wp2_with fail
        ((with_reducible refine (actionOf_no _ _).mono ?_); rintro e9 wn ⟨rfl, bn⟩)
        have hqn := (bn.block w.heap.size (Array.getElem?_eq_some_iff.1 hq2.out).1).trans hq2.out
        have hbn := b_call hb2.out bn
        clear bn
        obtain ⟨m0, m1, n0, n1⟩ := box2f hqn
        go_wp2_with fail
        have hq9 := box2_set (u0 := .string ⟨#[]⟩) (u1 := .slice none 0 0) hqn
        have hb9 := b_set (b_set hbn (p := ⟨w.heap.size, 0, none⟩) (Nat.le_refl _) (.string ⟨#[]⟩)) (p := ⟨w.heap.size, 1, none⟩) (Nat.le_refl _) (.slice none 0 0)
        obtain ⟨k0, k1, -, -⟩ := box2f hq9
        generalize (wn.setCell ⟨w.heap.size, 0, none⟩ (.string ⟨#[]⟩)).setCell ⟨w.heap.size, 1, none⟩ (.slice none 0 0) = w9 at *
        (try simp only [Exit.inBlock, Exit.then])
        refine bodyPost_ret (by simp [results, Try.results52, go_sem, k0, k1]; try rfl) rfl ?_
        exact ad_no hz.out hb9
    · rw [decide_eq_false hs] at hpf
      have hz := hid (da_sign hsz hs)
      replace hpf := hid hpf
      replace hb1 := hid hb1
      replace hq1 := hid hq1
      clear hs hat hno hR1
      rw [hw1] at cd
      go_enter Try.func52, Try.ntmps52
      go_wp2_with fail
      rw [← hw1] at cd ⊢
      ((with_reducible refine hpf.out.mono ?_); rintro e1 w1' ⟨rfl, rfl⟩)
      clear hpf cd hw1
      go_wp2_with fail
      ((with_reducible refine (actionOf_no _ _).mono ?_); rintro e9 wn ⟨rfl, bn⟩)
      have hqn := (bn.block w.heap.size (Array.getElem?_eq_some_iff.1 hq1.out).1).trans hq1.out
      have hbn := b_call hb1.out bn
      clear bn
      obtain ⟨m0, m1, n0, n1⟩ := box2f hqn
      go_wp2_with fail
      have hq9 := box2_set (u0 := .string ⟨#[]⟩) (u1 := .slice none 0 0) hqn
      have hb9 := b_set (b_set hbn (p := ⟨w.heap.size, 0, none⟩) (Nat.le_refl _) (.string ⟨#[]⟩)) (p := ⟨w.heap.size, 1, none⟩) (Nat.le_refl _) (.slice none 0 0)
      obtain ⟨k0, k1, -, -⟩ := box2f hq9
      generalize (wn.setCell ⟨w.heap.size, 0, none⟩ (.string ⟨#[]⟩)).setCell ⟨w.heap.size, 1, none⟩ (.slice none 0 0) = w9 at *
      (try simp only [Exit.inBlock, Exit.then])
      refine bodyPost_ret (by simp [results, Try.results52, go_sem, k0, k1]; try rfl) rfl ?_
      exact ad_no hz.out hb9
end Go.Proofs.Ytaojfpgbpakmpaa
