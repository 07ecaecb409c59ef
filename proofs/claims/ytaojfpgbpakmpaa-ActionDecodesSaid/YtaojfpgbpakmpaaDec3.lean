/-
  The reference's PartsOf: what it answers.
-/
import Derived.Test.YtaojfpgbpakmpaaRt2
import Derived.Test.YtaojfpgbpakmpaaDec2
namespace Go.Proofs.Ytaojfpgbpakmpaa
open Go.RowKit

theorem rb_set {q o : Nat} {u : Value} {w : World} {v : Value} {l : List UInt8} (h : RB w v l) (hn : ∀ k, v.ownBlock = some k → k ≠ q) : RB (w.setCell ⟨q, o, none⟩ u) v l := by
  obtain ⟨a, c, rfl, h1, h2, h3, h4, h5⟩ := h
  refine ⟨a, c, rfl, h1, h2, h3, h4, fun k x hk => ?_⟩
  obtain ⟨b, off, rfl, hlt, he⟩ := h5 k x hk
  refine ⟨b, off, rfl, by simpa [World.setCell] using hlt, ?_⟩
  unfold EU8 at he ⊢
  rw [World.cell?_of_block (w := w) (Below.heap_setCell _ _ _ _ (hn b rfl))]
  exact he
theorem box3_0 {w : World} {q : Nat} {a b c u : Value} {T : TypeId} (h : w.heap[q]? = some (.cells #[a, b, c] T (0, 0))) : (w.setCell ⟨q, 0, none⟩ u).heap[q]? = some (.cells #[u, b, c] T (0, 0)) := by
  simp [World.setCell, Array.getElem?_modify, h]
theorem box3_1 {w : World} {q : Nat} {a b c u : Value} {T : TypeId} (h : w.heap[q]? = some (.cells #[a, b, c] T (0, 0))) : (w.setCell ⟨q, 1, none⟩ u).heap[q]? = some (.cells #[a, u, c] T (0, 0)) := by
  simp [World.setCell, Array.getElem?_modify, h]
theorem box3_2 {w : World} {q : Nat} {a b c u : Value} {T : TypeId} (h : w.heap[q]? = some (.cells #[a, b, c] T (0, 0))) : (w.setCell ⟨q, 2, none⟩ u).heap[q]? = some (.cells #[a, b, u] T (0, 0)) := by
  simp [World.setCell, Array.getElem?_modify, h]
theorem box3 {w : World} {b : Nat} {c0 c1 c2 : Value} {T : TypeId} (h : w.heap[b]? = some (.cells #[c0, c1, c2] T (0, 0))) : w.cell? ⟨b, 0, none⟩ = some c0 ∧ w.cell? ⟨b, 1, none⟩ = some c1 ∧ w.cell? ⟨b, 2, none⟩ = some c2 ∧
    w.frozen? ⟨b, 0, none⟩ = false ∧ w.frozen? ⟨b, 1, none⟩ = false ∧ w.frozen? ⟨b, 2, none⟩ = false :=
  ⟨cell_of_row _ _ 0 _ _ _ h, cell_of_row _ _ 1 _ _ _ h, cell_of_row _ _ 2 _ _ _ h, Lib.frozen_of_heap h 0, Lib.frozen_of_heap h 1, Lib.frozen_of_heap h 2⟩

set_option maxRecDepth 100000 in
set_option maxHeartbeats 4000000 in
theorem ref_PartsOf (v : Value) (b : List UInt8) (w : World) (h : RB w v b) : Calls Try.prog 46 #[v] w (DecPost b w) := by
  obtain ⟨i0, ii0, hz0, hz1, hz2⟩ := info_parts info_part
  have hR := hid h
  obtain ⟨a, c, rfl, hlc, hcm, hre, hno, hat⟩ := h
  unfold maxLen at hcm
  clear hat
  by_cases hsz : 2000 < b.length
  · have hz := hid (dec_size hsz)
    have q : decide (2000 < (b.length : Int)) = true := by simp; omega
    clear hno
    go_enter Try.func46, Try.ntmps46
    go_wp2_with fail
    go_ret2
    exact dpost_no hz.out (Below.refl _ _)
  · have q : decide (2000 < (b.length : Int)) = false := by simp; omega
    by_cases h3 : b.length < 3
    · have hs : b.take 3 ≠ [65, 77, 49] := fun e => by
        have := congrArg List.length e
        rw [List.length_take] at this
        simp at this; omega
      have hz := hid (dec_sign hsz hs)
      have q3 : decide ((b.length : Int) < 3) = true := by simp; omega
      clear hno hs
      go_enter Try.func46, Try.ntmps46
      go_wp2_with fail
      go_ret2
      exact dpost_no hz.out (Below.refl _ _)
    · have q3 : decide ((b.length : Int) < 3) = false := by simp; omega
      have hup := RS.upto hR.out 3 (by omega)
      have cd := run_string_of 38 5 Try.underlying38 Try.underlying5 9 Try.underlying9 hup
      have hc3 : 3 ≤ c := by omega
      have hb3 : 3 ≤ b.length := by omega
      clear hup
      by_cases hs : b.take 3 = [65, 77, 49]
      · have hz := hid (fun (n e : Int) (r : List UInt8) (h3 : readNum (b.drop 3) = (n, r, e)) => dec_num hsz hs h3)
        rw [hs] at cd
        have hbs : bstr [65, 77, 49] = ⟨#[65, 77, 49]⟩ := rfl
        rw [hbs] at cd
        obtain ⟨bb, off, rfl⟩ : ∃ bb off, a = some ⟨bb, off, none⟩ := by
          obtain ⟨_, _, hv, _, _, _, _, hat⟩ := hR.out
          simp only [Value.slice.injEq] at hv
          obtain ⟨rfl, -, -⟩ := hv
          obtain ⟨bb, off, e, _⟩ := hat 0 _ (List.getElem?_eq_getElem (show 0 < b.length by omega))
          exact ⟨bb, off, e⟩
        obtain ⟨A, hA⟩ : ∃ A, (if c = 3 then (some ⟨bb, off, none⟩ : Option Addr) else some ⟨bb, off + 3, none⟩) = A := ⟨_, rfl⟩
        have hA2 : (if c = 3 then (some ⟨bb, off, none⟩ : Option Addr) else (some (⟨bb, off, none⟩ : Addr)).map (·.add (3 * 1))) = A := by rw [← hA]; simp [Addr.add_lit]
        have hrr := behind_reads hR.out 3 hb3
        rw [behind_slice, hA2] at hrr
        replace hrr := hid hrr
        have hdl2 : (b.drop 3).length ≤ 2000 := by rw [List.length_drop]; omega
        clear hbs hs hA2 hno
        go_enter Try.func46, Try.ntmps46
        go_wp2_with fail
        ((with_reducible refine (ref_WireNumberOf _ (b.drop 3) w hrr.out).mono ?_); rintro e w1 ⟨v1, rfl, o1, b1⟩)
        have hzz := hz.out (readNum (b.drop 3)).1 (readNum (b.drop 3)).2.2 (readNum (b.drop 3)).2.1 rfl
        have hrange := rn_range (b.drop 3)
        have hrl := rn_rest_le (b.drop 3)
        clear hz hA cd hrr
        generalize readNum (b.drop 3) = z3 at *
        obtain ⟨n, r, e3⟩ := z3
        simp only at o1 hzz hrange hrl ⊢
        have r1 := reads_u8 o1 (by omega)
        obtain ⟨a1, c1, rfl, -⟩ := id r1
        replace r1 := hid r1
        replace b1 := hid b1
        clear o1
        by_cases he3 : e3 = 0
        · subst he3
          rw [if_neg (by simp)] at hzz
          by_cases hn8 : 8 < n
          · rw [if_pos hn8] at hzz
            have q8 : decide (8 < n) = true := by simp [hn8]
            replace hzz := hid hzz
            go_wp2_with fail
            go_ret2
            exact dpost_no hzz.out b1.out
          · rw [if_neg hn8] at hzz
            have q8 : decide (8 < n) = false := by simp; omega
            obtain ⟨N, rfl⟩ := Int.eq_ofNat_of_zero_le hrange.1
            rw [Int.toNat_natCast] at hzz
            have hN : N ≤ 8 := by omega
            have hinv : Hid (DInv b N 0 [] r) := hid ⟨rfl, hzz, fun x hx => by simp at hx, by omega⟩
            have hown0 : Hid (OS 143 3 cPart w1 w.heap.size (.slice none 0 0) []) := hid OS.nil
            clear hzz hrange hrl
            obtain ⟨B, hB⟩ : ∃ B, w.heap.size = B := ⟨_, rfl⟩
            rw [hB] at hown0 b1
            replace hB := hid hB
            go_wp2_with fail
            go_loopw [5, 6, 7, 8, 9] (fun rv e o i _ wr => ∃ (k : Nat) (ps : List Part) (l : List UInt8), k ≤ N ∧ i = .int .i64 (k : Int) ∧ e = .int .i64 0 ∧ Hid (DInv b N k ps l) ∧ (∃ ra rc, rv = .slice ra l.length rc) ∧ Hid (RB wr rv l) ∧ Hid (OS 143 3 cPart wr B o ps) ∧ Hid (Below B w wr)) (fun _ _ _ i _ _ => N - (intOf i).toNat)
            case atStart => exact ⟨0, [], r, by omega, rfl, rfl, hinv, ⟨_, _, rfl⟩, r1, hown0, b1⟩
            case round =>
              obtain ⟨k, ps, l, hk, rfl, rfl, hin, ⟨ra, rc, rfl⟩, hrb, hown, hb⟩ := hrel
              by_cases hlt : k < N
              · have hll : l.length ≤ 2000 := hin.out.2.2.2
                have hpl := hin.out.1
                have hpk : ps.length ≤ 8 := by omega
                replace hpl := hid hpl
                have hsB : B ≤ wr.heap.size := by have := hb.out.size; have := hB.out; omega
                have hba := b_alloc (Below.refl _ wr) (Obj.cells #[.string ⟨#[]⟩, .string ⟨#[]⟩, .int .i64 0] 143)
                have hq1 := heap_alloc_new wr (Obj.cells #[.string ⟨#[]⟩, .string ⟨#[]⟩, .int .i64 0] 143)
                have hrb1 := hrb.out.mono EU8.stable hba
                have hsz1 : (wr.alloc (Obj.cells #[.string ⟨#[]⟩, .string ⟨#[]⟩, .int .i64 0] 143)).heap.size = wr.heap.size + 1 := by simp
                replace hba := hid hba
                replace hq1 := hid hq1
                replace hsz1 := hid hsz1
                go_wp2_with fail
                generalize wr.alloc (Obj.cells #[.string ⟨#[]⟩, .string ⟨#[]⟩, .int .i64 0] 143) = W1 at *
                ((with_reducible refine (ref_WireTextOf_new _ l W1 hrb1).mono ?_); rintro e w2 ⟨v2, rfl, r2, hn2, b2⟩)
                have hlr := readText_rest_le l
                obtain ⟨s1, r4, e4, hq4⟩ : ∃ s r e, readText l = (s, r, e) := ⟨_, _, _, rfl⟩
                rw [hq4] at r2 hlr ⊢
                simp only at r2 hlr ⊢
                replace hq4 := hid hq4
                have hq2 := (b2.block wr.heap.size (by have := hsz1.out; omega)).trans hq1.out
                have hb2 := b_call hba.out b2
                have hnq : ∀ k, v2.ownBlock = some k → k ≠ wr.heap.size := fun k hk e => by have := hn2 k hk; have := hsz1.out; omega
                obtain ⟨x0, x1, x2, f0, f1, f2⟩ := box3 hq2
                have hq3 := box3_0 (u := .string s1) hq2
                have r3 := rb_set (o := 0) (u := .string s1) r2 hnq
                have hb3 := b_set hb2 (p := ⟨wr.heap.size, 0, none⟩) (Nat.le_refl _) (.string s1)
                obtain ⟨a2, c2, rfl, hlc2, hcm2, -⟩ := id r3
                unfold maxLen at hcm2
                replace hnq := hid hnq
                replace hq3 := hid hq3
                replace r3 := hid r3
                replace hb3 := hid hb3
                have hsq3 : wr.heap.size < (w2.setCell ⟨wr.heap.size, 0, none⟩ (.string s1)).heap.size := (Array.getElem?_eq_some_iff.1 hq3.out).1
                clear r2 hn2 b2 hq2 hb2 hrb hrb1 hq1 hba hsz1
                by_cases he4 : e4 = 0
                · subst he4
                  by_cases h32 : r4.length < 32
                  · have hz := hid (hin.out.2.1.trans (show decRest (N - k) ps l = ([], 8) by rw [show N - k = (N - (k + 1)) + 1 by omega]; exact dec_step_short hq4.out h32))
                    have t32 : decide ((r4.length : Int) < 32) = true := by simp; omega
                    clear hin hsq3
                    go_wp2_with fail
                    go_ret2
                    exact dpost_no hz.out (hB.out.symm ▸ hb.out.trans (hb3.out.mono hsB))
                  · have t32 : decide ((r4.length : Int) < 32) = false := by simp; omega
                    have g32 : 32 ≤ r4.length := by omega
                    have g32c : 32 ≤ c2 := by omega
                    obtain ⟨ad2, od2, rfl⟩ : ∃ bb off, a2 = some ⟨bb, off, none⟩ := by
                      obtain ⟨_, _, hv, _, _, _, _, hat⟩ := r3.out
                      simp only [Value.slice.injEq] at hv
                      obtain ⟨rfl, -, -⟩ := hv
                      obtain ⟨bb, off, e, _⟩ := hat 0 _ (List.getElem?_eq_getElem (show 0 < r4.length by omega))
                      exact ⟨bb, off, e⟩
                    obtain ⟨A2, hA2⟩ : ∃ A, (if c2 = 32 then (some ⟨ad2, od2, none⟩ : Option Addr) else some ⟨ad2, od2 + 32, none⟩) = A := ⟨_, rfl⟩
                    have hA3 : (if c2 = 32 then (some ⟨ad2, od2, none⟩ : Option Addr) else (some (⟨ad2, od2, none⟩ : Addr)).map (·.add (32 * 1))) = A2 := by rw [← hA2]; simp [Addr.add_lit]
                    have hup := hid (RS.upto r3.out 32 g32)
                    have hbe := behind_reads r3.out 32 g32
                    have hbk := fun k (hk : (behind (.slice (some ⟨ad2, od2, none⟩) r4.length c2) 32).ownBlock = some k) => hnq.out k (behind_block hk)
                    rw [behind_slice, hA3] at hbe hbk
                    replace hbe := hid hbe
                    replace hbk := hid hbk
                    clear hA3 r3 hnq
                    go_wp2_with fail
                    generalize w2.setCell ⟨wr.heap.size, 0, none⟩ (.string s1) = W3 at *
                    ((with_reducible refine (ref_HexText _ (r4.take 32) W3 hup.out (by rw [List.length_take]; omega)).mono ?_); rintro e w4 ⟨rfl, b4⟩)
                    generalize hst : bstr (hexOf (r4.take 32)) = st at *
                    replace hst := hid hst
                    have hq4' := (b4.block wr.heap.size hsq3).trans hq3.out
                    obtain ⟨x0, x1, x2, f0, f1, f2⟩ := box3 hq4'
                    have hq5 := box3_1 (u := .string st) hq4'
                    have hb5 := b_set (b_call hb3.out b4) (p := ⟨wr.heap.size, 1, none⟩) (Nat.le_refl _) (.string st)
                    have hbe5 := rb_set (o := 1) (u := .string st) (hbe.out.mono EU8.stable b4) hbk.out
                    replace hq5 := hid hq5
                    replace hb5 := hid hb5
                    replace hbe5 := hid hbe5
                    have hsq5 : wr.heap.size < (w4.setCell ⟨wr.heap.size, 1, none⟩ (.string st)).heap.size := (Array.getElem?_eq_some_iff.1 hq5.out).1
                    have hld : (r4.drop 32).length ≤ 2000 := by rw [List.length_drop]; omega
                    clear b4 hq4' hq3 hb3 hbe hup hbk hsq3
                    go_wp2_with fail
                    generalize w4.setCell ⟨wr.heap.size, 1, none⟩ (.string st) = W5 at *
                    ((with_reducible refine (ref_WireNumberOf _ (r4.drop 32) W5 hbe5.out).mono ?_); rintro e w6 ⟨v6, rfl, o6, b6⟩)
                    have hl6 := rn_rest_le (r4.drop 32)
                    obtain ⟨m6, q6, e6, hq6⟩ : ∃ s r e, readNum (r4.drop 32) = (s, r, e) := ⟨_, _, _, rfl⟩
                    rw [hq6] at o6 hl6 ⊢
                    simp only at o6 hl6 ⊢
                    replace hq6 := hid hq6
                    have hq6' := (b6.block wr.heap.size hsq5).trans hq5.out
                    obtain ⟨x0, x1, x2, f0, f1, f2⟩ := box3 hq6'
                    have hq7 := box3_2 (u := .int .i64 m6) hq6'
                    have hb7 := b_set (b_call hb5.out b6) (p := ⟨wr.heap.size, 2, none⟩) (Nat.le_refl _) (.int .i64 m6)
                    have o7 := OS.setOld (o := 2) (u := .int .i64 m6) o6 hsq5
                    obtain ⟨a6, c6, rfl, -⟩ := id (OS.len_le o6)
                    obtain ⟨y0, y1, y2, -, -, -⟩ := box3 hq7
                    replace hb7 := hid hb7
                    replace o7 := hid o7
                    clear b6 hq6' hq5 hb5 hbe5 o6 hsq5 hq7
                    by_cases he6 : e6 = 0
                    · subst he6
                      have hin' : Hid (DInv b N (k + 1) (ps ++ [⟨s1, st, m6⟩]) q6) := hid
                        ⟨by have := hpl.out; simp; omega, by rw [hin.out.2.1, show N - k = (N - (k + 1)) + 1 by omega, dec_step_ok hq4.out g32 hq6.out, hst.out], fun x hx => by
                          rcases List.mem_append.1 hx with hx | hx
                          · exact hin.out.2.2.1 x hx
                          · simp only [List.mem_singleton] at hx
                            subst hx
                            have hnr := rn_range (r4.drop 32)
                            rw [hq6.out] at hnr
                            exact ⟨(readText_size hq4.out).1, by rw [← hst.out]; exact hex32 g32, hnr.1, hnr.2⟩, by omega⟩
                      have hown7 := hid (OS.below hown.out hb7.out)
                      have hb8 := hid (hb.out.trans (hb7.out.mono hsB))
                      have hs7 : wr.heap.size ≤ (w6.setCell ⟨wr.heap.size, 2, none⟩ (.int .i64 m6)).heap.size := hb7.out.size
                      clear hin hq4 hq6 hst hown hb hb7 hA2 hpl
                      have hrow := row_one (s := 3) (bs := 40) (cells := cPart) (w6.setCell ⟨wr.heap.size, 2, none⟩ (.int .i64 m6)) 143 ⟨s1, st, m6⟩ #[.string s1, .string st, .int .i64 m6] w6.heap.size (by simp) rfl (by decide)
                      have hs6 : wr.heap.size ≤ w6.heap.size := by simpa using hs7
                      go_wp2_with (at_builtin; go_must (refine wpL_append flat_rpart rfl (.tmp 69) (.tmp 71) 39 rfl 143 i0 _ Try.underlying39 ii0 hz0 hz1 hz2 rfl B _ ps rfl (OS.alloc hown7.out _) _ [⟨s1, st, m6⟩] rfl hrow ?c1 ?c2 ?c3 ?_))
                      case c1 => simp; omega
                      case c2 => simp [maxLen]; omega
                      case c3 => simp; omega
                      intro v8 w8 ho8 hg8
                      have hb9 := hid ((hb8.out.alloc (by omega) (Obj.cells #[.string s1, .string st, .int .i64 m6] 143)).grown hg8 (by simp; omega) (OS.block hown7.out))
                      have hr9 := hid (reads_u8 (OS.apart (OS.alloc hown7.out _) (OS.alloc o7.out _) (by decide) hg8) (by omega))
                      replace ho8 := hid ho8
                      clear hg8 hrow hown7 hb8 o7 hs7 hs6
                      go_wp2_with fail
                      go_roundw
                      case rel => exact ⟨k + 1, _, q6, by omega, by go_num, rfl, hin', ⟨_, _, rfl⟩, hr9, ho8, hb9⟩
                      case measure => simp [intOf]; omega
                    · have hz := hid (hin.out.2.1.trans (show decRest (N - k) ps l = ([], e6) by rw [show N - k = (N - (k + 1)) + 1 by omega]; exact dec_step_num hq4.out g32 hq6.out he6))
                      have t6 : (e6 != 0) = true := by simp [he6]
                      replace he6 := hid he6
                      clear hin hq4 hq6 hst hA2
                      go_wp2_with fail
                      go_ret2
                      exact dpost_no hz.out (hB.out.symm ▸ hb.out.trans (hb7.out.mono hsB))
                · have hz := hid (hin.out.2.1.trans (show decRest (N - k) ps l = ([], e4) by rw [show N - k = (N - (k + 1)) + 1 by omega]; exact dec_step_text hq4.out he4))
                  have t4 : (e4 != 0) = true := by simp [he4]
                  replace he4 := hid he4
                  clear hin hsq3
                  go_wp2_with fail
                  go_ret2
                  exact dpost_no hz.out (hB.out.symm ▸ hb.out.trans (hb3.out.mono hsB))
              · obtain rfl : k = N := by omega
                have hz0' : decParts b = decRest 0 ps l := by have := hin.out.2.1; rwa [Nat.sub_self] at this
                have hmod := hid hin.out.2.2.1
                have hpl := hin.out.1
                have hpk : ps.length ≤ 8 := by omega
                clear hin hpl
                by_cases hl0 : l = []
                · subst hl0
                  have hrp := hid (reads_part hown.out (by omega) (fun x hx => by
                    obtain ⟨g1, g2, g3, g4⟩ := hmod.out x hx
                    exact ⟨by omega, by omega, by simp [Lit.wf, IntKind.min, IntKind.max, IntKind.signed, IntKind.bits]; omega⟩))
                  have hdd := fun hf => dec_end_fault (out := ps) hf
                  have hd0 := fun hf => dec_end_ok (out := ps) hf
                  obtain ⟨va, vc, rfl, -⟩ := OS.len_le hown.out
                  have hck := hid (ref_PartsFault _ ps wr hrp.out)
                  rw [← hz0'] at hdd hd0
                  clear hz0' hmod hown hrb
                  generalize partsFault ps = f at *
                  by_cases hf : f = 0
                  · subst hf
                    have hz := hid (hd0 rfl)
                    clear hdd hd0
                    go_wp2_with fail
                    ((with_reducible refine hck.out.mono ?_); rintro e w9 ⟨rfl, b9⟩)
                    have hb9 := hid (hb.out.trans (b9.mono (by have := hb.out.size; have := hB.out; omega)))
                    have hrp9 := hid (hrp.out.mono EPart.stable b9)
                    clear b9
                    go_wp2_with fail
                    go_ret2
                    exact dpost_ok hz.out hrp9.out (hB.out.symm ▸ hb9.out)
                  · have hz := hid (hdd hf)
                    have tf : (f != 0) = true := by simp [hf]
                    replace hf := hid hf
                    clear hdd hd0
                    go_wp2_with fail
                    ((with_reducible refine hck.out.mono ?_); rintro e w9 ⟨rfl, b9⟩)
                    have hb9 := hid (hb.out.trans (b9.mono (by have := hb.out.size; have := hB.out; omega)))
                    clear b9
                    go_wp2_with fail
                    go_ret2
                    exact dpost_no hz.out (hB.out.symm ▸ hb9.out)
                · have hz := hid (hz0'.trans (dec_end_more hl0))
                  have hl1 : 0 < l.length := List.length_pos_iff.2 hl0
                  have hq0 : decide (0 < l.length) = true := by simp; omega
                  clear hz0' hmod hown hrb hl0
                  go_wp2_with fail
                  go_ret2
                  exact dpost_no hz.out (hB.out.symm ▸ hb.out)
        · rw [if_pos he3] at hzz
          have t3 : (e3 != 0) = true := by simp [he3]
          replace hzz := hid hzz
          replace he3 := hid he3
          go_wp2_with fail
          go_ret2
          exact dpost_no hzz.out b1.out
      · have hz := hid (dec_sign hsz hs)
        have hne : ((bstr (b.take 3)).toList == [65, 77, 49]) = false := by
          have := bstr_eq (a := b.take 3) (b := [65, 77, 49])
          rw [decide_eq_false hs] at this
          have e : (bstr [65, 77, 49]).toList = [65, 77, 49] := by rw [toList_data]; rfl
          rwa [e] at this
        clear hno hs
        generalize bstr (b.take 3) = sg at *
        go_enter Try.func46, Try.ntmps46
        go_wp2_with fail
        go_ret2
        exact dpost_no hz.out (Below.refl _ _)
end Go.Proofs.Ytaojfpgbpakmpaa
