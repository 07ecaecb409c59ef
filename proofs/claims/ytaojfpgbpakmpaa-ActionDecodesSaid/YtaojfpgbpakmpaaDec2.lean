/-
  manifest.Decode: what it answers.
-/
import Derived.Test.YtaojfpgbpakmpaaRdr
import Derived.Test.YtaojfpgbpakmpaaDec
import Derived.Test.YtaojfpgbpakmpaaCln
import Derived.Lib.SlBytesConst
namespace Go.Proofs.Ytaojfpgbpakmpaa
open Go.RowKit

theorem dec_uni {n : Nat} {ps : List Part} {l r r2 q t : List UInt8} {s : ByteArray} {e1 e2 e3 m : Int} (h1 : rdText 0 l = (s, r, e1)) (h2 : rdTake e1 r = (t, r2, e2)) (h3 : rdNum e2 r2 = (m, q, e3)) :
    decRest (n + 1) ps l = if e3 ≠ 0 then ([], e3) else decRest n (ps ++ [⟨s, bstr (hexOf t), m⟩]) q := by
  have h1' : readText l = (s, r, e1) := h1
  by_cases he1 : e1 = 0
  · subst he1
    unfold rdTake at h2
    rw [if_pos rfl] at h2
    split at h2
    · rename_i hr
      simp only [Prod.mk.injEq] at h2
      obtain ⟨rfl, rfl, rfl⟩ := h2
      have h3' : rdNum 8 r = (0, r, 8) := if_neg (by decide)
      rw [h3'] at h3
      simp only [Prod.mk.injEq] at h3
      obtain ⟨rfl, rfl, rfl⟩ := h3
      rw [dec_step_short h1' hr, if_pos (by decide)]
    · rename_i hr
      simp only [Prod.mk.injEq] at h2
      obtain ⟨rfl, rfl, rfl⟩ := h2
      have h3' : readNum (r.drop 32) = (m, q, e3) := h3
      by_cases he3 : e3 = 0
      · subst he3
        rw [dec_step_ok h1' (by omega) h3', if_neg (by simp)]
      · rw [dec_step_num h1' (by omega) h3' he3, if_pos he3]
  · unfold rdTake at h2
    rw [if_neg he1] at h2
    simp only [Prod.mk.injEq] at h2
    obtain ⟨rfl, rfl, rfl⟩ := h2
    have h3' : rdNum e1 r = (0, r, e1) := if_neg he1
    rw [h3'] at h3
    simp only [Prod.mk.injEq] at h3
    obtain ⟨rfl, rfl, rfl⟩ := h3
    rw [dec_step_text h1' he1, if_pos he1]
/-- The sizes where nothing is wrong. -/
theorem dec_modest {l r r2 q t : List UInt8} {s : ByteArray} {e1 e2 m : Int} (h1 : rdText 0 l = (s, r, e1)) (h2 : rdTake e1 r = (t, r2, e2)) (h3 : rdNum e2 r2 = (m, q, 0)) : Modest1 ⟨s, bstr (hexOf t), m⟩ := by
  have he2 : e2 = 0 := by
    apply Classical.byContradiction
    intro h
    unfold rdNum at h3
    rw [if_neg h] at h3
    simp only [Prod.mk.injEq] at h3
    exact h h3.2.2
  subst he2
  have he1 : e1 = 0 := by
    apply Classical.byContradiction
    intro h
    unfold rdTake at h2
    rw [if_neg h] at h2
    simp only [Prod.mk.injEq] at h2
    exact h h2.2.2
  subst he1
  have h1' : readText l = (s, r, 0) := h1
  unfold rdTake at h2
  rw [if_pos rfl] at h2
  split at h2
  · simp only [Prod.mk.injEq] at h2
    exact absurd h2.2.2 (by decide)
  · rename_i hr
    simp only [Prod.mk.injEq] at h2
    obtain ⟨rfl, rfl, _⟩ := h2
    have hn := rn_range (r.drop 32)
    have h3' : readNum (r.drop 32) = (m, q, 0) := h3
    rw [h3'] at hn
    exact ⟨(readText_size h1').1, hex32 (by omega), hn.1, hn.2⟩
theorem rdTake_len (e : Int) (l : List UInt8) : (rdTake e l).1.length ≤ l.length := by
  unfold rdTake
  split
  · split
    · simp
    · simp; omega
  · simp
theorem rdTake_len2 (e : Int) (l : List UInt8) : (rdTake e l).2.1.length ≤ l.length := by
  unfold rdTake
  split
  · split
    · simp
    · simp
  · simp
theorem rdText_len (e : Int) (l : List UInt8) : (rdText e l).2.1.length ≤ l.length := by
  unfold rdText
  split
  · exact readText_rest_le l
  · exact Nat.le_refl _
theorem rdNum_len (e : Int) (l : List UInt8) : (rdNum e l).2.1.length ≤ l.length := by
  unfold rdNum
  split
  · exact rn_rest_le l
  · exact Nat.le_refl _

def DecPost (b : List UInt8) (w : World) (e : Ending) (w' : World) : Prop :=
  ∃ v', e = .returned (.tuple #[v', .int .i64 (decParts b).2]) ∧ RP w' v' (decParts b).1 ∧ Below w.heap.size w w'
theorem dpost_no {b : List UInt8} {n : Int} {w w' : World} (h : decParts b = ([], n)) (hb : Below w.heap.size w w') : DecPost b w (.returned (.tuple #[.slice none 0 0, .int .i64 n])) w' :=
  ⟨_, by rw [h], by rw [h]; exact RS.nil, hb⟩
theorem dpost_ok {b : List UInt8} {ps : List Part} {v : Value} {w w' : World} (h : decParts b = (ps, 0)) (hr : RP w' v ps) (hb : Below w.heap.size w w') : DecPost b w (.returned (.tuple #[v, .int .i64 0])) w' :=
  ⟨_, by rw [h], by rw [h]; exact hr, hb⟩
theorem sign_reads (w : World) (T : TypeId) : RB (w.alloc (.cells #[.int .u8 65, .int .u8 77, .int .u8 49] T (3, 4))) (.slice (some ⟨w.heap.size, 0, none⟩) 3 3) [65, 77, 49] := by
  refine ⟨_, 3, rfl, by simp, by simp [maxLen], by simp, fun h => by simp at h, fun k x hk => ⟨w.heap.size, 0, rfl, by simp, ?_⟩⟩
  unfold EU8
  rw [cell_of_row _ _ _ _ _ _ (heap_alloc_new w _)]
  rcases k with _ | _ | _ | k <;> simp at hk <;> subst hk <;> rfl

theorem rb_lt {w : World} {v : Value} {l : List UInt8} (h : RB w v l) (hl : l ≠ []) {k : Nat} (hk : v.ownBlock = some k) : k < w.heap.size := by
  obtain ⟨a, c, rfl, _, _, _, _, hat⟩ := h
  cases l with
  | nil => exact absurd rfl hl
  | cons x l =>
    obtain ⟨b, off, rfl, hb, _⟩ := hat 0 x rfl
    simp only [Value.ownBlock, Option.some.injEq] at hk
    omega
theorem OS.beside {α : Type} {e T : TypeId} {s B p : Nat} {cells : α → List Value} {w w' : World} {v : Value} {l : List α} {cs : Array Value} {fr : Nat × Nat} (h : OS e s cells w B v l) (hp : w.heap[p]? = some (.cells cs T fr)) (hT : T ≠ e) (hg : w.grownBy w' (some p)) : OS e s cells w' B v l :=
  World.ownsRow.kept (row := some p) h hg (Or.inr (OS.block_ne h hp hT))
theorem RdAt.beside {B p : Nat} {l : List UInt8} {e : Int} {w w' : World} {v : Value} {ps : List Part} (h : RdAt B p l e w) (ho : OS 143 3 cPart w B v ps) (hg : w.grownBy w' (some p)) : OS 143 3 cPart w' B v ps := by
  obtain ⟨_, _, hv, _⟩ := h
  exact OS.beside ho hv (by decide) hg
theorem RdAt.grow {B p : Nat} {l : List UInt8} {e : Int} {w w' : World} {v : Value} {ps : List Part} (h : RdAt B p l e w) (ho : OS 143 3 cPart w B v ps) (hg : w.grownBy w' v.ownBlock) : RdAt B p l e w' := by
  rcases ho.2 with ⟨rfl, _⟩ | ⟨g, cap, cur, rfl, hB, hh, _⟩
  · exact h.below ⟨hg.os, hg.tape, hg.output, hg.size, fun k hk => hg.block k hk (by simp [Value.ownBlock])⟩
  · refine h.keep hh (by decide) ?_ hB hg
    intro e
    subst e
    obtain ⟨_, v, hv, _⟩ := h
    rw [hv] at hh
    simp only [Option.some.injEq, Obj.cells.injEq] at hh
    exact absurd hh.2.1 (by decide)
theorem rn_zero {l r : List UInt8} {n e : Int} (h : readNum l = (n, r, e)) (he : e ≠ 0) : n = 0 := by
  unfold readNum at h
  split at h
  · simp only [Prod.mk.injEq] at h; exact h.1.symm
  · split at h
    · simp only [Prod.mk.injEq] at h; exact h.1.symm
    · split at h
      · simp only [Prod.mk.injEq] at h; exact h.1.symm
      · simp only [Prod.mk.injEq] at h; exact absurd h.2.2.symm he
theorem flat_rpart : Flat 3 cPart (ERaw cPart) := flat_raw (by decide) (fun _ => rfl) (fun _ u hu => by simp [cPart] at hu; rcases hu with rfl | rfl | rfl <;> rfl)

/-- What is known at the head of the loop. -/
def DInv (b : List UInt8) (N k : Nat) (ps : List Part) (l : List UInt8) : Prop := ps.length = k ∧ decParts b = decRest (N - k) ps l ∧ (∀ x ∈ ps, Modest1 x) ∧ l.length ≤ 2000
theorem rd_cell {B p : Nat} {l : List UInt8} {e : Int} {w : World} (h : RdAt B p l e w) : w.cell? ⟨p, 1, none⟩ = some (.int .i64 e) ∧ ∃ a c, w.cell? ⟨p, 0, none⟩ = some (.slice a l.length c) := by
  obtain ⟨_, v, hv, hr, _⟩ := h
  obtain ⟨a, c, rfl, -⟩ := hr
  exact ⟨cell_of_row _ _ 1 _ _ _ hv, a, c, cell_of_row _ _ 0 _ _ _ hv⟩

set_option maxRecDepth 100000 in
set_option maxHeartbeats 4000000 in
theorem manifest_Decode (v : Value) (b : List UInt8) (w : World) (h : RB w v b) : Calls Try.prog 45 #[v] w (DecPost b w) := by
  obtain ⟨i0, ii0, hz0, hz1, hz2⟩ := info_parts info_part
  have hR := hid h
  obtain ⟨a, c, rfl, hlc, hcm, hre, hno, hat⟩ := h
  unfold maxLen at hcm
  by_cases hsz : 2000 < b.length
  · have hz := hid (dec_size hsz)
    have q : decide (2000 < (b.length : Int)) = true := by simp; omega
    clear hat hno
    go_enter Try.func45, Try.ntmps45
    go_wp2_with fail
    go_ret2
    exact dpost_no hz.out (Below.refl _ _)
  · have q : decide (2000 < (b.length : Int)) = false := by simp; omega
    have kc := fun (W : World) (C : Array Value) (n c : Nat) => Lib.run_convert_bytes_const (P := Try.prog) W 38 5 C n c Try.underlying38 Try.underlying5
    have hsr := sign_reads w 5
    have hbA := b_alloc (Below.refl w.heap.size w) (Obj.cells #[.int .u8 65, .int .u8 77, .int .u8 49] 5 (3, 4))
    have hR1 := hR.out.mono EU8.stable hbA
    by_cases hs : b.take 3 = [65, 77, 49]
    · have hcp := hid (bytes_CutPrefix_yes _ _ b [65, 77, 49] _ hR1 hsr hs)
      have hz := fun (n e : Int) (r : List UInt8) (h3 : readNum (b.drop 3) = (n, r, e)) => dec_num hsz hs h3
      replace hz := hid hz
      have hb3 : 3 ≤ b.length := by
        have := congrArg List.length hs
        rw [List.length_take] at this
        simp at this; omega
      have hrr := behind_reads hR1 3 hb3
      have hat8 : At8 w.heap.size (behind (.slice a b.length c) 3) (b.drop 3) (w.alloc (Obj.cells #[.int .u8 65, .int .u8 77, .int .u8 49] 5 (3, 4))) := fun hl k hk =>
        .inl (rb_lt hR.out (fun e => hl (by rw [e]; rfl)) (behind_block hk))
      have hcp' : Calls Try.prog 129 #[.slice a b.length c, .slice (some ⟨w.heap.size, 0, none⟩) 3 3] (w.alloc (Obj.cells #[.int .u8 65, .int .u8 77, .int .u8 49] 5 (3, 4))) fun e w' => e = .returned (.tuple #[behind (.slice a b.length c) 3, .bool true]) ∧ (w.alloc (Obj.cells #[.int .u8 65, .int .u8 77, .int .u8 49] 5 (3, 4))) = w' := hcp.out
      rw [behind_slice] at hrr hat8 hcp'
      replace hcp := hid hcp'
      clear hcp'
      generalize (if c = 3 then a else Option.map (fun x => x.add (3 * 1)) a) = A at *
      have hdl : (b.drop 3).length = b.length - 3 := by simp
      have hrd : Hid (RdAt w.heap.size (w.heap.size + 1) (b.drop 3) 0 ((w.alloc (Obj.cells #[.int .u8 65, .int .u8 77, .int .u8 49] 5 (3, 4))).alloc (Obj.cells #[.slice A (b.length - 3) (c - 3), .int .i64 0] 152))) := hid
        ⟨by omega, _, heap_alloc2_new w _ _, hrr.mono EU8.stable (b_alloc (Below.refl _ _) _), hat8.below (b_alloc (Below.refl _ _) _)⟩
      have hbB := hid (b_alloc hbA (Obj.cells #[.slice A (b.length - 3) (c - 3), .int .i64 0] 152))
      have hdl2 : (b.drop 3).length ≤ 2000 := by omega
      replace hdl := hid hdl
      clear hat hno hs hsr hR1 hrr hat8 hR
      go_enter Try.func45, Try.ntmps45
      go_wp2_with fail
      ((with_reducible refine hcp.out.mono ?_); rintro e w1 ⟨rfl, rfl⟩)
      clear hcp kc
      go_wp2_with fail
      generalize (w.alloc (Obj.cells #[.int .u8 65, .int .u8 77, .int .u8 49] 5 (3, 4))).alloc (Obj.cells #[.slice A (b.length - 3) (c - 3), .int .i64 0] 152) = W2 at *
      obtain ⟨B, hB⟩ : ∃ B, w.heap.size = B := ⟨_, rfl⟩
      rw [hB] at hrd hbB ⊢
      replace hB := hid hB
      generalize hp1 : B + 1 = p at hrd ⊢
      have hBp : B ≤ p := by omega
      replace hp1 := hid hp1
      ((with_reducible refine (rd_number B p _ 0 W2 hrd.out).mono ?_); rintro e w3 ⟨rfl, hr3, hg3⟩)
      have hrn : rdNum 0 (b.drop 3) = readNum (b.drop 3) := rfl
      rw [hrn] at hr3 ⊢
      have hbW : Hid (Below B w w3) := hid (hbB.out.grown hg3 (by have := hrd.out.lt; omega) (fun k hk => by simp at hk; omega))
      have hzz := hz.out (readNum (b.drop 3)).1 (readNum (b.drop 3)).2.2 (readNum (b.drop 3)).2.1 rfl
      have hzero := fun he => rn_zero (l := b.drop 3) (r := (readNum (b.drop 3)).2.1) (n := (readNum (b.drop 3)).1) (e := (readNum (b.drop 3)).2.2) rfl he
      have hrange := rn_range (b.drop 3)
      have hrl := rn_rest_le (b.drop 3)
      clear hrn hrd hbB hg3 hz
      generalize readNum (b.drop 3) = z3 at *
      obtain ⟨n, r, e3⟩ := z3
      simp only at hr3 hzz hzero hrange hrl ⊢
      obtain ⟨k1, ka, kb, k0⟩ := rd_cell hr3
      replace hr3 := hid hr3
      by_cases he3 : e3 = 0
      · subst he3
        rw [if_neg (by simp)] at hzz
        clear hzero
        by_cases hn8 : 8 < n
        · rw [if_pos hn8] at hzz
          have q8 : decide (8 < n) = true := by simp [hn8]
          replace hzz := hid hzz
          go_wp2_with fail
          go_ret2
          exact dpost_no hzz.out (hB.out.symm ▸ hbW.out)
        · rw [if_neg hn8] at hzz
          have q8 : decide (8 < n) = false := by simp; omega
          obtain ⟨N, rfl⟩ := Int.eq_ofNat_of_zero_le hrange.1
          rw [Int.toNat_natCast] at hzz
          have hN : N ≤ 8 := by omega
          have hinv : Hid (DInv b N 0 [] r) := hid ⟨rfl, hzz, fun x hx => by simp at hx, by omega⟩
          have hown0 : Hid (OS 143 3 cPart w3 B (.slice none 0 0) []) := hid OS.nil
          clear hzz hrange hrl
          go_wp2_with fail
          clear k0 k1 ka kb
          go_loopw [8, 37] (fun o i wr => ∃ (k : Nat) (ps : List Part) (l : List UInt8), k ≤ N ∧ i = .int .i64 (k : Int) ∧ Hid (DInv b N k ps l) ∧ Hid (RdAt B p l 0 wr) ∧ Hid (OS 143 3 cPart wr B o ps) ∧ Hid (Below B w wr)) (fun _ i _ => N - (intOf i).toNat)
          case atStart => exact ⟨0, [], r, by omega, rfl, hinv, hr3, hown0, hbW⟩
          case round =>
            obtain ⟨k, ps, l, hk, rfl, hin, hrd, hown, hb⟩ := hrel
            obtain ⟨k1, ka, kb, k0⟩ := rd_cell hrd.out
            by_cases hlt : k < N
            · clear k0 k1 ka kb
              have hll : l.length ≤ 2000 := hin.out.2.2.2
              go_wp2_with fail
              ((with_reducible refine (rd_text B p l 0 wr hrd.out).mono ?_); rintro e w4 ⟨rfl, hr4, hg4⟩)
              have ho4 := hid (hrd.out.beside hown.out hg4)
              have hb4 := hid (hb.out.grown hg4 (by have := hrd.out.lt; omega) (fun k hk => by simp at hk; omega))
              have hl4 := rdText_len 0 l
              obtain ⟨s1, r4, e4, hq4⟩ : ∃ s r e, rdText 0 l = (s, r, e) := ⟨_, _, _, rfl⟩
              rw [hq4] at hr4 hl4 ⊢
              simp only at hr4 hl4 ⊢
              replace hq4 := hid hq4
              clear hrd hown hb hg4
              go_wp2_with fail
              ((with_reducible refine (rd_take B p r4 e4 w4 hr4).mono ?_); rintro e w5 ⟨v5, rfl, hv5, hr5, hg5⟩)
              have ho5 := hid (hr4.beside ho4.out hg5)
              have hb5 := hid (hb4.out.grown hg5 (by have := hr4.lt; omega) (fun k hk => by simp at hk; omega))
              have hl5 := rdTake_len e4 r4
              have hl5b := rdTake_len2 e4 r4
              obtain ⟨t5, r5, e5, hq5⟩ : ∃ s r e, rdTake e4 r4 = (s, r, e) := ⟨_, _, _, rfl⟩
              rw [hq5] at hv5 hr5 hl5 hl5b
              simp only at hv5 hr5 hl5 hl5b
              replace hq5 := hid hq5
              clear hr4 ho4 hb4 hg5
              go_wp2_with fail
              ((with_reducible refine (hex_Text v5 t5 w5 hv5 (by omega)).mono ?_); rintro e w6 ⟨rfl, hb6'⟩)
              have ho6 := hid (OS.below ho5.out hb6')
              have hr6 := hr5.below hb6'
              have hb6 := hid (hb5.out.trans (hb6'.mono (by have := hr5.lt; omega)))
              clear ho5 hr5 hb5 hb6' hv5
              generalize hst : bstr (hexOf t5) = st at *
              replace hst := hid hst
              go_wp2_with fail
              ((with_reducible refine (rd_number B p r5 e5 w6 hr6).mono ?_); rintro e w7 ⟨rfl, hr7, hg7⟩)
              have ho7 := hid (hr6.beside ho6.out hg7)
              have hb7 := hid (hb6.out.grown hg7 (by have := hr6.lt; omega) (fun k hk => by simp at hk; omega))
              obtain ⟨m7, q7, e7, hq7⟩ : ∃ s r e, rdNum e5 r5 = (s, r, e) := ⟨_, _, _, rfl⟩
              have hl7 := rdNum_len e5 r5
              rw [hq7] at hr7 hl7 ⊢
              simp only at hr7 hl7 ⊢
              replace hq7 := hid hq7
              clear hr6 ho6 hb6 hg7
              have hpl := hin.out.1
              have hrow := row_one (s := 3) (bs := 40) (cells := cPart) w7 143 ⟨s1, st, m7⟩ #[.string s1, .string st, .int .i64 m7] w7.heap.size rfl rfl (by decide)
              have hpk : ps.length ≤ 8 := by omega
              have hlt7 := hr7.lt
              replace hpl := hid hpl
              go_wp2_with (at_builtin; go_must (refine wpL_append flat_rpart rfl (.tmp 39) (.tmp 48) 39 rfl 143 i0 _ Try.underlying39 ii0 hz0 hz1 hz2 rfl B _ ps rfl (OS.alloc ho7.out _) _ [⟨s1, st, m7⟩] rfl hrow ?c1 ?c2 ?c3 ?_))
              case c1 => simp; omega
              case c2 => simp [maxLen]; omega
              case c3 => simp; omega
              intro v8 w8 ho8 hg8
              have hr8 := RdAt.grow (hr7.below (b_alloc (Below.refl _ w7) (Obj.cells #[.string s1, .string st, .int .i64 m7] 143))) (OS.alloc ho7.out _) hg8
              have hb8 := hid ((hb7.out.alloc (by omega) (Obj.cells #[.string s1, .string st, .int .i64 m7] 143)).grown hg8 (by simp; omega) (OS.block ho7.out))
              replace ho8 := hid ho8
              obtain ⟨k1, ka, kb, k0⟩ := rd_cell hr8
              replace hr8 := hid hr8
              have hun : Hid (decRest (N - k) ps l = if e7 ≠ 0 then ([], e7) else decRest (N - (k + 1)) (ps ++ [⟨s1, st, m7⟩]) q7) := hid (by
                rw [show N - k = (N - (k + 1)) + 1 by omega, dec_uni hq4.out hq5.out hq7.out, hst.out])
              have hmod : Hid (e7 = 0 → Modest1 ⟨s1, st, m7⟩) := hid (fun he => by
                have := dec_modest hq4.out hq5.out (hq7.out.trans (by rw [he]))
                rw [hst.out] at this
                exact this)
              clear hr7 ho7 hb7 hg8 hrow hlt7 hq4 hq5 hq7 hst
              by_cases he7 : e7 = 0
              · subst he7
                have hin' : Hid (DInv b N (k + 1) (ps ++ [⟨s1, st, m7⟩]) q7) := hid
                  ⟨by have := hpl.out; simp; omega, by rw [hin.out.2.1, hun.out, if_neg (by simp)], fun x hx => by
                    rcases List.mem_append.1 hx with hx | hx
                    · exact hin.out.2.2.1 x hx
                    · simp only [List.mem_singleton] at hx
                      subst hx
                      exact hmod.out rfl, by omega⟩
                clear hin hun hmod hpl
                go_wp2_with fail
                go_roundw
                case rel => exact ⟨k + 1, _, q7, by omega, by go_num, hin', hr8, ho8, hb8⟩
                case measure => simp [intOf]; omega
              · have hz := hid (hin.out.2.1.trans (hun.out.trans (if_pos he7)))
                have t7 : (e7 != 0) = true := by simp [he7]
                replace he7 := hid he7
                clear hin hun hmod hpl
                go_wp2_with fail
                go_quiet (fail)
                go_wp2_with fail
                go_ret2
                exact dpost_no hz.out (hB.out.symm ▸ below_drewN hb8.out _)
            · obtain rfl : k = N := by omega
              have hz0' : decParts b = decRest 0 ps l := by have := hin.out.2.1; rwa [Nat.sub_self] at this
              have hmod := hid hin.out.2.2.1
              have hpl := hin.out.1
              have hpk : ps.length ≤ 8 := by omega
              clear hin hpl
              by_cases hl0 : l = []
              · subst hl0
                have hrp := hid (reads_part hown.out (by omega) (fun x hx => by
                  obtain ⟨g1, g2, g3, g4⟩ := hmod.out x hx
                  exact ⟨by omega, by omega, by simp [Lit.wf, IntKind.min, IntKind.max, IntKind.signed, IntKind.bits]; omega⟩))
                have hdd := fun hf => dec_end_fault (out := ps) hf
                have hd0 := fun hf => dec_end_ok (out := ps) hf
                obtain ⟨va, vc, rfl, -⟩ := OS.len_le hown.out
                have hck := hid (manifest_Check _ ps wr hrp.out)
                rw [← hz0'] at hdd hd0
                clear hz0' hmod hown hrd
                generalize partsFault ps = f at *
                by_cases hf : f = 0
                · subst hf
                  have hz := hid (hd0 rfl)
                  clear hdd hd0
                  go_wp2_with fail
                  ((with_reducible refine hck.out.mono ?_); rintro e w9 ⟨rfl, b9⟩)
                  have hb9 := hid (hb.out.trans (b9.mono (by have := hb.out.size; have := hB.out; omega)))
                  have hrp9 := hid (hrp.out.mono EPart.stable b9)
                  clear b9
                  go_wp2_with fail
                  go_ret2
                  exact dpost_ok hz.out hrp9.out (hB.out.symm ▸ hb9.out)
                · have hz := hid (hdd hf)
                  have tf : (f != 0) = true := by simp [hf]
                  replace hf := hid hf
                  clear hdd hd0
                  go_wp2_with fail
                  ((with_reducible refine hck.out.mono ?_); rintro e w9 ⟨rfl, b9⟩)
                  have hb9 := hid (hb.out.trans (b9.mono (by have := hb.out.size; have := hB.out; omega)))
                  clear b9
                  go_wp2_with fail
                  go_ret2
                  exact dpost_no hz.out (hB.out.symm ▸ hb9.out)
              · have hz := hid (hz0'.trans (dec_end_more hl0))
                have hl1 : 0 < l.length := List.length_pos_iff.2 hl0
                have hq0 : decide (0 < l.length) = true := by simp; omega
                clear hz0' hmod hown hrd hl0
                go_wp2_with fail
                go_ret2
                exact dpost_no hz.out (hB.out.symm ▸ hb.out)
      · rw [if_pos he3] at hzz
        have hn0 := hzero he3
        subst hn0
        have t3 : (e3 != 0) = true := by simp [he3]
        have t4 : (e3 == 0) = false := by simp [he3]
        replace hzz := hid hzz
        replace he3 := hid he3
        clear hzero hrange hrl
        go_wp2_with fail
        go_loopw [8, 37] (fun o i wr => o = .slice none 0 0 ∧ i = .int .i64 0 ∧ wr = w3) (fun _ _ _ => 0)
        case atStart => exact ⟨rfl, rfl, rfl⟩
        case round =>
          obtain ⟨rfl, rfl, rfl⟩ := hrel
          go_wp2_with fail
          go_quiet (fail)
          go_wp2_with fail
          go_ret2
          exact dpost_no hzz.out (hB.out.symm ▸ below_drewN hbW.out _)
    · have hcp := hid (bytes_CutPrefix_no _ _ b [65, 77, 49] _ hR1 hsr hs)
      have hz := hid (dec_sign hsz hs)
      clear hat hno hs hsr hR1
      go_enter Try.func45, Try.ntmps45
      go_wp2_with fail
      ((with_reducible refine hcp.out.mono ?_); rintro e w1 ⟨rfl, rfl⟩)
      go_wp2_with fail
      go_ret2
      exact dpost_no hz.out hbA
end Go.Proofs.Ytaojfpgbpakmpaa
