/-
  The reader of package manifest: number, text, take.
-/
import Derived.Test.YtaojfpgbpakmpaaRt
import Derived.Test.YtaojfpgbpakmpaaPre
import Derived.Test.YtaojfpgbpakmpaaRec2
namespace Go.Proofs.Ytaojfpgbpakmpaa
open Go.RowKit

/-- Where a slice of bytes may lie: below block B, or in a block of bytes. -/
def At8 (B : Nat) (v : Value) (l : List UInt8) (w : World) : Prop := l ≠ [] → ∀ k, v.ownBlock = some k → k < B ∨ ∃ cs fr, w.heap[k]? = some (.cells cs 5 fr)
/-- Block p (from B on) is a reader: what is left, and what is wrong. -/
def RdAt (B p : Nat) (l : List UInt8) (e : Int) (w : World) : Prop :=
  B ≤ p ∧ ∃ v, w.heap[p]? = some (.cells #[v, .int .i64 e] 152 (0, 0)) ∧ RB w v l ∧ At8 B v l w
theorem RdAt.lt {B p : Nat} {l : List UInt8} {e : Int} {w : World} (h : RdAt B p l e w) : p < w.heap.size := by
  obtain ⟨_, v, hb, _⟩ := h
  exact (Array.getElem?_eq_some_iff.1 hb).1
theorem At8.below {B : Nat} {v : Value} {l : List UInt8} {w w' : World} (h : At8 B v l w) (hb : Below w.heap.size w w') : At8 B v l w' := fun hl k hk => by
  rcases h hl k hk with h | ⟨cs, fr, h⟩
  · exact .inl h
  · exact .inr ⟨cs, fr, (hb.block k (Array.getElem?_eq_some_iff.1 h).1).trans h⟩
theorem RdAt.below {B p : Nat} {l : List UInt8} {e : Int} {w w' : World} (h : RdAt B p l e w) (hb : Below w.heap.size w w') : RdAt B p l e w' := by
  have hlt := h.lt
  obtain ⟨hB, v, hv, hr, hn⟩ := h
  exact ⟨hB, v, (hb.block p hlt).trans hv, hr.mono EU8.stable hb, hn.below hb⟩
/-- A row of another type, from block B on, grows: the slice stays. -/
theorem at8_keep {B g : Nat} {w w' : World} {v : Value} {l : List UInt8} {cs : Array Value} {T : TypeId} {fr : Nat × Nat} (hg : w.heap[g]? = some (.cells cs T fr)) (hT : T ≠ 5) (hB : B ≤ g) (hgr : w.grownBy w' (some g)) (hr : RB w v l) (h : At8 B v l w) :
    RB w' v l ∧ At8 B v l w' := by
  have key : l ≠ [] → ∀ k, v.ownBlock = some k → k ≠ g := fun hl k hk e => by
    subst e
    rcases h hl k hk with h | ⟨cs', fr', h⟩
    · omega
    · rw [h] at hg
      simp only [Option.some.injEq, Obj.cells.injEq] at hg
      exact hT hg.2.1.symm
  refine ⟨?_, fun hl k hk => ?_⟩
  · obtain ⟨a, c, rfl, h1, h2, h3, h4, h5⟩ := hr
    refine ⟨a, c, rfl, h1, h2, h3, h4, fun k x hk => ?_⟩
    have hl : l ≠ [] := fun e => by subst e; simp at hk
    obtain ⟨b, off, rfl, hlt, he⟩ := h5 k x hk
    refine ⟨b, off, rfl, Nat.lt_of_lt_of_le hlt hgr.size, ?_⟩
    unfold EU8 at he ⊢
    exact hgr.cell he (fun e => key hl b rfl (by simpa using e))
  · rcases h hl k hk with h | ⟨cs', fr', h⟩
    · exact .inl h
    · exact .inr ⟨cs', fr', (hgr.block k (Array.getElem?_eq_some_iff.1 h).1 (fun e => key hl k hk (by simpa using e))).trans h⟩
theorem RdAt.keep {B p g : Nat} {l : List UInt8} {e : Int} {w w' : World} {cs : Array Value} {T : TypeId} {fr : Nat × Nat} (h : RdAt B p l e w) (hg : w.heap[g]? = some (.cells cs T fr)) (hT : T ≠ 5) (hp : g ≠ p) (hB : B ≤ g) (hgr : w.grownBy w' (some g)) : RdAt B p l e w' := by
  have hlt := h.lt
  obtain ⟨hBp, v, hv, hr, hn⟩ := h
  obtain ⟨h1, h2⟩ := at8_keep hg hT hB hgr hr hn
  exact ⟨hBp, v, (hgr.block p hlt (fun e => hp (by simpa using e.symm))).trans hv, h1, h2⟩
/-- A world that grew, but for what row p holds. -/
theorem grow_below {p : Nat} {w w' : World} (hb : Below w.heap.size w w') : w.grownBy w' (some p) := ⟨hb.os, hb.tape, hb.output, hb.size, fun k hk _ => hb.block k hk⟩
theorem grow_set {p o : Nat} {u : Value} {w w' : World} (h : w.grownBy w' (some p)) : w.grownBy (w'.setCell ⟨p, o, none⟩ u) (some p) :=
  ⟨h.os, h.tape, h.output, by simpa [World.setCell] using h.size, fun k hk hne => (Below.heap_setCell _ _ _ _ (fun e => hne (by simp [e]))).trans (h.block k hk hne)⟩
theorem grow_trans {p : Nat} {w w1 w2 : World} (h : w.grownBy w1 (some p)) (g : w1.grownBy w2 (some p)) : w.grownBy w2 (some p) :=
  ⟨g.os.trans h.os, g.tape.trans h.tape, g.output.trans h.output, Nat.le_trans h.size g.size, fun k hk hne => (g.block k (Nat.lt_of_lt_of_le hk h.size) hne).trans (h.block k hk hne)⟩
theorem own_at8 {B B' : Nat} {w : World} {v : Value} {l : List UInt8} (h : OS 5 1 cU8 w B v l) : At8 B' v l w := fun _ k hk => by
  rcases h.2 with ⟨rfl, _⟩ | ⟨g, cap, cur, rfl, _, hg, _⟩
  · simp [Value.ownBlock] at hk
  · simp only [Value.ownBlock, Option.some.injEq] at hk
    subst hk
    exact .inr ⟨_, _, hg⟩
theorem set2 {p : Nat} {w : World} {a b u v : Value} {T : TypeId} (h : w.heap[p]? = some (.cells #[a, b] T (0, 0))) : ((w.setCell ⟨p, 0, none⟩ u).setCell ⟨p, 1, none⟩ v).heap[p]? = some (.cells #[u, v] T (0, 0)) := by
  simp [World.setCell, Array.getElem?_modify, h]

/-- What number, text and take answer, what is left, and what is wrong then. -/
def rdNum (e : Int) (l : List UInt8) : Int × List UInt8 × Int := if e = 0 then readNum l else (0, l, e)
def rdText (e : Int) (l : List UInt8) : ByteArray × List UInt8 × Int := if e = 0 then readText l else (⟨#[]⟩, l, e)
def rdTake (e : Int) (l : List UInt8) : List UInt8 × List UInt8 × Int := if e = 0 then (if l.length < 32 then ([], l, 8) else (l.take 32, l.drop 32, 0)) else ([], l, e)

set_option maxRecDepth 100000 in
set_option maxHeartbeats 1000000 in
theorem rd_number (B p : Nat) (l : List UInt8) (e : Int) (w : World) (h : RdAt B p l e w) :
    Calls Try.prog 130 #[.pointer (some ⟨p, 0, none⟩)] w fun en w' => en = .returned (.int .i64 (rdNum e l).1) ∧ RdAt B p (rdNum e l).2.1 (rdNum e l).2.2 w' ∧ w.grownBy w' (some p) := by
  have hlt := h.lt
  have hh := hid h
  obtain ⟨hBp, v, hv, hr, hn⟩ := h
  have c0 : w.cell? ⟨p, 0, none⟩ = some v := cell_of_row _ _ 0 _ _ _ hv
  have c1 : w.cell? ⟨p, 1, none⟩ = some (.int .i64 e) := cell_of_row _ _ 1 _ _ _ hv
  by_cases he : e = 0
  · subst he
    have hd : rdNum 0 l = readNum l := rfl
    rw [hd]
    have hrn := hid (wire_ReadNumber v l w hr)
    have hrl := hid (rn_rest_le l)
    have hll : l.length ≤ 140737488351232 := by obtain ⟨_, _, _, _, _, hre, _⟩ := hr; omega
    unfold ReadPost at hrn
    generalize readNum l = z at *
    obtain ⟨n, r, e2⟩ := z
    simp only at hrn ⊢
    clear hd
    replace hv := hid hv
    obtain ⟨va, vc, rfl, -⟩ := id hr
    clear hr hn
    go_enter Try.func130, Try.ntmps130
    go_wp2_with fail
    ((with_reducible refine hrn.out.mono ?_); rintro e w1 ⟨v1, rfl, o1, b1⟩)
    have hv1 := (b1.block p hlt).trans hv.out
    have d0 : w1.cell? ⟨p, 0, none⟩ = some (.slice va l.length vc) := cell_of_row _ _ 0 _ _ _ hv1
    have d1 : w1.cell? ⟨p, 1, none⟩ = some (.int .i64 0) := cell_of_row _ _ 1 _ _ _ hv1
    have f0 : w1.frozen? ⟨p, 0, none⟩ = false := Lib.frozen_of_heap hv1 0
    have f1 : w1.frozen? ⟨p, 1, none⟩ = false := Lib.frozen_of_heap hv1 1
    obtain ⟨a1, k1, rfl, -⟩ := OS.len_le o1
    have hfin : Hid (RdAt B p r e2 ((w1.setCell ⟨p, 0, none⟩ (.slice a1 r.length k1)).setCell ⟨p, 1, none⟩ (.int .i64 e2))) := hid
      ⟨hBp, _, set2 hv1, reads_u8 (OS.setOld (OS.setOld o1 hlt) hlt) (by have := hrl.out; omega), own_at8 (OS.setOld (OS.setOld o1 hlt) hlt)⟩
    have hg : Hid (w.grownBy ((w1.setCell ⟨p, 0, none⟩ (.slice a1 r.length k1)).setCell ⟨p, 1, none⟩ (.int .i64 e2)) (some p)) := hid (grow_set (grow_set (grow_below b1)))
    clear o1 b1 hv1 c0 c1
    go_wp2_with fail
    go_ret
    exact ⟨rfl, hfin.out, hg.out⟩
  · have hd : rdNum e l = (0, l, e) := if_neg he
    rw [hd]
    have ht : (e != 0) = true := by simp [he]
    clear hd he hr hn hv
    go_enter Try.func130, Try.ntmps130
    go_wp2_with fail
    go_ret
    exact ⟨rfl, hh.out, grow_below (Below.refl _ _)⟩

set_option maxRecDepth 100000 in
set_option maxHeartbeats 1000000 in
theorem rd_text (B p : Nat) (l : List UInt8) (e : Int) (w : World) (h : RdAt B p l e w) :
    Calls Try.prog 131 #[.pointer (some ⟨p, 0, none⟩)] w fun en w' => en = .returned (.string (rdText e l).1) ∧ RdAt B p (rdText e l).2.1 (rdText e l).2.2 w' ∧ w.grownBy w' (some p) := by
  have hlt := h.lt
  have hh := hid h
  obtain ⟨hBp, v, hv, hr, hn⟩ := h
  have c0 : w.cell? ⟨p, 0, none⟩ = some v := cell_of_row _ _ 0 _ _ _ hv
  have c1 : w.cell? ⟨p, 1, none⟩ = some (.int .i64 e) := cell_of_row _ _ 1 _ _ _ hv
  by_cases he : e = 0
  · subst he
    have hd : rdText 0 l = readText l := rfl
    rw [hd]
    have hrn := hid (wire_ReadText_own v l w hr)
    have hrl := hid (readText_rest_le l)
    have hll : l.length ≤ 140737488351232 := by obtain ⟨_, _, _, _, _, hre, _⟩ := hr; omega
    unfold TextOwn at hrn
    generalize readText l = z at *
    obtain ⟨n, r, e2⟩ := z
    simp only at hrn ⊢
    clear hd
    replace hv := hid hv
    obtain ⟨va, vc, rfl, -⟩ := id hr
    clear hr hn
    go_enter Try.func131, Try.ntmps131
    go_wp2_with fail
    ((with_reducible refine hrn.out.mono ?_); rintro e w1 ⟨v1, rfl, o1, b1⟩)
    have hv1 := (b1.block p hlt).trans hv.out
    have d0 : w1.cell? ⟨p, 0, none⟩ = some (.slice va l.length vc) := cell_of_row _ _ 0 _ _ _ hv1
    have d1 : w1.cell? ⟨p, 1, none⟩ = some (.int .i64 0) := cell_of_row _ _ 1 _ _ _ hv1
    have f0 : w1.frozen? ⟨p, 0, none⟩ = false := Lib.frozen_of_heap hv1 0
    have f1 : w1.frozen? ⟨p, 1, none⟩ = false := Lib.frozen_of_heap hv1 1
    obtain ⟨a1, k1, rfl, -⟩ := OS.len_le o1
    have hfin : Hid (RdAt B p r e2 ((w1.setCell ⟨p, 0, none⟩ (.slice a1 r.length k1)).setCell ⟨p, 1, none⟩ (.int .i64 e2))) := hid
      ⟨hBp, _, set2 hv1, reads_u8 (OS.setOld (OS.setOld o1 hlt) hlt) (by have := hrl.out; omega), own_at8 (OS.setOld (OS.setOld o1 hlt) hlt)⟩
    have hg : Hid (w.grownBy ((w1.setCell ⟨p, 0, none⟩ (.slice a1 r.length k1)).setCell ⟨p, 1, none⟩ (.int .i64 e2)) (some p)) := hid (grow_set (grow_set (grow_below b1)))
    clear o1 b1 hv1 c0 c1
    go_wp2_with fail
    go_ret
    exact ⟨rfl, hfin.out, hg.out⟩
  · have hd : rdText e l = (⟨#[]⟩, l, e) := if_neg he
    rw [hd]
    have ht : (e != 0) = true := by simp [he]
    clear hd he hr hn hv
    go_enter Try.func131, Try.ntmps131
    go_wp2_with fail
    go_ret
    exact ⟨rfl, hh.out, grow_below (Below.refl _ _)⟩

/-- What take answers: the bytes it returns are read there. -/
def TakePost (B p : Nat) (l : List UInt8) (e : Int) (w : World) (en : Ending) (w' : World) : Prop :=
  ∃ v, en = .returned v ∧ RB w' v (rdTake e l).1 ∧ RdAt B p (rdTake e l).2.1 (rdTake e l).2.2 w' ∧ w.grownBy w' (some p)
theorem set_e {p : Nat} {w : World} {a b v : Value} {T : TypeId} (h : w.heap[p]? = some (.cells #[a, b] T (0, 0))) : (w.setCell ⟨p, 1, none⟩ v).heap[p]? = some (.cells #[a, v] T (0, 0)) := by
  simp [World.setCell, Array.getElem?_modify, h]
theorem set_r {p : Nat} {w : World} {a b u : Value} {T : TypeId} (h : w.heap[p]? = some (.cells #[a, b] T (0, 0))) : (w.setCell ⟨p, 0, none⟩ u).heap[p]? = some (.cells #[u, b] T (0, 0)) := by
  simp [World.setCell, Array.getElem?_modify, h]
set_option maxRecDepth 100000 in
set_option maxHeartbeats 1000000 in
theorem rd_take (B p : Nat) (l : List UInt8) (e : Int) (w : World) (h : RdAt B p l e w) :
    Calls Try.prog 133 #[.pointer (some ⟨p, 0, none⟩), .int .i64 32] w (TakePost B p l e w) := by
  have hlt := h.lt
  have hh := hid h
  obtain ⟨hBp, v, hv, hr, hn⟩ := h
  have c0 : w.cell? ⟨p, 0, none⟩ = some v := cell_of_row _ _ 0 _ _ _ hv
  have c1 : w.cell? ⟨p, 1, none⟩ = some (.int .i64 e) := cell_of_row _ _ 1 _ _ _ hv
  have f0 : w.frozen? ⟨p, 0, none⟩ = false := Lib.frozen_of_heap hv 0
  have f1 : w.frozen? ⟨p, 1, none⟩ = false := Lib.frozen_of_heap hv 1
  by_cases he : e = 0
  · subst he
    by_cases hs : l.length < 32
    · have hd : rdTake 0 l = ([], l, 8) := if_pos hs
      have q : decide ((l.length : Int) < 32) = true := by simp; omega
      have hfin : Hid (TakePost B p l 0 w (.returned (.slice none 0 0)) (w.setCell ⟨p, 1, none⟩ (.int .i64 8))) := hid (by
        refine ⟨_, rfl, ?_, ?_, grow_set (grow_below (Below.refl _ _))⟩
        · rw [hd]; exact RS.nil
        · rw [hd]
          obtain ⟨g1, g2⟩ := at8_keep hv (by decide) hBp (grow_set (o := 1) (u := .int .i64 8) (grow_below (Below.refl _ w))) hr hn
          exact ⟨hBp, v, set_e hv, g1, g2⟩)
      obtain ⟨va, vc, rfl, -⟩ := id hr
      clear hd hs hr hn hv
      go_enter Try.func133, Try.ntmps133
      go_wp2_with fail
      go_ret
      exact hfin.out
    · have hd : rdTake 0 l = (l.take 32, l.drop 32, 0) := if_neg hs
      have q : decide ((l.length : Int) < 32) = false := by simp; omega
      have hbr := behind_reads hr 32 (by omega)
      have hbb : At8 B (behind v 32) (l.drop 32) w := fun hl k hk => hn (fun e => hl (by rw [e]; rfl)) k (behind_block hk)
      obtain ⟨va, vc, rfl, hlc, hcm, hre, hno, hat⟩ := id hr
      unfold maxLen at hcm
      have hup := RS.upto hr 32 (by omega)
      rw [behind_slice] at hbr hbb
      have hfin : Hid (TakePost B p l 0 w (.returned (.slice va 32 vc)) (w.setCell ⟨p, 0, none⟩ (.slice (if vc = 32 then va else va.map (·.add (32 * 1))) (l.length - 32) (vc - 32)))) := hid (by
        refine ⟨_, rfl, ?_, ?_, grow_set (grow_below (Below.refl _ _))⟩
        · rw [hd]; exact (at8_keep hv (by decide) hBp (grow_set (grow_below (Below.refl _ w))) hup (show At8 B (.slice va 32 vc) (l.take 32) w from fun hl k hk => hn (fun e => hl (by rw [e]; rfl)) k (by cases va <;> exact hk))).1
        · rw [hd]
          obtain ⟨g1, g2⟩ := at8_keep hv (by decide) hBp (grow_set (o := 0) (u := .slice (if vc = 32 then va else va.map (·.add (32 * 1))) (l.length - 32) (vc - 32)) (grow_below (Below.refl _ w))) hbr hbb
          exact ⟨hBp, _, set_r hv, g1, g2⟩)
      have q2 : 32 ≤ vc := by omega
      have q3 : 32 ≤ l.length := by omega
      cases va with
      | none => have := hno rfl; omega
      | some ad =>
        by_cases hvc : vc = 32
        · subst hvc
          rw [if_pos rfl, Nat.sub_self, show l.length - 32 = 0 by omega] at hfin
          clear hd hs hr hn hv hbr hbb hup hat
          go_enter Try.func133, Try.ntmps133
          go_wp2_with fail
          go_ret
          exact hfin.out
        · rw [if_neg hvc, Nat.mul_one, Option.map_some] at hfin
          clear hd hs hr hn hv hbr hbb hup hat
          go_enter Try.func133, Try.ntmps133
          go_wp2_with fail
          go_ret
          exact hfin.out
  · have hd : rdTake e l = ([], l, e) := if_neg he
    have ht : (e != 0) = true := by simp [he]
    have ht2 : (e == 0) = false := by simp [he]
    have hfin : Hid (TakePost B p l e w (.returned (.slice none 0 0)) w) := hid (by
      refine ⟨_, rfl, ?_, ?_, grow_below (Below.refl _ _)⟩
      · rw [hd]; exact RS.nil
      · rw [hd]; exact hh.out)
    clear hd he hr hn hv
    go_enter Try.func133, Try.ntmps133
    go_wp2_with fail
    go_ret
    exact hfin.out
end Go.Proofs.Ytaojfpgbpakmpaa
