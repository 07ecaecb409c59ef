import Derived.Test.YtpkpgehiplhkpaaGreatTzSrt
import Derived.Test.YtpkpgehiplhkpaaGreatTzOpC
namespace Go.Proofs.YtpkpgehiplhkpaaGreat
open Go.RowKit
theorem qtzde_6 {P : Prop} (h : P := by decide) : P := h
theorem qtzde_5 {P : Prop} (h : P := by simp only [Prod.mk.injEq] at h; obtain ⟨rfl, _⟩ := h; exact Nat.zero_le _) : P := h
theorem qtzde_4 {P : Prop} (h : P := by simp [World.setCell, Array.getElem?_modify, h]) : P := h
theorem qtzde_3 {P : Prop} (h : P := by
 go_enter Tryz.func121, Tryz.ntmps121
 go_wp2_with fail
 go_ret
 exact hfin.out) : P := h
theorem qtzde_2 {P : Prop} (h : P := by
 go_enter Tryz.func75, Tryz.ntmps75
 go_wp2_with fail
 ((with_reducible refine hp.out.mono ?_); rintro e w1 ⟨rfl, rfl⟩)
 go_wp2_with fail
 go_ret2
 exact ⟨rfl, rfl⟩) : P := h
theorem qtzde_1 {P : Prop} (h : P := by
 go_wp2_with fail
 ((with_reducible refine hrn.out.mono ?_); rintro e w1 ⟨v1, rfl, o1, b1⟩)
 have hv1 := (b1.block p hlt).trans hv.out
 have d0 : w1.cell? ⟨p, 0, none⟩ = some (.slice va l.length vc) := cell_of_row _ _ 0 _ _ _ hv1
 have d1 : w1.cell? ⟨p, 1, none⟩ = some (.int .i64 0) := cell_of_row _ _ 1 _ _ _ hv1
 have f0 : w1.frozen? ⟨p, 0, none⟩ = false := Lib.frozen_of_heap hv1 0
 have f1 : w1.frozen? ⟨p, 1, none⟩ = false := Lib.frozen_of_heap hv1 1
 obtain ⟨a1, k1, rfl, -⟩ := OS.len_le o1
 have hfin : Hid (RdAt B p r e2 ((w1.setCell ⟨p, 0, none⟩ (.slice a1 r.length k1)).setCell ⟨p, 1, none⟩ (.int .i64 e2))) := hid
  ⟨hBp, _, set2 hv1, reads_u8 (OS.setOld (OS.setOld o1 hlt) hlt) (by have := hrl.out; omega), own_at8 (OS.setOld (OS.setOld o1 hlt) hlt)⟩
 have hg : Hid (w.grownBy ((w1.setCell ⟨p, 0, none⟩ (.slice a1 r.length k1)).setCell ⟨p, 1, none⟩ (.int .i64 e2)) (some p)) := hid (grow_set (grow_set (grow_below b1)))
 clear o1 b1 hv1 c0 c1
 go_wp2_with fail
 go_ret
 exact ⟨rfl, hfin.out, hg.out⟩) : P := h
theorem bstr_eq {a b : List UInt8} : ((bstr a).toList == (bstr b).toList) = decide (a = b) := by
 rw [Bool.eq_iff_iff]
 simp only [beq_iff_eq, decide_eq_true_eq]
 exact ⟨fun h => bstr_inj (toList_inj' h), fun h => by rw [h]⟩
set_option maxRecDepth 100000 in
set_option maxHeartbeats 400000 in
theorem bytes_Equal (u v : Value) (a b : List UInt8) (w : World) (hu : RB w u a) (hv : RB w v b) :
 Calls Tryz.prog 207 #[u, v] w fun e w' => e = .returned (.bool (decide (a = b))) ∧ w = w' := by
 have c1 := run_string_of 41 5 Tryz.underlying41 Tryz.underlying5 9 Tryz.underlying9 hu
 have c2 := run_string_of 41 5 Tryz.underlying41 Tryz.underlying5 9 Tryz.underlying9 hv
 rw [← bstr_eq]
 generalize bstr a = sa at *
 generalize bstr b = sb at *
 go_enter Tryz.func207, Tryz.ntmps207
 go_wp2_with fail
 go_ret
 exact ⟨rfl, rfl⟩
set_option maxRecDepth 100000 in
set_option maxHeartbeats 400000 in
theorem bytes_HasPrefix (u v : Value) (a b : List UInt8) (w : World) (hu : RB w u a) (hv : RB w v b) :
 Calls Tryz.prog 143 #[u, v] w fun e w' => e = .returned (.bool (decide (a.take b.length = b))) ∧ w = w' := by
 obtain ⟨a1, c1, rfl, h1, h2, h3, -⟩ := id hu
 obtain ⟨a2, c2, rfl, g1, g2, g3, -⟩ := id hv
 unfold maxLen at h2 g2
 by_cases hl : b.length ≤ a.length
 · have he := hid (bytes_Equal _ _ _ _ w (RS.upto hu b.length hl) hv)
   have q : decide (b.length ≤ a.length) = true := by simp [hl]
   have q2 : b.length ≤ c1 := by omega
   clear hu hv
   generalize decide (a.take b.length = b) = r at *
   go_enter Tryz.func143, Tryz.ntmps143
   go_wp2_with fail
   ((with_reducible refine he.out.mono ?_); rintro e w1 ⟨rfl, rfl⟩)
   go_wp2_with fail
   go_ret
   exact ⟨rfl, rfl⟩
 have hr : decide (a.take b.length = b) = false := by
  simp only [decide_eq_false_iff_not]
  intro h
  have := congrArg List.length h
  rw [List.length_take] at this
  omega
 have q : decide (b.length ≤ a.length) = false := by simp; omega
 rw [hr]
 clear hr
 go_enter Tryz.func143, Tryz.ntmps143
 go_wp2_with fail
 go_ret
 exact ⟨rfl, rfl⟩
def behind (v : Value) (n : Nat) : Value :=
 match v with
 | .slice a l c => .slice (if c = n then a else a.map (·.add (n * 1))) (l - n) (c - n)
 | x => x
theorem behind_slice (a : Option Addr) (l c n : Nat) : behind (.slice a l c) n = .slice (if c = n then a else a.map (·.add (n * 1))) (l - n) (c - n) := rfl
set_option maxRecDepth 100000 in
set_option maxHeartbeats 400000 in
theorem bytes_CutPrefix_yes (u v : Value) (a b : List UInt8) (w : World) (hu : RB w u a) (hv : RB w v b) (h : a.take b.length = b) :
 Calls Tryz.prog 75 #[u, v] w fun e w' => e = .returned (.tuple #[behind u b.length, .bool true]) ∧ w = w' := by
 have hp := bytes_HasPrefix u v a b w hu hv
 rw [decide_eq_true h] at hp
 have hl : b.length ≤ a.length := by
  have := congrArg List.length h
  rw [List.length_take] at this
  omega
 replace hp := hid hp
 obtain ⟨a1, c1, rfl, h1, h2, h3, h4, -⟩ := id hu
 obtain ⟨a2, c2, rfl, g1, g2, g3, -⟩ := id hv
 unfold maxLen at h2 g2
 clear hu hv h
 have q3 : b.length ≤ c1 := by omega
 rw [behind_slice]
 cases a1 with
 | none =>
   have := h4 rfl
   subst this
   have h0 : a.length = 0 := by omega
   have h0b : b.length = 0 := by omega
   simp only [Option.map_none, ite_self]
   replace h4 := hid h4
   rw [h0, h0b] at hp ⊢
   replace h0 := hid h0
   replace h0b := hid h0b
   exact qtzde_2
 | some ad =>
   obtain ⟨A, hA⟩ : ∃ A, (if c1 = b.length then some ad else some (ad.add (b.length * 1))) = A := ⟨_, rfl⟩
   have hA2 : (if c1 = b.length then some ad else Option.map (fun x => x.add (b.length * 1)) (some ad)) = A := hA
   rw [hA2]
   clear hA2
   rw [Nat.mul_one] at hA
   exact qtzde_2
set_option maxRecDepth 100000 in
set_option maxHeartbeats 400000 in
theorem bytes_CutPrefix_no (u v : Value) (a b : List UInt8) (w : World) (hu : RB w u a) (hv : RB w v b) (h : a.take b.length ≠ b) :
 Calls Tryz.prog 75 #[u, v] w fun e w' => e = .returned (.tuple #[u, .bool false]) ∧ w = w' := by
 have hp := bytes_HasPrefix u v a b w hu hv
 rw [decide_eq_false h] at hp
 replace hp := hid hp
 obtain ⟨a1, c1, rfl, -⟩ := id hu
 obtain ⟨a2, c2, rfl, -⟩ := id hv
 clear hu hv h
 exact qtzde_2
theorem behind_reads {w : World} {v : Value} {l : List UInt8} (h : RB w v l) (n : Nat) (hn : n ≤ l.length) : RB w (behind v n) (l.drop n) := by
 obtain ⟨a, c, rfl, -⟩ := id h
 exact RS.from h n hn
theorem behind_block {v : Value} {n k : Nat} (h : (behind v n).ownBlock = some k) : v.ownBlock = some k := by
 cases v with
 | slice a l c =>
   unfold behind at h
   cases a with
   | none => simp [Value.ownBlock] at h
   | some ad =>
     simp only [Option.map_some] at h
     split at h
     · exact h
     simp only [Value.ownBlock, Option.some.injEq] at h ⊢
     rw [← h]
     unfold Addr.add
     split <;> rfl
 | _ => exact h
def At8 (B : Nat) (v : Value) (l : List UInt8) (w : World) : Prop := l ≠ [] → ∀ k, v.ownBlock = some k → k < B ∨ ∃ cs fr, w.heap[k]? = some (.cells cs 5 fr)
def RdAt (B p : Nat) (l : List UInt8) (e : Int) (w : World) : Prop :=
 B ≤ p ∧ ∃ v, w.heap[p]? = some (.cells #[v, .int .i64 e] 198 (0, 0)) ∧ RB w v l ∧ At8 B v l w
theorem RdAt.lt {B p : Nat} {l : List UInt8} {e : Int} {w : World} (h : RdAt B p l e w) : p < w.heap.size := by
 obtain ⟨_, v, hb, _⟩ := h
 exact (Array.getElem?_eq_some_iff.1 hb).1
theorem At8.below {B : Nat} {v : Value} {l : List UInt8} {w w' : World} (h : At8 B v l w) (hb : Below w.heap.size w w') : At8 B v l w' := fun hl k hk => by
 rcases h hl k hk with h | ⟨cs, fr, h⟩
 · exact .inl h
 exact .inr ⟨cs, fr, (hb.block k (Array.getElem?_eq_some_iff.1 h).1).trans h⟩
theorem RdAt.below {B p : Nat} {l : List UInt8} {e : Int} {w w' : World} (h : RdAt B p l e w) (hb : Below w.heap.size w w') : RdAt B p l e w' := by
 have hlt := h.lt
 obtain ⟨hB, v, hv, hr, hn⟩ := h
 exact ⟨hB, v, (hb.block p hlt).trans hv, hr.mono EU8.stable hb, hn.below hb⟩
theorem at8_keep {B g : Nat} {w w' : World} {v : Value} {l : List UInt8} {cs : Array Value} {T : TypeId} {fr : Nat × Nat} (hg : w.heap[g]? = some (.cells cs T fr)) (hT : T ≠ 5) (hB : B ≤ g) (hgr : w.grownBy w' (some g)) (hr : RB w v l) (h : At8 B v l w) :
 RB w' v l ∧ At8 B v l w' := by
 have key : l ≠ [] → ∀ k, v.ownBlock = some k → k ≠ g := fun hl k hk e => by
  subst e
  rcases h hl k hk with h | ⟨cs', fr', h⟩
  · omega
  rw [h] at hg
  simp only [Option.some.injEq, Obj.cells.injEq] at hg
  exact hT hg.2.1.symm
 refine ⟨?_, fun hl k hk => ?_⟩
 · obtain ⟨a, c, rfl, h1, h2, h3, h4, h5⟩ := hr
   refine ⟨a, c, rfl, h1, h2, h3, h4, fun k x hk => ?_⟩
   have hl : l ≠ [] := fun e => by subst e; simp at hk
   obtain ⟨b, off, rfl, hlt, he⟩ := h5 k x hk
   refine ⟨b, off, rfl, Nat.lt_of_lt_of_le hlt hgr.size, ?_⟩
   unfold EU8 at he ⊢
   exact hgr.cell he (fun e => key hl b rfl (by simpa using e))
 rcases h hl k hk with h | ⟨cs', fr', h⟩
 · exact .inl h
 exact .inr ⟨cs', fr', (hgr.block k (Array.getElem?_eq_some_iff.1 h).1 (fun e => key hl k hk (by simpa using e))).trans h⟩
theorem RdAt.keep {B p g : Nat} {l : List UInt8} {e : Int} {w w' : World} {cs : Array Value} {T : TypeId} {fr : Nat × Nat} (h : RdAt B p l e w) (hg : w.heap[g]? = some (.cells cs T fr)) (hT : T ≠ 5) (hp : g ≠ p) (hB : B ≤ g) (hgr : w.grownBy w' (some g)) : RdAt B p l e w' := by
 have hlt := h.lt
 obtain ⟨hBp, v, hv, hr, hn⟩ := h
 obtain ⟨h1, h2⟩ := at8_keep hg hT hB hgr hr hn
 exact ⟨hBp, v, (hgr.block p hlt (fun e => hp (by simpa using e.symm))).trans hv, h1, h2⟩
theorem grow_below {p : Nat} {w w' : World} (hb : Below w.heap.size w w') : w.grownBy w' (some p) := ⟨hb.os, hb.tape, hb.output, hb.size, fun k hk _ => hb.block k hk⟩
theorem grow_set {p o : Nat} {u : Value} {w w' : World} (h : w.grownBy w' (some p)) : w.grownBy (w'.setCell ⟨p, o, none⟩ u) (some p) :=
 ⟨h.os, h.tape, h.output, by simpa [World.setCell] using h.size, fun k hk hne => (Below.heap_setCell _ _ _ _ (fun e => hne (by simp [e]))).trans (h.block k hk hne)⟩
theorem own_at8 {B B' : Nat} {w : World} {v : Value} {l : List UInt8} (h : OS 5 1 cU8 w B v l) : At8 B' v l w := fun _ k hk => by
 rcases h.2 with ⟨rfl, _⟩ | ⟨g, cap, cur, rfl, _, hg, _⟩
 · simp [Value.ownBlock] at hk
 simp only [Value.ownBlock, Option.some.injEq] at hk
 subst hk
 exact .inr ⟨_, _, hg⟩
theorem set2 {p : Nat} {w : World} {a b u v : Value} {T : TypeId} (h : w.heap[p]? = some (.cells #[a, b] T (0, 0))) : ((w.setCell ⟨p, 0, none⟩ u).setCell ⟨p, 1, none⟩ v).heap[p]? = some (.cells #[u, v] T (0, 0)) := by
 exact qtzde_4
def rdNum (e : Int) (l : List UInt8) : Int × List UInt8 × Int := if e = 0 then readNum l else (0, l, e)
def rdText (e : Int) (l : List UInt8) : ByteArray × List UInt8 × Int := if e = 0 then readText l else (⟨#[]⟩, l, e)
def rdTake (e : Int) (l : List UInt8) : List UInt8 × List UInt8 × Int := if e = 0 then (if l.length < 32 then ([], l, 8) else (l.take 32, l.drop 32, 0)) else ([], l, e)
set_option maxRecDepth 100000 in
set_option maxHeartbeats 1000000 in
theorem rd_number (B p : Nat) (l : List UInt8) (e : Int) (w : World) (h : RdAt B p l e w) :
 Calls Tryz.prog 119 #[.pointer (some ⟨p, 0, none⟩)] w fun en w' => en = .returned (.int .i64 (rdNum e l).1) ∧ RdAt B p (rdNum e l).2.1 (rdNum e l).2.2 w' ∧ w.grownBy w' (some p) := by
 have hlt := h.lt
 have hh := hid h
 obtain ⟨hBp, v, hv, hr, hn⟩ := h
 have c0 : w.cell? ⟨p, 0, none⟩ = some v := cell_of_row _ _ 0 _ _ _ hv
 have c1 : w.cell? ⟨p, 1, none⟩ = some (.int .i64 e) := cell_of_row _ _ 1 _ _ _ hv
 by_cases he : e = 0
 · subst he
   have hd : rdNum 0 l = readNum l := rfl
   rw [hd]
   have hrn := hid (wire_ReadNumber v l w hr)
   have hrl := hid (rn_rest_le l)
   have hll : l.length ≤ 140737488351232 := by obtain ⟨_, _, _, _, _, hre, _⟩ := hr; omega
   unfold ReadPost at hrn
   generalize readNum l = z at *
   obtain ⟨n, r, e2⟩ := z
   simp only at hrn ⊢
   clear hd
   replace hv := hid hv
   obtain ⟨va, vc, rfl, -⟩ := id hr
   clear hr hn
   go_enter Tryz.func119, Tryz.ntmps119
   exact qtzde_1
 have hd : rdNum e l = (0, l, e) := if_neg he
 rw [hd]
 have ht : (e != 0) = true := by simp [he]
 clear hd he hr hn hv
 go_enter Tryz.func119, Tryz.ntmps119
 go_wp2_with fail
 go_ret
 exact ⟨rfl, hh.out, grow_below (Below.refl _ _)⟩
set_option maxRecDepth 100000 in
set_option maxHeartbeats 1000000 in
theorem rd_text (B p : Nat) (l : List UInt8) (e : Int) (w : World) (h : RdAt B p l e w) :
 Calls Tryz.prog 120 #[.pointer (some ⟨p, 0, none⟩)] w fun en w' => en = .returned (.string (rdText e l).1) ∧ RdAt B p (rdText e l).2.1 (rdText e l).2.2 w' ∧ w.grownBy w' (some p) := by
 have hlt := h.lt
 have hh := hid h
 obtain ⟨hBp, v, hv, hr, hn⟩ := h
 have c0 : w.cell? ⟨p, 0, none⟩ = some v := cell_of_row _ _ 0 _ _ _ hv
 have c1 : w.cell? ⟨p, 1, none⟩ = some (.int .i64 e) := cell_of_row _ _ 1 _ _ _ hv
 by_cases he : e = 0
 · subst he
   have hd : rdText 0 l = readText l := rfl
   rw [hd]
   have hrn := hid (wire_ReadText_own v l w hr)
   have hrl := hid (readText_rest_le l)
   have hll : l.length ≤ 140737488351232 := by obtain ⟨_, _, _, _, _, hre, _⟩ := hr; omega
   unfold TextOwn at hrn
   generalize readText l = z at *
   obtain ⟨n, r, e2⟩ := z
   simp only at hrn ⊢
   clear hd
   replace hv := hid hv
   obtain ⟨va, vc, rfl, -⟩ := id hr
   clear hr hn
   go_enter Tryz.func120, Tryz.ntmps120
   exact qtzde_1
 have hd : rdText e l = (⟨#[]⟩, l, e) := if_neg he
 rw [hd]
 have ht : (e != 0) = true := by simp [he]
 clear hd he hr hn hv
 go_enter Tryz.func120, Tryz.ntmps120
 go_wp2_with fail
 go_ret
 exact ⟨rfl, hh.out, grow_below (Below.refl _ _)⟩
def TakePost (B p : Nat) (l : List UInt8) (e : Int) (w : World) (en : Ending) (w' : World) : Prop :=
 ∃ v, en = .returned v ∧ RB w' v (rdTake e l).1 ∧ RdAt B p (rdTake e l).2.1 (rdTake e l).2.2 w' ∧ w.grownBy w' (some p)
theorem set_e {p : Nat} {w : World} {a b v : Value} {T : TypeId} (h : w.heap[p]? = some (.cells #[a, b] T (0, 0))) : (w.setCell ⟨p, 1, none⟩ v).heap[p]? = some (.cells #[a, v] T (0, 0)) := by
 exact qtzde_4
theorem set_r {p : Nat} {w : World} {a b u : Value} {T : TypeId} (h : w.heap[p]? = some (.cells #[a, b] T (0, 0))) : (w.setCell ⟨p, 0, none⟩ u).heap[p]? = some (.cells #[u, b] T (0, 0)) := by
 exact qtzde_4
set_option maxRecDepth 100000 in
set_option maxHeartbeats 1000000 in
theorem rd_take (B p : Nat) (l : List UInt8) (e : Int) (w : World) (h : RdAt B p l e w) :
 Calls Tryz.prog 121 #[.pointer (some ⟨p, 0, none⟩), .int .i64 32] w (TakePost B p l e w) := by
 have hlt := h.lt
 have hh := hid h
 obtain ⟨hBp, v, hv, hr, hn⟩ := h
 have c0 : w.cell? ⟨p, 0, none⟩ = some v := cell_of_row _ _ 0 _ _ _ hv
 have c1 : w.cell? ⟨p, 1, none⟩ = some (.int .i64 e) := cell_of_row _ _ 1 _ _ _ hv
 have f0 : w.frozen? ⟨p, 0, none⟩ = false := Lib.frozen_of_heap hv 0
 have f1 : w.frozen? ⟨p, 1, none⟩ = false := Lib.frozen_of_heap hv 1
 by_cases he : e = 0
 · subst he
   by_cases hs : l.length < 32
   · have hd : rdTake 0 l = ([], l, 8) := if_pos hs
     have q : decide ((l.length : Int) < 32) = true := by simp; omega
     have hfin : Hid (TakePost B p l 0 w (.returned (.slice none 0 0)) (w.setCell ⟨p, 1, none⟩ (.int .i64 8))) := hid (by
      refine ⟨_, rfl, ?_, ?_, grow_set (grow_below (Below.refl _ _))⟩
      · rw [hd]; exact RS.nil
      · rw [hd]
        obtain ⟨g1, g2⟩ := at8_keep hv qtzde_6 hBp (grow_set (o := 1) (u := .int .i64 8) (grow_below (Below.refl _ w))) hr hn
        exact ⟨hBp, v, set_e hv, g1, g2⟩)
     obtain ⟨va, vc, rfl, -⟩ := id hr
     clear hd hs hr hn hv
     exact qtzde_3
   have hd : rdTake 0 l = (l.take 32, l.drop 32, 0) := if_neg hs
   have q : decide ((l.length : Int) < 32) = false := by simp; omega
   have hbr := behind_reads hr 32 (by omega)
   have hbb : At8 B (behind v 32) (l.drop 32) w := fun hl k hk => hn (fun e => hl (by rw [e]; rfl)) k (behind_block hk)
   obtain ⟨va, vc, rfl, hlc, hcm, hre, hno, hat⟩ := id hr
   unfold maxLen at hcm
   have hup := RS.upto hr 32 (by omega)
   rw [behind_slice] at hbr hbb
   have hfin : Hid (TakePost B p l 0 w (.returned (.slice va 32 vc)) (w.setCell ⟨p, 0, none⟩ (.slice (if vc = 32 then va else va.map (·.add (32 * 1))) (l.length - 32) (vc - 32)))) := hid (by
    refine ⟨_, rfl, ?_, ?_, grow_set (grow_below (Below.refl _ _))⟩
    · rw [hd]; exact (at8_keep hv qtzde_6 hBp (grow_set (grow_below (Below.refl _ w))) hup (show At8 B (.slice va 32 vc) (l.take 32) w from fun hl k hk => hn (fun e => hl (by rw [e]; rfl)) k (by cases va <;> exact hk))).1
    · rw [hd]
      obtain ⟨g1, g2⟩ := at8_keep hv qtzde_6 hBp (grow_set (o := 0) (u := .slice (if vc = 32 then va else va.map (·.add (32 * 1))) (l.length - 32) (vc - 32)) (grow_below (Below.refl _ w))) hbr hbb
      exact ⟨hBp, _, set_r hv, g1, g2⟩)
   have q2 : 32 ≤ vc := by omega
   have q3 : 32 ≤ l.length := by omega
   cases va with
   | none => have := hno rfl; omega
   | some ad =>
     by_cases hvc : vc = 32
     · subst hvc
       rw [if_pos rfl, Nat.sub_self, show l.length - 32 = 0 by omega] at hfin
       clear hd hs hr hn hv hbr hbb hup hat
       exact qtzde_3
     rw [if_neg hvc, Nat.mul_one, Option.map_some] at hfin
     clear hd hs hr hn hv hbr hbb hup hat
     exact qtzde_3
 have hd : rdTake e l = ([], l, e) := if_neg he
 have ht : (e != 0) = true := by simp [he]
 have ht2 : (e == 0) = false := by simp [he]
 have hfin : Hid (TakePost B p l e w (.returned (.slice none 0 0)) w) := hid (by
  refine ⟨_, rfl, ?_, ?_, grow_below (Below.refl _ _)⟩
  · rw [hd]; exact RS.nil
  · rw [hd]; exact hh.out)
 clear hd he hr hn hv
 exact qtzde_3
def noPart : Part := ⟨⟨#[]⟩, ⟨#[]⟩, 0⟩
def readPart (l : List UInt8) : Part × List UInt8 × Int :=
 if (readText l).2.2 ≠ 0 then (noPart, [], (readText l).2.2)
 else if (readText l).2.1.length < 32 then (noPart, [], 8)
 else if (readNum ((readText l).2.1.drop 32)).2.2 ≠ 0 then (noPart, [], (readNum ((readText l).2.1.drop 32)).2.2)
 else (⟨(readText l).1, bstr (hexOf ((readText l).2.1.take 32)), (readNum ((readText l).2.1.drop 32)).1⟩, (readNum ((readText l).2.1.drop 32)).2.1, 0)
def decRest : Nat → List Part → List UInt8 → List Part × Int
 | 0, out, l => if l ≠ [] then ([], 3) else if partsFault out ≠ 0 then ([], partsFault out) else (out, 0)
 | n + 1, out, l => if (readPart l).2.2 ≠ 0 then ([], (readPart l).2.2) else decRest n (out ++ [(readPart l).1]) (readPart l).2.1
def decParts (b : List UInt8) : List Part × Int :=
 if 2000 < b.length then ([], 1) else if b.take 3 ≠ [65, 77, 49] then ([], 3) else if (readNum (b.drop 3)).2.2 ≠ 0 then ([], (readNum (b.drop 3)).2.2)
 else if 8 < (readNum (b.drop 3)).1 then ([], 1) else decRest (readNum (b.drop 3)).1.toNat [] (readNum (b.drop 3)).2.1
theorem dec_size {b : List UInt8} (h : 2000 < b.length) : decParts b = ([], 1) := by unfold decParts; rw [if_pos h]
theorem dec_sign {b : List UInt8} (h : ¬ 2000 < b.length) (h2 : b.take 3 ≠ [65, 77, 49]) : decParts b = ([], 3) := by unfold decParts; rw [if_neg h, if_pos h2]
theorem dec_num {b r : List UInt8} {n e : Int} (h : ¬ 2000 < b.length) (h2 : b.take 3 = [65, 77, 49]) (h3 : readNum (b.drop 3) = (n, r, e)) :
 decParts b = if e ≠ 0 then ([], e) else if 8 < n then ([], 1) else decRest n.toNat [] r := by
 unfold decParts; rw [if_neg h, if_neg (not_not_intro h2), h3]
theorem dec_step_text {n : Nat} {out : List Part} {l r : List UInt8} {s : ByteArray} {e : Int} (h : readText l = (s, r, e)) (he : e ≠ 0) : decRest (n + 1) out l = ([], e) := by
 have hp : readPart l = (noPart, [], e) := by unfold readPart; rw [h]; simp only; rw [if_pos he]
 rw [decRest, hp, if_pos he]
theorem dec_step_short {n : Nat} {out : List Part} {l r : List UInt8} {s : ByteArray} (h : readText l = (s, r, 0)) (hr : r.length < 32) : decRest (n + 1) out l = ([], 8) := by
 have hp : readPart l = (noPart, [], 8) := by unfold readPart; rw [h]; simp only; rw [if_neg qtzde_6, if_pos hr]
 rw [decRest, hp, if_pos (by simp)]
theorem dec_step_num {n : Nat} {out : List Part} {l r q : List UInt8} {s : ByteArray} {m e : Int} (h : readText l = (s, r, 0)) (hr : 32 ≤ r.length) (h2 : readNum (r.drop 32) = (m, q, e)) (he : e ≠ 0) : decRest (n + 1) out l = ([], e) := by
 have hp : readPart l = (noPart, [], e) := by unfold readPart; rw [h]; simp only; rw [if_neg qtzde_6, if_neg (by omega), h2]; simp only; rw [if_pos he]
 rw [decRest, hp, if_pos he]
theorem dec_step_ok {n : Nat} {out : List Part} {l r q : List UInt8} {s : ByteArray} {m : Int} (h : readText l = (s, r, 0)) (hr : 32 ≤ r.length) (h2 : readNum (r.drop 32) = (m, q, 0)) :
 decRest (n + 1) out l = decRest n (out ++ [⟨s, bstr (hexOf (r.take 32)), m⟩]) q := by
 have hp : readPart l = (⟨s, bstr (hexOf (r.take 32)), m⟩, q, 0) := by unfold readPart; rw [h]; simp only; rw [if_neg qtzde_6, if_neg (by omega), h2]; simp only; rw [if_neg qtzde_6]
 rw [decRest, hp, if_neg (by simp)]
theorem dec_end_more {out : List Part} {l : List UInt8} (h : l ≠ []) : decRest 0 out l = ([], 3) := by rw [decRest, if_pos h]
theorem dec_end_fault {out : List Part} (h : partsFault out ≠ 0) : decRest 0 out [] = ([], partsFault out) := by rw [decRest, if_neg (by simp), if_pos h]
theorem dec_end_ok {out : List Part} (h : partsFault out = 0) : decRest 0 out [] = (out, 0) := by rw [decRest, if_neg (by simp), if_neg (not_not_intro h)]
def Modest1 (x : Part) : Prop := x.name.size ≤ 2000 ∧ x.digest.size = 64 ∧ 0 ≤ x.size ∧ x.size ≤ 4294967295
theorem readText_size {l r : List UInt8} {s : ByteArray} (h : readText l = (s, r, 0)) : s.size ≤ 2000 ∧ r.length ≤ l.length := by
 have h2 := readText_rest_le l
 rw [h] at h2
 refine ⟨?_, h2⟩
 unfold readText at h
 split at h
 · exact qtzde_5
 split at h
 · exact qtzde_5
 split at h
 · exact qtzde_5
 simp only [Prod.mk.injEq] at h
 obtain ⟨rfl, _⟩ := h
 show (List.toArray _).size ≤ 2000
 rw [List.size_toArray, List.length_take]
 omega
theorem hex32 {r : List UInt8} (h : 32 ≤ r.length) : (bstr (hexOf (r.take 32))).size = 64 := by
 show (List.toArray _).size = 64
 rw [List.size_toArray, hexOf_len, List.length_take]
 omega
theorem dec_uni {n : Nat} {ps : List Part} {l r r2 q t : List UInt8} {s : ByteArray} {e1 e2 e3 m : Int} (h1 : rdText 0 l = (s, r, e1)) (h2 : rdTake e1 r = (t, r2, e2)) (h3 : rdNum e2 r2 = (m, q, e3)) :
 decRest (n + 1) ps l = if e3 ≠ 0 then ([], e3) else decRest n (ps ++ [⟨s, bstr (hexOf t), m⟩]) q := by
 have h1' : readText l = (s, r, e1) := h1
 by_cases he1 : e1 = 0
 · subst he1
   unfold rdTake at h2
   rw [if_pos rfl] at h2
   split at h2
   · rename_i hr
     simp only [Prod.mk.injEq] at h2
     obtain ⟨rfl, rfl, rfl⟩ := h2
     have h3' : rdNum 8 r = (0, r, 8) := if_neg qtzde_6
     rw [h3'] at h3
     simp only [Prod.mk.injEq] at h3
     obtain ⟨rfl, rfl, rfl⟩ := h3
     rw [dec_step_short h1' hr, if_pos qtzde_6]
   rename_i hr
   simp only [Prod.mk.injEq] at h2
   obtain ⟨rfl, rfl, rfl⟩ := h2
   have h3' : readNum (r.drop 32) = (m, q, e3) := h3
   by_cases he3 : e3 = 0
   · subst he3
     rw [dec_step_ok h1' (by omega) h3', if_neg (by simp)]
   rw [dec_step_num h1' (by omega) h3' he3, if_pos he3]
 unfold rdTake at h2
 rw [if_neg he1] at h2
 simp only [Prod.mk.injEq] at h2
 obtain ⟨rfl, rfl, rfl⟩ := h2
 have h3' : rdNum e1 r = (0, r, e1) := if_neg he1
 rw [h3'] at h3
 simp only [Prod.mk.injEq] at h3
 obtain ⟨rfl, rfl, rfl⟩ := h3
 rw [dec_step_text h1' he1, if_pos he1]
theorem dec_modest {l r r2 q t : List UInt8} {s : ByteArray} {e1 e2 m : Int} (h1 : rdText 0 l = (s, r, e1)) (h2 : rdTake e1 r = (t, r2, e2)) (h3 : rdNum e2 r2 = (m, q, 0)) : Modest1 ⟨s, bstr (hexOf t), m⟩ := by
 have he2 : e2 = 0 := by
  apply Classical.byContradiction
  intro h
  unfold rdNum at h3
  rw [if_neg h] at h3
  simp only [Prod.mk.injEq] at h3
  exact h h3.2.2
 subst he2
 have he1 : e1 = 0 := by
  apply Classical.byContradiction
  intro h
  unfold rdTake at h2
  rw [if_neg h] at h2
  simp only [Prod.mk.injEq] at h2
  exact h h2.2.2
 subst he1
 have h1' : readText l = (s, r, 0) := h1
 unfold rdTake at h2
 rw [if_pos rfl] at h2
 split at h2
 · simp only [Prod.mk.injEq] at h2
   exact absurd h2.2.2 qtzde_6
 rename_i hr
 simp only [Prod.mk.injEq] at h2
 obtain ⟨rfl, rfl, _⟩ := h2
 have hn := rn_range (r.drop 32)
 have h3' : readNum (r.drop 32) = (m, q, 0) := h3
 rw [h3'] at hn
 exact ⟨(readText_size h1').1, hex32 (by omega), hn.1, hn.2⟩
theorem rdTake_len (e : Int) (l : List UInt8) : (rdTake e l).1.length ≤ l.length := by
 unfold rdTake
 split
 · split
   · simp
   simp; omega
 simp
theorem rdTake_len2 (e : Int) (l : List UInt8) : (rdTake e l).2.1.length ≤ l.length := by
 unfold rdTake
 split
 · split
   · simp
   simp
 simp
theorem rdText_len (e : Int) (l : List UInt8) : (rdText e l).2.1.length ≤ l.length := by
 unfold rdText
 split
 · exact readText_rest_le l
 exact Nat.le_refl _
theorem rdNum_len (e : Int) (l : List UInt8) : (rdNum e l).2.1.length ≤ l.length := by
 unfold rdNum
 split
 · exact rn_rest_le l
 exact Nat.le_refl _
def DecPost (b : List UInt8) (w : World) (e : Ending) (w' : World) : Prop :=
 ∃ v', e = .returned (.tuple #[v', .int .i64 (decParts b).2]) ∧ RP w' v' (decParts b).1 ∧ Below w.heap.size w w'
theorem dpost_no {b : List UInt8} {n : Int} {w w' : World} (h : decParts b = ([], n)) (hb : Below w.heap.size w w') : DecPost b w (.returned (.tuple #[.slice none 0 0, .int .i64 n])) w' :=
 ⟨_, by rw [h], by rw [h]; exact RS.nil, hb⟩
theorem dpost_ok {b : List UInt8} {ps : List Part} {v : Value} {w w' : World} (h : decParts b = (ps, 0)) (hr : RP w' v ps) (hb : Below w.heap.size w w') : DecPost b w (.returned (.tuple #[v, .int .i64 0])) w' :=
 ⟨_, by rw [h], by rw [h]; exact hr, hb⟩
theorem sign_reads (w : World) (T : TypeId) : RB (w.alloc (.cells #[.int .u8 65, .int .u8 77, .int .u8 49] T (3, 4))) (.slice (some ⟨w.heap.size, 0, none⟩) 3 3) [65, 77, 49] := by
 refine ⟨_, 3, rfl, by simp, by simp [maxLen], by simp, fun h => by simp at h, fun k x hk => ⟨w.heap.size, 0, rfl, by simp, ?_⟩⟩
 unfold EU8
 rw [cell_of_row _ _ _ _ _ _ (heap_alloc_new w _)]
 rcases k with _ | _ | _ | k <;> simp at hk <;> subst hk <;> rfl
theorem rb_lt {w : World} {v : Value} {l : List UInt8} (h : RB w v l) (hl : l ≠ []) {k : Nat} (hk : v.ownBlock = some k) : k < w.heap.size := by
 obtain ⟨a, c, rfl, _, _, _, _, hat⟩ := h
 cases l with
 | nil => exact absurd rfl hl
 | cons x l =>
   obtain ⟨b, off, rfl, hb, _⟩ := hat 0 x rfl
   simp only [Value.ownBlock, Option.some.injEq] at hk
   omega
theorem OS.beside {α : Type} {e T : TypeId} {s B p : Nat} {cells : α → List Value} {w w' : World} {v : Value} {l : List α} {cs : Array Value} {fr : Nat × Nat} (h : OS e s cells w B v l) (hp : w.heap[p]? = some (.cells cs T fr)) (hT : T ≠ e) (hg : w.grownBy w' (some p)) : OS e s cells w' B v l :=
 World.ownsRow.kept (row := some p) h hg (Or.inr (OS.block_ne h hp hT))
theorem RdAt.beside {B p : Nat} {l : List UInt8} {e : Int} {w w' : World} {v : Value} {ps : List Part} (h : RdAt B p l e w) (ho : OS 67 3 cPart w B v ps) (hg : w.grownBy w' (some p)) : OS 67 3 cPart w' B v ps := by
 obtain ⟨_, _, hv, _⟩ := h
 exact OS.beside ho hv qtzde_6 hg
theorem RdAt.grow {B p : Nat} {l : List UInt8} {e : Int} {w w' : World} {v : Value} {ps : List Part} (h : RdAt B p l e w) (ho : OS 67 3 cPart w B v ps) (hg : w.grownBy w' v.ownBlock) : RdAt B p l e w' := by
 rcases ho.2 with ⟨rfl, _⟩ | ⟨g, cap, cur, rfl, hB, hh, _⟩
 · exact h.below ⟨hg.os, hg.tape, hg.output, hg.size, fun k hk => hg.block k hk (by simp [Value.ownBlock])⟩
 refine h.keep hh qtzde_6 ?_ hB hg
 intro e
 subst e
 obtain ⟨_, v, hv, _⟩ := h
 rw [hv] at hh
 simp only [Option.some.injEq, Obj.cells.injEq] at hh
 exact absurd hh.2.1 qtzde_6
theorem rn_zero {l r : List UInt8} {n e : Int} (h : readNum l = (n, r, e)) (he : e ≠ 0) : n = 0 := by
 unfold readNum at h
 split at h
 · simp only [Prod.mk.injEq] at h; exact h.1.symm
 split at h
 · simp only [Prod.mk.injEq] at h; exact h.1.symm
 split at h
 · simp only [Prod.mk.injEq] at h; exact h.1.symm
 simp only [Prod.mk.injEq] at h; exact absurd h.2.2.symm he
theorem flat_rpart : Flat 3 cPart (ERaw cPart) := flat_raw qtzde_6 (fun _ => rfl) (fun _ u hu => by simp [cPart] at hu; rcases hu with rfl | rfl | rfl <;> rfl)
def DInv (b : List UInt8) (N k : Nat) (ps : List Part) (l : List UInt8) : Prop := ps.length = k ∧ decParts b = decRest (N - k) ps l ∧ (∀ x ∈ ps, Modest1 x) ∧ l.length ≤ 2000
theorem rd_cell {B p : Nat} {l : List UInt8} {e : Int} {w : World} (h : RdAt B p l e w) : w.cell? ⟨p, 1, none⟩ = some (.int .i64 e) ∧ ∃ a c, w.cell? ⟨p, 0, none⟩ = some (.slice a l.length c) := by
 obtain ⟨_, v, hv, hr, _⟩ := h
 obtain ⟨a, c, rfl, -⟩ := hr
 exact ⟨cell_of_row _ _ 1 _ _ _ hv, a, c, cell_of_row _ _ 0 _ _ _ hv⟩
set_option maxRecDepth 100000 in
set_option maxHeartbeats 4000000 in
theorem manifest_Decode (v : Value) (b : List UInt8) (w : World) (h : RB w v b) : Calls Tryz.prog 68 #[v] w (DecPost b w) := by
 obtain ⟨i0, ii0, hz0, hz1, hz2⟩ := info_parts info_part
 have hR := hid h
 obtain ⟨a, c, rfl, hlc, hcm, hre, hno, hat⟩ := h
 unfold maxLen at hcm
 by_cases hsz : 2000 < b.length
 · have hz := hid (dec_size hsz)
   have q : decide (2000 < (b.length : Int)) = true := by simp; omega
   clear hat hno
   go_enter Tryz.func68, Tryz.ntmps68
   go_wp2_with fail
   go_ret2
   exact dpost_no hz.out (Below.refl _ _)
 have q : decide (2000 < (b.length : Int)) = false := by simp; omega
 have kc := fun (W : World) (C : Array Value) (n c : Nat) => Lib.run_convert_bytes_const (P := Tryz.prog) W 41 5 C n c Tryz.underlying41 Tryz.underlying5
 have hsr := sign_reads w 5
 have hbA := b_alloc (Below.refl _ w) (Obj.cells #[.int .u8 65, .int .u8 77, .int .u8 49] 5 (3, 4))
 have hR1 := hR.out.mono EU8.stable hbA
 by_cases hs : b.take 3 = [65, 77, 49]
 · have hcp := hid (bytes_CutPrefix_yes _ _ b [65, 77, 49] _ hR1 hsr hs)
   have hz := fun (n e : Int) (r : List UInt8) (h3 : readNum (b.drop 3) = (n, r, e)) => dec_num hsz hs h3
   replace hz := hid hz
   have hb3 : 3 ≤ b.length := by
    have := congrArg List.length hs
    rw [List.length_take] at this
    simp at this; omega
   have hrr := behind_reads hR1 3 hb3
   have hat8 : At8 w.heap.size (behind (.slice a b.length c) 3) (b.drop 3) (w.alloc (Obj.cells #[.int .u8 65, .int .u8 77, .int .u8 49] 5 (3, 4))) := fun hl k hk =>
    .inl (rb_lt hR.out (fun e => hl (by rw [e]; rfl)) (behind_block hk))
   have hcp' : Calls Tryz.prog 75 #[.slice a b.length c, .slice (some ⟨w.heap.size, 0, none⟩) 3 3] (w.alloc (Obj.cells #[.int .u8 65, .int .u8 77, .int .u8 49] 5 (3, 4))) fun e w' => e = .returned (.tuple #[behind (.slice a b.length c) 3, .bool true]) ∧ (w.alloc (Obj.cells #[.int .u8 65, .int .u8 77, .int .u8 49] 5 (3, 4))) = w' := hcp.out
   rw [behind_slice] at hrr hat8 hcp'
   replace hcp := hid hcp'
   clear hcp'
   generalize (if c = 3 then a else Option.map (fun x => x.add (3 * 1)) a) = A at *
   have hdl : (b.drop 3).length = b.length - 3 := by simp
   have hrd : Hid (RdAt w.heap.size (w.heap.size + 1) (b.drop 3) 0 ((w.alloc (Obj.cells #[.int .u8 65, .int .u8 77, .int .u8 49] 5 (3, 4))).alloc (Obj.cells #[.slice A (b.length - 3) (c - 3), .int .i64 0] 198))) := hid
    ⟨by omega, _, heap_alloc2_new w _ _, hrr.mono EU8.stable (b_alloc (Below.refl _ _) _), hat8.below (b_alloc (Below.refl _ _) _)⟩
   have hbB := hid (b_alloc hbA (Obj.cells #[.slice A (b.length - 3) (c - 3), .int .i64 0] 198))
   have hdl2 : (b.drop 3).length ≤ 2000 := by omega
   replace hdl := hid hdl
   clear hat hno hs hsr hR1 hrr hat8 hR
   go_enter Tryz.func68, Tryz.ntmps68
   go_wp2_with fail
   ((with_reducible refine hcp.out.mono ?_); rintro e w1 ⟨rfl, rfl⟩)
   clear hcp kc
   go_wp2_with fail
   generalize (w.alloc (Obj.cells #[.int .u8 65, .int .u8 77, .int .u8 49] 5 (3, 4))).alloc (Obj.cells #[.slice A (b.length - 3) (c - 3), .int .i64 0] 198) = W2 at *
   obtain ⟨B, hB⟩ : ∃ B, w.heap.size = B := ⟨_, rfl⟩
   rw [hB] at hrd hbB ⊢
   replace hB := hid hB
   generalize hp1 : B + 1 = p at hrd ⊢
   have hBp : B ≤ p := by omega
   replace hp1 := hid hp1
   ((with_reducible refine (rd_number B p _ 0 W2 hrd.out).mono ?_); rintro e w3 ⟨rfl, hr3, hg3⟩)
   have hrn : rdNum 0 (b.drop 3) = readNum (b.drop 3) := rfl
   rw [hrn] at hr3 ⊢
   have hbW : Hid (Below B w w3) := hid (hbB.out.grown hg3 (by have := hrd.out.lt; omega) (fun k hk => by simp at hk; omega))
   have hzz := hz.out (readNum (b.drop 3)).1 (readNum (b.drop 3)).2.2 (readNum (b.drop 3)).2.1 rfl
   have hzero := fun he => rn_zero (l := b.drop 3) (r := (readNum (b.drop 3)).2.1) (n := (readNum (b.drop 3)).1) (e := (readNum (b.drop 3)).2.2) rfl he
   have hrange := rn_range (b.drop 3)
   have hrl := rn_rest_le (b.drop 3)
   clear hrn hrd hbB hg3 hz
   generalize readNum (b.drop 3) = z3 at *
   obtain ⟨n, r, e3⟩ := z3
   simp only at hr3 hzz hzero hrange hrl ⊢
   obtain ⟨k1, ka, kb, k0⟩ := rd_cell hr3
   replace hr3 := hid hr3
   by_cases he3 : e3 = 0
   · subst he3
     rw [if_neg (by simp)] at hzz
     clear hzero
     by_cases hn8 : 8 < n
     · rw [if_pos hn8] at hzz
       have q8 : decide (8 < n) = true := by simp [hn8]
       replace hzz := hid hzz
       go_wp2_with fail
       go_ret2
       exact dpost_no hzz.out (hB.out.symm ▸ hbW.out)
     rw [if_neg hn8] at hzz
     have q8 : decide (8 < n) = false := by simp; omega
     obtain ⟨N, rfl⟩ := Int.eq_ofNat_of_zero_le hrange.1
     rw [Int.toNat_natCast] at hzz
     have hN : N ≤ 8 := by omega
     have hinv : Hid (DInv b N 0 [] r) := hid ⟨rfl, hzz, fun x hx => by simp at hx, by omega⟩
     have hown0 : Hid (OS 67 3 cPart w3 B (.slice none 0 0) []) := hid OS.nil
     clear hzz hrange hrl
     go_wp2_with fail
     clear k0 k1 ka kb
     go_loopw [8, 37] (fun o i wr => ∃ (k : Nat) (ps : List Part) (l : List UInt8), k ≤ N ∧ i = .int .i64 (k : Int) ∧ Hid (DInv b N k ps l) ∧ Hid (RdAt B p l 0 wr) ∧ Hid (OS 67 3 cPart wr B o ps) ∧ Hid (Below B w wr)) (fun _ i _ => N - (intOf i).toNat)
     case atStart => exact ⟨0, [], r, by omega, rfl, hinv, hr3, hown0, hbW⟩
     obtain ⟨k, ps, l, hk, rfl, hin, hrd, hown, hb⟩ := hrel
     obtain ⟨k1, ka, kb, k0⟩ := rd_cell hrd.out
     by_cases hlt : k < N
     · clear k0 k1 ka kb
       have hll : l.length ≤ 2000 := hin.out.2.2.2
       go_wp2_with fail
       ((with_reducible refine (rd_text B p l 0 wr hrd.out).mono ?_); rintro e w4 ⟨rfl, hr4, hg4⟩)
       have ho4 := hid (hrd.out.beside hown.out hg4)
       have hb4 := hid (hb.out.grown hg4 (by have := hrd.out.lt; omega) (fun k hk => by simp at hk; omega))
       have hl4 := rdText_len 0 l
       obtain ⟨s1, r4, e4, hq4⟩ : ∃ s r e, rdText 0 l = (s, r, e) := ⟨_, _, _, rfl⟩
       rw [hq4] at hr4 hl4 ⊢
       simp only at hr4 hl4 ⊢
       replace hq4 := hid hq4
       clear hrd hown hb hg4
       go_wp2_with fail
       ((with_reducible refine (rd_take B p r4 e4 w4 hr4).mono ?_); rintro e w5 ⟨v5, rfl, hv5, hr5, hg5⟩)
       have ho5 := hid (hr4.beside ho4.out hg5)
       have hb5 := hid (hb4.out.grown hg5 (by have := hr4.lt; omega) (fun k hk => by simp at hk; omega))
       have hl5 := rdTake_len e4 r4
       have hl5b := rdTake_len2 e4 r4
       obtain ⟨t5, r5, e5, hq5⟩ : ∃ s r e, rdTake e4 r4 = (s, r, e) := ⟨_, _, _, rfl⟩
       rw [hq5] at hv5 hr5 hl5 hl5b
       simp only at hv5 hr5 hl5 hl5b
       replace hq5 := hid hq5
       clear hr4 ho4 hb4 hg5
       go_wp2_with fail
       ((with_reducible refine (hex_Text v5 t5 w5 hv5 (by omega)).mono ?_); rintro e w6 ⟨rfl, hb6'⟩)
       have ho6 := hid (OS.below ho5.out hb6')
       have hr6 := hr5.below hb6'
       have hb6 := hid (hb5.out.trans (hb6'.mono (by have := hr5.lt; omega)))
       clear ho5 hr5 hb5 hb6' hv5
       generalize hst : bstr (hexOf t5) = st at *
       replace hst := hid hst
       go_wp2_with fail
       ((with_reducible refine (rd_number B p r5 e5 w6 hr6).mono ?_); rintro e w7 ⟨rfl, hr7, hg7⟩)
       have ho7 := hid (hr6.beside ho6.out hg7)
       have hb7 := hid (hb6.out.grown hg7 (by have := hr6.lt; omega) (fun k hk => by simp at hk; omega))
       obtain ⟨m7, q7, e7, hq7⟩ : ∃ s r e, rdNum e5 r5 = (s, r, e) := ⟨_, _, _, rfl⟩
       have hl7 := rdNum_len e5 r5
       rw [hq7] at hr7 hl7 ⊢
       simp only at hr7 hl7 ⊢
       replace hq7 := hid hq7
       clear hr6 ho6 hb6 hg7
       have hpl := hin.out.1
       have hrow := row_one (s := 3) (bs := 40) (cells := cPart) w7 67 ⟨s1, st, m7⟩ #[.string s1, .string st, .int .i64 m7] w7.heap.size rfl rfl qtzde_6
       have hpk : ps.length ≤ 8 := by omega
       have hlt7 := hr7.lt
       replace hpl := hid hpl
       go_wp2_with (at_builtin; go_must (refine wpL_append flat_rpart rfl (.tmp 39) (.tmp 48) 42 rfl 67 i0 _ Tryz.underlying42 ii0 hz0 hz1 hz2 rfl B _ ps rfl (OS.alloc ho7.out _) _ [⟨s1, st, m7⟩] rfl hrow ?c1 ?c2 ?c3 ?_))
       case c1 => simp; omega
       case c2 => simp [maxLen]; omega
       case c3 => simp; omega
       intro v8 w8 ho8 hg8
       have hr8 := RdAt.grow (hr7.below (b_alloc (Below.refl _ w7) (Obj.cells #[.string s1, .string st, .int .i64 m7] 67))) (OS.alloc ho7.out _) hg8
       have hb8 := hid ((hb7.out.alloc (by omega) (Obj.cells #[.string s1, .string st, .int .i64 m7] 67)).grown hg8 (by simp; omega) (OS.block ho7.out))
       replace ho8 := hid ho8
       obtain ⟨k1, ka, kb, k0⟩ := rd_cell hr8
       replace hr8 := hid hr8
       have hun : Hid (decRest (N - k) ps l = if e7 ≠ 0 then ([], e7) else decRest (N - (k + 1)) (ps ++ [⟨s1, st, m7⟩]) q7) := hid (by
        rw [show N - k = (N - (k + 1)) + 1 by omega, dec_uni hq4.out hq5.out hq7.out, hst.out])
       have hmod : Hid (e7 = 0 → Modest1 ⟨s1, st, m7⟩) := hid (fun he => by
        have := dec_modest hq4.out hq5.out (hq7.out.trans (by rw [he]))
        rw [hst.out] at this
        exact this)
       clear hr7 ho7 hb7 hg8 hrow hlt7 hq4 hq5 hq7 hst
       by_cases he7 : e7 = 0
       · subst he7
         have hin' : Hid (DInv b N (k + 1) (ps ++ [⟨s1, st, m7⟩]) q7) := hid
          ⟨by have := hpl.out; simp; omega, by rw [hin.out.2.1, hun.out, if_neg (by simp)], fun x hx => by
           rcases List.mem_append.1 hx with hx | hx
           · exact hin.out.2.2.1 x hx
           · simp only [List.mem_singleton] at hx
             subst hx
             exact hmod.out rfl, by omega⟩
         clear hin hun hmod hpl
         go_wp2_with fail
         go_roundw
         case rel => exact ⟨k + 1, _, q7, by omega, by go_num, hin', hr8, ho8, hb8⟩
         case measure => simp [intOf]; omega
       have hz := hid (hin.out.2.1.trans (hun.out.trans (if_pos he7)))
       have t7 : (e7 != 0) = true := by simp [he7]
       replace he7 := hid he7
       clear hin hun hmod hpl
       go_wp2_with fail
       go_quiet (fail)
       go_wp2_with fail
       go_ret2
       exact dpost_no hz.out (hB.out.symm ▸ below_drewN hb8.out _)
     obtain rfl : k = N := by omega
     have hz0' : decParts b = decRest 0 ps l := by have := hin.out.2.1; rwa [Nat.sub_self] at this
     have hmod := hid hin.out.2.2.1
     have hpl := hin.out.1
     have hpk : ps.length ≤ 8 := by omega
     clear hin hpl
     by_cases hl0 : l = []
     · subst hl0
       have hrp := hid (reads_part hown.out (by omega) (fun x hx => by
        obtain ⟨g1, g2, g3, g4⟩ := hmod.out x hx
        exact ⟨by omega, by omega, by simp [Lit.wf, IntKind.min, IntKind.max, IntKind.signed, IntKind.bits]; omega⟩))
       have hdd := fun hf => dec_end_fault (out := ps) hf
       have hd0 := fun hf => dec_end_ok (out := ps) hf
       obtain ⟨va, vc, rfl, -⟩ := OS.len_le hown.out
       have hck := hid (manifest_Check _ ps wr hrp.out)
       rw [← hz0'] at hdd hd0
       clear hz0' hmod hown hrd
       generalize partsFault ps = f at *
       by_cases hf : f = 0
       · subst hf
         have hz := hid (hd0 rfl)
         clear hdd hd0
         go_wp2_with fail
         ((with_reducible refine hck.out.mono ?_); rintro e w9 ⟨rfl, b9⟩)
         have hb9 := hid (hb.out.trans (b9.mono (by have := hb.out.size; have := hB.out; omega)))
         have hrp9 := hid (hrp.out.mono EPart.stable b9)
         clear b9
         go_wp2_with fail
         go_ret2
         exact dpost_ok hz.out hrp9.out (hB.out.symm ▸ hb9.out)
       have hz := hid (hdd hf)
       have tf : (f != 0) = true := by simp [hf]
       replace hf := hid hf
       clear hdd hd0
       go_wp2_with fail
       ((with_reducible refine hck.out.mono ?_); rintro e w9 ⟨rfl, b9⟩)
       have hb9 := hid (hb.out.trans (b9.mono (by have := hb.out.size; have := hB.out; omega)))
       clear b9
       go_wp2_with fail
       go_ret2
       exact dpost_no hz.out (hB.out.symm ▸ hb9.out)
     have hz := hid (hz0'.trans (dec_end_more hl0))
     have hl1 : 0 < l.length := List.length_pos_iff.2 hl0
     have hq0 : decide (0 < l.length) = true := by simp; omega
     clear hz0' hmod hown hrd hl0
     go_wp2_with fail
     go_ret2
     exact dpost_no hz.out (hB.out.symm ▸ hb.out)
   rw [if_pos he3] at hzz
   have hn0 := hzero he3
   subst hn0
   have t3 : (e3 != 0) = true := by simp [he3]
   have t4 : (e3 == 0) = false := by simp [he3]
   replace hzz := hid hzz
   replace he3 := hid he3
   clear hzero hrange hrl
   go_wp2_with fail
   go_loopw [8, 37] (fun o i wr => o = .slice none 0 0 ∧ i = .int .i64 0 ∧ wr = w3) (fun _ _ _ => 0)
   case atStart => exact ⟨rfl, rfl, rfl⟩
   obtain ⟨rfl, rfl, rfl⟩ := hrel
   go_wp2_with fail
   go_quiet (fail)
   go_wp2_with fail
   go_ret2
   exact dpost_no hzz.out (hB.out.symm ▸ below_drewN hbW.out _)
 have hcp := hid (bytes_CutPrefix_no _ _ b [65, 77, 49] _ hR1 hsr hs)
 have hz := hid (dec_sign hsz hs)
 clear hat hno hs hsr hR1
 go_enter Tryz.func68, Tryz.ntmps68
 go_wp2_with fail
 ((with_reducible refine hcp.out.mono ?_); rintro e w1 ⟨rfl, rfl⟩)
 go_wp2_with fail
 go_ret2
 exact dpost_no hz.out hbA
theorem box3_0 {w : World} {q : Nat} {a b c u : Value} {T : TypeId} (h : w.heap[q]? = some (.cells #[a, b, c] T (0, 0))) : (w.setCell ⟨q, 0, none⟩ u).heap[q]? = some (.cells #[u, b, c] T (0, 0)) := by
 exact qtzde_4
theorem box3_1 {w : World} {q : Nat} {a b c u : Value} {T : TypeId} (h : w.heap[q]? = some (.cells #[a, b, c] T (0, 0))) : (w.setCell ⟨q, 1, none⟩ u).heap[q]? = some (.cells #[a, u, c] T (0, 0)) := by
 exact qtzde_4
theorem box3_2 {w : World} {q : Nat} {a b c u : Value} {T : TypeId} (h : w.heap[q]? = some (.cells #[a, b, c] T (0, 0))) : (w.setCell ⟨q, 2, none⟩ u).heap[q]? = some (.cells #[a, b, u] T (0, 0)) := by
 exact qtzde_4
theorem box3 {w : World} {b : Nat} {c0 c1 c2 : Value} {T : TypeId} (h : w.heap[b]? = some (.cells #[c0, c1, c2] T (0, 0))) : w.cell? ⟨b, 0, none⟩ = some c0 ∧ w.cell? ⟨b, 1, none⟩ = some c1 ∧ w.cell? ⟨b, 2, none⟩ = some c2 ∧
 w.frozen? ⟨b, 0, none⟩ = false ∧ w.frozen? ⟨b, 1, none⟩ = false ∧ w.frozen? ⟨b, 2, none⟩ = false :=
 ⟨cell_of_row _ _ 0 _ _ _ h, cell_of_row _ _ 1 _ _ _ h, cell_of_row _ _ 2 _ _ _ h, Lib.frozen_of_heap h 0, Lib.frozen_of_heap h 1, Lib.frozen_of_heap h 2⟩
end Go.Proofs.YtpkpgehiplhkpaaGreat
