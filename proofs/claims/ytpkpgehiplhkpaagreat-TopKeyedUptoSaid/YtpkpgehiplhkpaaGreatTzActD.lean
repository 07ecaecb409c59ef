import Derived.Test.YtpkpgehiplhkpaaGreatTzAct
import Derived.Test.YtpkpgehiplhkpaaGreatTzDe
import Derived.Handy
namespace Go.Proofs.YtpkpgehiplhkpaaGreat
open Go.RowKit
theorem qactd_1 {P : Prop} (h : P := by
 (try simp only [Exit.inBlock, Exit.then])
 refine bodyPost_ret (by simp [results, Tryz.results32, go_sem, k0, k1]; try rfl) rfl ?_
 exact ad_no hz.out hb9) : P := h
def decAct (b : List UInt8) : ByteArray × List Part × Int :=
 if 2000 < b.length then (⟨#[]⟩, [], 1)
 else if b.take 3 ≠ [65, 65, 49] then (⟨#[]⟩, [], 3)
 else if (readText (b.drop 3)).2.2 ≠ 0 then (⟨#[]⟩, [], (readText (b.drop 3)).2.2)
 else if (decParts (readText (b.drop 3)).2.1).2 ≠ 0 then (⟨#[]⟩, [], (decParts (readText (b.drop 3)).2.1).2)
 else if actFault (readText (b.drop 3)).1 (decParts (readText (b.drop 3)).2.1).1 ≠ 0 then (⟨#[]⟩, [], actFault (readText (b.drop 3)).1 (decParts (readText (b.drop 3)).2.1).1)
 else ((readText (b.drop 3)).1, (decParts (readText (b.drop 3)).2.1).1, 0)
theorem da_size {b : List UInt8} (h : 2000 < b.length) : decAct b = (⟨#[]⟩, [], 1) := by unfold decAct; rw [if_pos h]
theorem da_sign {b : List UInt8} (h : ¬ 2000 < b.length) (h2 : b.take 3 ≠ [65, 65, 49]) : decAct b = (⟨#[]⟩, [], 3) := by unfold decAct; rw [if_neg h, if_pos h2]
theorem da_text {b r : List UInt8} {s : ByteArray} {e : Int} (h : ¬ 2000 < b.length) (h2 : b.take 3 = [65, 65, 49]) (h3 : readText (b.drop 3) = (s, r, e)) (he : e ≠ 0) : decAct b = (⟨#[]⟩, [], e) := by
 unfold decAct; rw [if_neg h, if_neg (not_not_intro h2), h3, if_pos he]
theorem da_parts {b r : List UInt8} {s : ByteArray} {l : List Part} {e : Int} (h : ¬ 2000 < b.length) (h2 : b.take 3 = [65, 65, 49]) (h3 : readText (b.drop 3) = (s, r, 0)) (h4 : decParts r = (l, e)) (he : e ≠ 0) : decAct b = (⟨#[]⟩, [], e) := by
 unfold decAct; rw [if_neg h, if_neg (not_not_intro h2), h3]; simp only; rw [if_neg (by simp), h4, if_pos he]
theorem da_rest {b r : List UInt8} {s : ByteArray} {l : List Part} (h : ¬ 2000 < b.length) (h2 : b.take 3 = [65, 65, 49]) (h3 : readText (b.drop 3) = (s, r, 0)) (h4 : decParts r = (l, 0)) :
 decAct b = if actFault s l ≠ 0 then (⟨#[]⟩, [], actFault s l) else (s, l, 0) := by
 unfold decAct; rw [if_neg h, if_neg (not_not_intro h2), h3]; simp only; rw [if_neg (by simp), h4]; simp only; rw [if_neg (by simp)]
def ADPost (b : List UInt8) (w : World) (e : Ending) (w' : World) : Prop :=
 ∃ v, e = .returned (.tuple #[.agg #[.string (decAct b).1, v], .int .i64 (decAct b).2.2]) ∧ RP w' v (decAct b).2.1 ∧ Below w.heap.size w w'
theorem ad_no {b : List UInt8} {n : Int} {w w' : World} (h : decAct b = (⟨#[]⟩, [], n)) (hb : Below w.heap.size w w') : ADPost b w (.returned (.tuple #[.agg #[.string ⟨#[]⟩, .slice none 0 0], .int .i64 n])) w' :=
 ⟨.slice none 0 0, by rw [h], by rw [h]; exact RS.nil, hb⟩
theorem ad_ok {b : List UInt8} {s : ByteArray} {l : List Part} {v : Value} {w w' : World} (h : decAct b = (s, l, 0)) (hr : RP w' v l) (hb : Below w.heap.size w w') : ADPost b w (.returned (.tuple #[.agg #[.string s, v], .int .i64 0])) w' :=
 ⟨v, by rw [h], by rw [h]; exact hr, hb⟩
theorem signA_reads (w : World) (T : TypeId) : RB (w.alloc (.cells #[.int .u8 65, .int .u8 65, .int .u8 49] T (3, 4))) (.slice (some ⟨w.heap.size, 0, none⟩) 3 3) [65, 65, 49] := by
 refine ⟨_, 3, rfl, by simp, by simp [maxLen], by simp, fun h => by simp at h, fun k x hk => ⟨w.heap.size, 0, rfl, by simp, ?_⟩⟩
 unfold EU8
 rw [cell_of_row _ _ _ _ _ _ (heap_alloc_new w _)]
 rcases k with _ | _ | _ | k <;> simp at hk <;> subst hk <;> rfl
theorem box2f {w : World} {b : Nat} {c0 c1 : Value} {T : TypeId} (h : w.heap[b]? = some (.cells #[c0, c1] T (0, 0))) : w.cell? ⟨b, 0, none⟩ = some c0 ∧ w.cell? ⟨b, 1, none⟩ = some c1 ∧
 w.frozen? ⟨b, 0, none⟩ = false ∧ w.frozen? ⟨b, 1, none⟩ = false :=
 ⟨cell_of_row _ _ 0 _ _ _ h, cell_of_row _ _ 1 _ _ _ h, frozen_heap h 0, frozen_heap h 1⟩
theorem box2_set {w : World} {q : Nat} {a b u0 u1 : Value} {T : TypeId} (h : w.heap[q]? = some (.cells #[a, b] T (0, 0))) : ((w.setCell ⟨q, 0, none⟩ u0).setCell ⟨q, 1, none⟩ u1).heap[q]? = some (.cells #[u0, u1] T (0, 0)) := by
 simp [World.setCell, Array.getElem?_modify, h]
theorem rp_box {w : World} {q o : Nat} {x u : Value} {s0 : ByteArray} {T : TypeId} {v : Value} {l : List Part} (h : RP w v l) (hq : w.heap[q]? = some (.cells #[.string s0, u] T (0, 0))) (hu : ∀ s, u ≠ .string s) : RP (w.setCell ⟨q, o, none⟩ x) v l := by
 obtain ⟨a, c, rfl, h1, h2, h3, h4, h5⟩ := h
 refine ⟨a, c, rfl, h1, h2, h3, h4, fun k y hk => ?_⟩
 obtain ⟨b, off, rfl, hlt, he⟩ := h5 k y hk
 refine ⟨b, off, rfl, by simpa [World.setCell] using hlt, ?_⟩
 have hne : b ≠ q := by
  rintro rfl
  obtain ⟨e0, e1, -⟩ := he
  rw [cell_of_row _ _ _ _ _ _ hq] at e0 e1
  rcases ho : off + k * 3 with _ | _ | n
  · rw [ho] at e1
    simp at e1
    exact hu _ e1
  · rw [ho] at e0
    simp at e0
    exact hu _ e0
  rw [ho] at e0
  simp at e0
 unfold EPart at he ⊢
 rw [World.cell?_of_block (w := w) (Below.heap_setCell _ _ _ _ hne), World.cell?_of_block (w := w) (Below.heap_setCell _ _ _ _ hne), World.cell?_of_block (w := w) (Below.heap_setCell _ _ _ _ hne)]
 exact he
theorem box2_0 {w : World} {q : Nat} {a b u0 : Value} {T : TypeId} (h : w.heap[q]? = some (.cells #[a, b] T (0, 0))) : (w.setCell ⟨q, 0, none⟩ u0).heap[q]? = some (.cells #[u0, b] T (0, 0)) := by
 simp [World.setCell, Array.getElem?_modify, h]
set_option maxRecDepth 100000 in
set_option maxHeartbeats 1000000 in
theorem action_Decode (v : Value) (b : List UInt8) (w : World) (h : RB w v b) : Calls Tryz.prog 32 #[v] w (ADPost b w) := by
 have hR := hid h
 obtain ⟨a, c, rfl, hlc, hcm, hre, hno, hat⟩ := h
 unfold maxLen at hcm
 clear hat hno
 by_cases hsz : 2000 < b.length
 · have hz := hid (da_size hsz)
   have q : decide (2000 < (b.length : Int)) = true := by simp; omega
   go_enter Tryz.func32, Tryz.ntmps32
   go_wp2_with fail
   go_returns
   exact ad_no hz.out (b_alloc (Below.refl _ _) _)
 have q : decide (2000 < (b.length : Int)) = false := by simp; omega
 have kc := Lib.run_convert_bytes_const (P := Tryz.prog) (w.alloc (Obj.cells #[.string ⟨#[]⟩, .slice none 0 0] 82)) 41 5 #[.int .u8 65, .int .u8 65, .int .u8 49] 3 3 Tryz.underlying41 Tryz.underlying5
 rw [show (w.alloc (Obj.cells #[.string ⟨#[]⟩, .slice none 0 0] 82)).heap.size = w.heap.size + 1 by simp] at kc
 obtain ⟨w0, hw0⟩ : ∃ w0 : World, w0 = w.alloc (Obj.cells #[.string ⟨#[]⟩, .slice none 0 0] 82) := ⟨_, rfl⟩
 have hb0 : Below w.heap.size w w0 := by rw [hw0]; exact b_alloc (Below.refl _ _) _
 have hq0 : w0.heap[w.heap.size]? = some (.cells #[.string ⟨#[]⟩, .slice none 0 0] 82 (0, 0)) := by rw [hw0]; exact heap_alloc_new w _
 have hs0 : w0.heap.size = w.heap.size + 1 := by rw [hw0]; simp
 have hsr := signA_reads w0 5
 rw [hs0] at hsr
 have hb1 := b_alloc hb0 (Obj.cells #[.int .u8 65, .int .u8 65, .int .u8 49] 5 (3, 4))
 have hq1 := (heap_alloc_old w0 (Obj.cells #[.int .u8 65, .int .u8 65, .int .u8 49] 5 (3, 4)) (Array.getElem?_eq_some_iff.1 hq0).1).trans hq0
 have hR1 := hR.out.mono EU8.stable hb1
 by_cases hs : b.take 3 = [65, 65, 49]
 · have hb3 : 3 ≤ b.length := by
    have := congrArg List.length hs
    rw [List.length_take] at this
    simp at this; omega
   have hcp := bytes_CutPrefix_yes _ _ b [65, 65, 49] _ hR1 hsr hs
   have hrr := behind_reads hR1 3 hb3
   rw [behind_slice] at hrr hcp
   rw [show ([65, 65, 49] : List UInt8).length = 3 from rfl] at hcp
   generalize (if c = 3 then a else Option.map (fun x => x.add (3 * 1)) a) = A at *
   have f1 := hid fun w (g : RB w (.slice A (b.length - 3) (c - 3)) (b.drop 3)) => wire_ReadText _ _ w g
   unfold TextPost at f1
   have z1 := hid fun s r e (h3 : readText (b.drop 3) = (s, r, e)) (he : e ≠ 0) => da_text hsz hs h3 he
   have z2 := hid fun s r l e (h3 : readText (b.drop 3) = (s, r, 0)) (h4 : decParts r = (l, e)) (he : e ≠ 0) => da_parts hsz hs h3 h4 he
   have z3 := hid fun s r l (h3 : readText (b.drop 3) = (s, r, 0)) (h4 : decParts r = (l, 0)) => da_rest hsz hs h3 h4
   have zs := hid fun s r (h3 : readText (b.drop 3) = (s, r, 0)) => readText_size h3
   obtain ⟨dr, hdr⟩ : ∃ dr, dr = decAct b := ⟨_, rfl⟩
   generalize ht : readText (b.drop 3) = t at *
   obtain ⟨s, r, e⟩ := t
   simp only at f1
   replace hcp := hid hcp
   replace hrr := hid hrr
   rw [hw0] at hcp hb1 hq1 hrr
   replace hb1 := hid hb1
   replace hq1 := hid hq1
   clear hsr hR1 hs ht hs0 hw0 hb0 hq0 w0
   go_enter Tryz.func32, Tryz.ntmps32
   go_wp2_with fail
   ((with_reducible refine hcp.out.mono ?_); rintro e1 w1 ⟨rfl, rfl⟩)
   clear hcp kc
   generalize (w.alloc (Obj.cells #[.string ⟨#[]⟩, .slice none 0 0] 82)).alloc (Obj.cells #[.int .u8 65, .int .u8 65, .int .u8 49] 5 (3, 4)) = w1 at *
   have hl1 := (Array.getElem?_eq_some_iff.1 hq1.out).1
   go_wp2_with fail
   ((with_reducible refine (f1.out _ hrr.out).mono ?_); rintro e2 w2 ⟨v2, rfl, r2, b2⟩)
   have hq2 := hid ((b2.block w.heap.size hl1).trans hq1.out)
   have hb2 := hid (b_call hb1.out b2)
   have hl2 := (Array.getElem?_eq_some_iff.1 hq2.out).1
   obtain ⟨x0, x1, y0, y1⟩ := box2f hq2.out
   clear hq1 hl1 b2 hb1
   by_cases he : e = 0
   · subst he
     have f2 := hid fun w (g : RB w v2 r) => manifest_Decode v2 r w g
     unfold DecPost at f2
     have hsz2 := (zs.out s r rfl).1
     replace z2 := hid fun l e (h4 : decParts r = (l, e)) (he : e ≠ 0) => z2.out s r l e rfl h4 he
     replace z3 := hid fun l (h4 : decParts r = (l, 0)) => z3.out s r l rfl h4
     clear z1 zs
     generalize hp : decParts r = p at *
     obtain ⟨l, e⟩ := p
     simp only at f2
     clear hp
     go_wp2_with fail
     ((with_reducible refine (f2.out _ r2).mono ?_); rintro e3 w3 ⟨v3, rfl, r3, b3⟩)
     clear x0 x1 y0 y1
     have hq3 := hid ((b3.block w.heap.size hl2).trans hq2.out)
     have hb3 := hid (b_call hb2.out b3)
     have hl3 := (Array.getElem?_eq_some_iff.1 hq3.out).1
     obtain ⟨x0, x1, y0, y1⟩ := box2f hq3.out
     clear hq2 hl2 b3 hb2 r2
     by_cases he : e = 0
     · subst he
       have hz := z3.out l rfl
       clear z2 z3
       have f3 := hid fun w (g : RP w v3 l) => action_Check s v3 l w (by omega) g
       obtain ⟨a3, c3, rfl, -⟩ := id r3
       replace r3 := hid r3
       generalize actFault s l = z at *
       replace hz := hid hz
       go_wp2_with fail
       ((with_reducible refine (f3.out _ (r3.out.mono EPart.stable (b_alloc (Below.refl _ _) _))).mono ?_); rintro e4 w4 ⟨rfl, b4⟩)
       have hqC := hid ((b4.block w3.heap.size (by simp)).trans (heap_alloc_new w3 _))
       have hq4 := hid ((b4.block w.heap.size (by simp; omega)).trans ((heap_alloc_old w3 _ hl3).trans hq3.out))
       have hb4 := hid (b_call (b_alloc hb3.out _) b4)
       have r4 := hid ((r3.out.mono EPart.stable (b_alloc (Below.refl _ _) _)).mono EPart.stable b4)
       clear x0 x1 y0 y1
       obtain ⟨x0, x1, y0, y1⟩ := box2f hq4.out
       obtain ⟨p0, p1, -, -⟩ := box2f hqC.out
       clear hq3 hl3 b4 hb3 r3
       by_cases he : z = 0
       · subst he
         replace hz := hid (hz.out.trans (if_neg (by simp)))
         go_wp2_with fail
         have hq9 := box2_set (u0 := .string s) (u1 := .slice a3 l.length c3) hq4.out
         have hb9 := b_set (b_set hb4.out (p := ⟨w.heap.size, 0, none⟩) (Nat.le_refl _) (.string s)) (p := ⟨w.heap.size, 1, none⟩) (Nat.le_refl _) (.slice a3 l.length c3)
         have r9 := rp_box (o := 1) (x := .slice a3 l.length c3) (rp_box (o := 0) (x := .string s) r4.out hq4.out (fun _ e => by cases e)) (box2_0 hq4.out) (fun _ e => by cases e)
         obtain ⟨k0, k1, -, -⟩ := box2f hq9
         generalize (w4.setCell ⟨w.heap.size, 0, none⟩ (.string s)).setCell ⟨w.heap.size, 1, none⟩ (.slice a3 l.length c3) = w9 at *
         (try simp only [Exit.inBlock, Exit.then])
         refine bodyPost_ret (by simp [results, Tryz.results32, go_sem, k0, k1]; try rfl) rfl ?_
         exact ad_ok hz.out r9 hb9
       have t : (z != 0) = true := by simp [he]
       replace hz := hid (hz.out.trans (if_pos he))
       replace he := hid he
       go_wp2_with fail
       have hq9 := box2_set (u0 := .string ⟨#[]⟩) (u1 := .slice none 0 0) hq4.out
       have hb9 := b_set (b_set hb4.out (p := ⟨w.heap.size, 0, none⟩) (Nat.le_refl _) (.string ⟨#[]⟩)) (p := ⟨w.heap.size, 1, none⟩) (Nat.le_refl _) (.slice none 0 0)
       obtain ⟨k0, k1, -, -⟩ := box2f hq9
       generalize (w4.setCell ⟨w.heap.size, 0, none⟩ (.string ⟨#[]⟩)).setCell ⟨w.heap.size, 1, none⟩ (.slice none 0 0) = w9 at *
       exact qactd_1
     have hz := hid (z2.out l e rfl he)
     have t : (e != 0) = true := by simp [he]
     clear z2 z3
     replace he := hid he
     go_wp2_with fail
     have hq9 := box2_set (u0 := .string ⟨#[]⟩) (u1 := .slice none 0 0) hq3.out
     have hb9 := b_set (b_set hb3.out (p := ⟨w.heap.size, 0, none⟩) (Nat.le_refl _) (.string ⟨#[]⟩)) (p := ⟨w.heap.size, 1, none⟩) (Nat.le_refl _) (.slice none 0 0)
     obtain ⟨k0, k1, -, -⟩ := box2f hq9
     generalize (w3.setCell ⟨w.heap.size, 0, none⟩ (.string ⟨#[]⟩)).setCell ⟨w.heap.size, 1, none⟩ (.slice none 0 0) = w9 at *
     exact qactd_1
   have hz := hid (z1.out s r e rfl he)
   have t : (e != 0) = true := by simp [he]
   clear z1 z2 z3 zs
   replace he := hid he
   go_wp2_with fail
   have hq9 := box2_set (u0 := .string ⟨#[]⟩) (u1 := .slice none 0 0) hq2.out
   have hb9 := b_set (b_set hb2.out (p := ⟨w.heap.size, 0, none⟩) (Nat.le_refl _) (.string ⟨#[]⟩)) (p := ⟨w.heap.size, 1, none⟩) (Nat.le_refl _) (.slice none 0 0)
   obtain ⟨k0, k1, -, -⟩ := box2f hq9
   generalize (w2.setCell ⟨w.heap.size, 0, none⟩ (.string ⟨#[]⟩)).setCell ⟨w.heap.size, 1, none⟩ (.slice none 0 0) = w9 at *
   exact qactd_1
 have hz := hid (da_sign hsz hs)
 have hcp := hid (bytes_CutPrefix_no _ _ b [65, 65, 49] _ hR1 hsr hs)
 rw [hw0] at hcp hq1 hb1
 replace hq1 := hid hq1
 replace hb1 := hid hb1
 clear hsr hR1 hs hs0 hw0 hb0 hq0 w0
 go_enter Tryz.func32, Tryz.ntmps32
 go_wp2_with fail
 ((with_reducible refine hcp.out.mono ?_); rintro e w1 ⟨rfl, rfl⟩)
 clear hcp kc
 generalize (w.alloc (Obj.cells #[.string ⟨#[]⟩, .slice none 0 0] 82)).alloc (Obj.cells #[.int .u8 65, .int .u8 65, .int .u8 49] 5 (3, 4)) = w1 at *
 obtain ⟨x0, x1, y0, y1⟩ := box2f hq1.out
 go_wp2_with fail
 have hq9 := box2_set (u0 := .string ⟨#[]⟩) (u1 := .slice none 0 0) hq1.out
 have hb9 := b_set (b_set hb1.out (p := ⟨w.heap.size, 0, none⟩) (Nat.le_refl _) (.string ⟨#[]⟩)) (p := ⟨w.heap.size, 1, none⟩) (Nat.le_refl _) (.slice none 0 0)
 obtain ⟨k0, k1, -, -⟩ := box2f hq9
 generalize (w1.setCell ⟨w.heap.size, 0, none⟩ (.string ⟨#[]⟩)).setCell ⟨w.heap.size, 1, none⟩ (.slice none 0 0) = w9 at *
 exact qactd_1
end Go.Proofs.YtpkpgehiplhkpaaGreat
