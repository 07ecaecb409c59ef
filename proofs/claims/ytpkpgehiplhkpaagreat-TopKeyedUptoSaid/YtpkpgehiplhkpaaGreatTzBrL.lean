import Derived.Test.YtpkpgehiplhkpaaGreatTzChn
namespace Go.Proofs.YtpkpgehiplhkpaaGreat
open Go.RowKit
theorem qzkep_5 {P : Prop} (h : P := by omega) : P := h
theorem qzkep_4 {P : Prop} (h : P := by first | omega | (show _ ≤ _; omega) | (simp; omega) | (simp <;> fail) | fail) : P := h
theorem qzkep_3 {P : Prop} (h : P := by first | omega | (simp; omega) | (simp <;> fail) | fail) : P := h
theorem qzkep_2 {P : Prop} (h : P := by ((repeat (first | with_reducible exact hk1.out | (with_reducible apply box4_0) | (with_reducible apply box4_1) | (with_reducible apply box4_2) | (with_reducible apply box4_3) | (with_reducible apply box3_0) | (with_reducible apply box3_1) | (with_reducible apply box3_2) | (with_reducible refine heap_put _ _ _ (by first | rfl | (simp <;> fail) | fail)) | (with_reducible refine alloc_keep ?_) | (with_reducible refine box_other ?_ (by first | omega | (simp; omega) | (simp <;> fail) | fail)) | (with_reducible refine stays b3 ?_) | (with_reducible refine heap_drewn ?_) | fail)) <;> fail)) : P := h
theorem qzkep_1 {P : Prop} (h : P := by
 obtain ⟨m0, m1, m2, m3⟩ := box4f hp9
 obtain ⟨n0, n1, n2, -⟩ := box3f hd9
 unfold World.box4 World.box3 at m0 m1 m2 m3 n0 n1 n2 hb9
 (try simp only [Exit.inBlock, Exit.then])
 refine bodyPost_ret (by simp [results, Tryz.results209, go_sem, m0, m1, m2, m3, n0, n1, n2]; try rfl) rfl ?_
 exact keep_ok hkk.out.1 hkk.out.2 rl9 re9 rt9 os9 hb9) : P := h
noncomputable def keptB (ph : Int) (bs : List Blob) (l : List ByteArray) : List Blob := if ph = 2 then marked bs (comesOf bs l) else bs
def keptG (ph : Int) (gy l : List ByteArray) : List ByteArray := if ph = 1 then addedL gy l else gy
def KeepRes (bs : List Blob) (es : List Entry) (r t ph : Int) (gy : List ByteArray) (pl : ByteArray) (w : World) (e : Ending) (w' : World) : Prop :=
 ∃ v1 v2 gv, e = .returned (.tuple #[.agg #[v1, v2, .int .i64 r, .int .i64 t], .agg #[.int .i64 ph, gv, .string pl]]) ∧ RBl w' v1 bs ∧ RE w' v2 es ∧ RT w' gv gy ∧ OS 9 1 cStr w' w.heap.size gv gy ∧ Below w.heap.size w w'
theorem keep_ok {bs B : List Blob} {es : List Entry} {r t ph : Int} {gy G : List ByteArray} {pl : ByteArray} {w w' : World} {v1 v2 gv : Value} (hB : B = bs) (hG : G = gy) (h1 : RBl w' v1 B) (h2 : RE w' v2 es) (h3 : RT w' gv G) (h4 : OS 9 1 cStr w' w.heap.size gv G) (hb : Below w.heap.size w w') :
 KeepRes bs es r t ph gy pl w (.returned (.tuple #[.agg #[v1, v2, .int .i64 r, .int .i64 t], .agg #[.int .i64 ph, gv, .string pl]])) w' := by
 subst hB hG
 exact ⟨_, _, _, rfl, h1, h2, h3, h4, hb⟩
theorem kept_1 {bs : List Blob} {gy l : List ByteArray} : bs = keptB 1 bs l ∧ addedL gy l = keptG 1 gy l := ⟨(if_neg (by decide)).symm, (if_pos rfl).symm⟩
theorem kept_2 {bs : List Blob} {gy l L : List ByteArray} (h : Comes bs l L) : marked bs L = keptB 2 bs l ∧ gy = keptG 2 gy l := ⟨by rw [h.eq]; exact (if_pos rfl).symm, (if_neg (by decide)).symm⟩
theorem kept_0 {ph : Int} {bs : List Blob} {gy l : List ByteArray} (h1 : ph ≠ 1) (h2 : ph ≠ 2) : bs = keptB ph bs l ∧ gy = keptG ph gy l := ⟨(if_neg h2).symm, (if_neg h1).symm⟩
def KpMid (B : Nat) (w1 : World) (ph : Int) (gy : List ByteArray) (pl : ByteArray) (s8 : Value) (wx : World) : Prop :=
 ∃ (q : Nat) (e3 : Option Addr) (k3 : Nat), s8 = .pointer (some ⟨q, 0, none⟩) ∧ w1.heap.size ≤ q ∧ wx.heap[q]? = some (.cells #[.int .i64 ph, .slice e3 gy.length k3, .string pl] 32 (0, 0)) ∧
   OS 9 1 cStr wx B (.slice e3 gy.length k3) gy ∧ Below w1.heap.size w1 wx
set_option maxRecDepth 100000 in
set_option maxHeartbeats 4000000 in
theorem barrier_keep (v u gv lv : Value) (bs : List Blob) (es : List Entry) (r t ph : Int) (pl : ByteArray) (gy l : List ByteArray) (w : World) (h : RBl w v bs) (g : RE w u es) (hg : RT w gv gy) (hl : RT w lv l) (hb : (gy.length + l.length) * 16 ≤ 140737488351232) :
 Calls Tryz.prog 209 #[.agg #[v, u, .int .i64 r, .int .i64 t], .agg #[.int .i64 ph, gv, .string pl], lv] w (KeepRes (keptB ph bs l) es r t ph (keptG ph gy l) pl w) := by
 have hR := hid h
 have hE := hid g
 have hG := hid hg
 have hL := hid hl
 have hgs := hid (rt_sizes hg)
 have hgb := hid (rt_bound hg)
 have hsz := hid (show ∀ s ∈ gy ++ l, s.size ≤ 140737488351232 from fun s hs => (List.mem_append.1 hs).elim (rt_sizes hg s) (rt_sizes hl s))
 obtain ⟨a, c, rfl, -⟩ := h
 obtain ⟨a2, c2, rfl, -⟩ := g
 obtain ⟨ga, gc, rfl, hgl, hgm, -⟩ := hg
 obtain ⟨la, lc, rfl, -⟩ := hl
 unfold maxLen at hgm
 obtain ⟨w1, hw1⟩ : ∃ w1 : World, w1 = (((w.alloc (Obj.cells #[.slice a bs.length c, .slice a2 es.length c2, .int .i64 r, .int .i64 t] 29)).alloc (Obj.cells #[.int .i64 ph, .slice ga gy.length gc, .string pl] 32)).alloc (Obj.cells #[.slice none 0 0, .slice none 0 0, .int .i64 0, .int .i64 0] 29)).alloc (Obj.cells #[.int .i64 0, .slice none 0 0, .string ⟨#[]⟩] 32) := ⟨_, rfl⟩
 have hb1 := hid (show Below w.heap.size w w1 by rw [hw1]; exact b_alloc (b_alloc (b_alloc (b_alloc (Below.refl _ _) _) _) _) _)
 have hq1 := hid (show w1.heap[w.heap.size]? = some (.cells #[.slice a bs.length c, .slice a2 es.length c2, .int .i64 r, .int .i64 t] 29 (0, 0)) by
  rw [hw1]
  exact (heap_alloc_old _ _ (by first | (simp; done) | (simp; omega))).trans ((heap_alloc_old _ _ (by first | (simp; done) | (simp; omega))).trans ((heap_alloc_old _ _ (by simp)).trans (heap_alloc_new w _))))
 have hk1 := hid (show w1.heap[w.heap.size + 1]? = some (.cells #[.int .i64 ph, .slice ga gy.length gc, .string pl] 32 (0, 0)) by
  rw [hw1]
  exact (heap_alloc_old _ _ (by first | (simp; done) | (simp; omega))).trans ((heap_alloc_old _ _ (by simp)).trans (heap_put _ _ _ (by simp))))
 have hp1 := hid (show w1.heap[w.heap.size + 1 + 1]? = some (.cells #[.slice none 0 0, .slice none 0 0, .int .i64 0, .int .i64 0] 29 (0, 0)) by
  rw [hw1]
  exact (heap_alloc_old _ _ (by simp)).trans (heap_put _ _ _ (by simp)))
 have hd1 := hid (show w1.heap[w.heap.size + 1 + 1 + 1]? = some (.cells #[.int .i64 0, .slice none 0 0, .string ⟨#[]⟩] 32 (0, 0)) by
  rw [hw1]
  exact heap_put _ _ _ (by simp))
 have hs1 : w.heap.size + 4 = w1.heap.size := by rw [hw1]; simp
 replace hs1 := hid (Nat.le_of_eq hs1)
 obtain ⟨x0, x1, x2, x3⟩ := box4f hq1.out
 obtain ⟨y0, y1, y2, -⟩ := box3f hk1.out
 go_enter Tryz.func209, Tryz.ntmps209
 go_upto_region 1 with fail
 rw [← hw1]
 clear hw1
 go_cut [8] from 8 (fun s8 wx => KpMid w.heap.size w1 ph gy pl s8 wx)
 case first =>
  have mkS := hid (fun (W : World) (h : W.heap[w.heap.size + 1]? = some (.cells #[.int .i64 ph, .slice ga gy.length gc, .string pl] 32 (0, 0))) => And.intro (box3f h).1 (And.intro (box3f h).2.1 (box3f h).2.2.1))
  have lk1 := heap_lt hk1.out
  have lk0 : w.heap.size < w1.heap.size := by omega
  go_region_held3 (fun w' => w'.cell? ⟨w.heap.size + 1, 0, none⟩ = some (.int .i64 ph) ∧ w'.cell? ⟨w.heap.size + 1, 1, none⟩ = some (.slice ga gy.length gc) ∧ w'.cell? ⟨w.heap.size + 1, 2, none⟩ = some (.string pl))
   (first
     | (refine mkS.out _ ?_; ((repeat (first | with_reducible exact hk1.out | (with_reducible apply box4_0) | (with_reducible apply box4_1) | (with_reducible apply box4_2) | (with_reducible apply box4_3) | (with_reducible apply box3_0) | (with_reducible apply box3_1) | (with_reducible apply box3_2) | (with_reducible refine heap_put _ _ _ (by first | rfl | (simp <;> fail) | fail)) | (with_reducible refine alloc_keep ?_) | (with_reducible refine box_other ?_ qzkep_3) | (with_reducible refine stays b3 ?_) | (with_reducible refine heap_drewn ?_) | fail)) <;> fail))
     | fail)
   ((first
     | ((with_reducible refine (slices_Clone_str _ gy _ (hG.out.mono EStr.stable (by ((repeat (first | with_reducible exact hb1.out | exact Below.refl _ _ | (with_reducible refine Below.alloc ?_ qzkep_3 _) | (with_reducible refine Below.setCell ?_ qzkep_4 _) | (with_reducible refine Below.drew ?_) | fail)) <;> fail)))).mono ?_)
        rintro e w3 ⟨v3, rfl, o3, b3⟩
        have b13 : Below w1.heap.size w1 w3 := b_call (by ((repeat (first | exact Below.refl _ _ | (with_reducible refine Below.alloc ?_ qzkep_3 _) | (with_reducible refine Below.setCell ?_ qzkep_4 _) | (with_reducible refine Below.drew ?_) | fail)) <;> fail)) b3
        have hs3 := b13.size
        have hs3' := b3.size
        (first | (simp only [World.size_alloc, World.size_drew] at hs3'; skip) | skip)
        have o3w : OS 9 1 cStr w3 w.heap.size v3 gy := OS.mono o3 (by have := hb1.out.size; first | omega | (simp; omega))
        (first | (have hz3 : w3.heap[w1.heap.size]? = some (.cells #[.int .i64 0, .slice none 0 0, .string ⟨#[]⟩] 32 (0, 0)) := stays b3 (heap_drewn (heap_alloc_new w1 _)); obtain ⟨z0, z1, z2, f0, f1, f2⟩ := box3f hz3) | skip)
        obtain ⟨e3, k3, rfl, -⟩ := id (OS.len_le o3))
     | fail))
  all_goals
   (go_wp2_with fail
    go_meet
    refine ⟨_, e3, k3, rfl, ?_, ?_, ?_, ?_⟩
    · first | omega | (simp; omega) | (simp <;> fail) | fail
    · ((repeat (first | with_reducible exact hk1.out | (with_reducible apply box4_0) | (with_reducible apply box4_1) | (with_reducible apply box4_2) | (with_reducible apply box4_3) | (with_reducible apply box3_0) | (with_reducible apply box3_1) | (with_reducible apply box3_2) | (with_reducible refine heap_put _ _ _ (by first | rfl | (simp <;> fail) | fail)) | (with_reducible refine alloc_keep ?_) | (with_reducible refine box_other ?_ qzkep_3) | (with_reducible refine stays b3 ?_) | (with_reducible refine heap_drewn ?_) | fail)) <;> fail)
    · ((repeat (first | with_reducible exact o3w | (with_reducible refine OS.alloc ?_ _) | (with_reducible refine OS.atS ?_ qzkep_2) | (with_reducible refine OS.atC ?_ qzkep_2) | fail)) <;> fail)
    · ((repeat (first | with_reducible exact b13 | exact Below.refl _ _ | (with_reducible refine Below.alloc ?_ qzkep_3 _) | (with_reducible refine Below.setCell ?_ qzkep_4 _) | (with_reducible refine Below.drew ?_) | fail)) <;> fail))
 obtain ⟨q8, e3, k3, rfl, hq8, h8, hos, hbx⟩ := hcut
 have hb2 := hid (b_call hb1.out hbx)
 have hq2 := hid (stays hbx hq1.out)
 have hp2 := hid (stays hbx hp1.out)
 have hd2 := hid (stays hbx hd1.out)
 have hq8' : w.heap.size + 4 ≤ q8 := by have := hs1.out; omega
 have hl8 := heap_lt h8
 replace h8 := hid h8
 replace hos := hid hos
 clear x0 x1 x2 x3 y0 y1 y2 hb1 hq1 hp1 hd1 hq8 hs1
 have hk2 := hid (stays hbx hk1.out)
 clear hk1 hbx
 obtain ⟨x0, x1, x2, x3⟩ := box4f hq2.out
 obtain ⟨y0, y1, y2, -⟩ := box3f hk2.out
 have hrL := hid (hL.out.mono EStr.stable hb2.out)
 have hrG := hid (hG.out.mono EStr.stable hb2.out)
 have hrB := hid (hR.out.mono EBlob.stable hb2.out)
 have hrE := hid (hE.out.mono EEntry.stable hb2.out)
 by_cases h1 : ph = 1
 · subst h1
   go_wp2_with fail
   ((with_reducible refine (mark_Add _ _ gy l _ hrG.out hrL.out hb hsz.out).mono ?_); rintro e w5 ⟨v5, rfl, r5, o5, b5⟩)
   have hb5 := hid (b_call hb2.out b5)
   have hq5 := hid (stays b5 hq2.out)
   have hp5 := hid (stays b5 hp2.out)
   have hd5 := hid (stays b5 hd2.out)
   have h85 := hid (stays b5 h8.out)
   have hk5 := hid (stays b5 hk2.out)
   have hw5 := b5.size
   have hrb5 := hid (hrB.out.mono EBlob.stable b5)
   have hre5 := hid (hrE.out.mono EEntry.stable b5)
   have hkk := hid (kept_1 (bs := bs) (gy := gy) (l := l))
   generalize addedL gy l = AL at *
   replace r5 := hid r5
   replace o5 := hid o5
   obtain ⟨va, vc, rfl, -⟩ := id r5.out
   have f1 := frozen_heap h85.out 1
   obtain ⟨c0, c1, c2', -⟩ := box3f h85.out
   have hb6 := hid (b_set (p := ⟨q8, 1, none⟩) hb5.out (show w.heap.size ≤ q8 by omega) (.slice va AL.length vc))
   have hq6 := hid (box_other (q := q8) (o := 1) (u := .slice va AL.length vc) hq5.out qzkep_5)
   have hp6 := hid (box_other (q := q8) (o := 1) (u := .slice va AL.length vc) hp5.out qzkep_5)
   have hd6 := hid (box_other (q := q8) (o := 1) (u := .slice va AL.length vc) hd5.out qzkep_5)
   have hk6 := hid (box_other (q := q8) (o := 1) (u := .slice va AL.length vc) hk5.out qzkep_5)
   have h86 := hid (box3_1 (u := .slice va AL.length vc) h85.out)
   have o6 := hid (OS.other (o := 1) (u := .slice va AL.length vc) (OS.mono o5.out hb2.out.size) h85.out (by decide))
   have rb6 := hid (RS.write hrb5.out (EBlob.writesC _ _ 1 (.slice va AL.length vc) ⟨_, _, _, _, _, _, h85.out⟩))
   have re6 := hid (RS.write hre5.out (EEntry.writesC _ _ 1 (.slice va AL.length vc) ⟨_, _, _, _, _, _, h85.out⟩))
   have bnd := hid (rt_bound r5.out)
   have szs := hid (rt_sizes r5.out)
   clear x0 x1 x2 x3 y0 y1 y2 b5 hb2 hb5 hq2 hq5 hp2 hp5 hd2 hd5 h8 hk2 hk5 hos hrL hrG hrB hrE hrb5 hre5 hG hL hsz hgs hgb r5 o5
   go_upto_region 7 with fail
   clear c0 c1 c2' f1 h85
   generalize w5.setCell ⟨q8, 1, none⟩ (.slice va AL.length vc) = w6 at *
   obtain ⟨x0, x1, x2, x3⟩ := box4f hq6.out
   obtain ⟨y0', y1', y2', -⟩ := box3f hk6.out
   have hnS := hq6.out
   have hnC := h86.out
   have ne1 : w.heap.size ≠ w.heap.size + 1 + 1 := by omega
   have ne2 : w.heap.size ≠ w.heap.size + 1 + 1 + 1 := by omega
   have ne3 : q8 ≠ w.heap.size + 1 + 1 := by omega
   have ne4 : q8 ≠ w.heap.size + 1 + 1 + 1 := by omega
   obtain ⟨y0, y1, y2, y3⟩ := box4f hp6.out
   obtain ⟨z0, z1, z2, -⟩ := box3f hd6.out
   have g0 := frozen_heap hp6.out 0
   have g1 := frozen_heap hp6.out 1
   have g2 := frozen_heap hp6.out 2
   have g3 := frozen_heap hp6.out 3
   have kf0 := frozen_heap hd6.out 0
   have kf1 := frozen_heap hd6.out 1
   have kf2 := frozen_heap hd6.out 2
   have hS := box4f hnS
   have hC := box3f hnC
   go_wp2_with fail
   go_region_held3 (fun w' => w'.cell? ⟨w.heap.size, 0, none⟩ = some (.slice a bs.length c) ∧ w'.cell? ⟨w.heap.size, 1, none⟩ = some (.slice a2 es.length c2) ∧ w'.cell? ⟨w.heap.size, 2, none⟩ = some (.int .i64 r) ∧ w'.cell? ⟨w.heap.size, 3, none⟩ = some (.int .i64 t) ∧ w'.cell? ⟨q8, 0, none⟩ = some (.int .i64 1) ∧ w'.cell? ⟨q8, 1, none⟩ = some (.slice va AL.length vc) ∧ w'.cell? ⟨q8, 2, none⟩ = some (.string pl))
    (first
      | with_reducible exact ⟨hS.1, hS.2.1, hS.2.2.1, hS.2.2.2, hC.1, hC.2.1, hC.2.2.1⟩
      | (have h1 := box4f (heap_drewn (box4_other (q := w.heap.size + 1 + 1) (u0 := .slice a bs.length c) (u1 := .slice a2 es.length c2) (u2 := .int .i64 r) (u3 := .int .i64 t) hnS ne1))
         have h2 := box3f (heap_drewn (box4_other (q := w.heap.size + 1 + 1) (u0 := .slice a bs.length c) (u1 := .slice a2 es.length c2) (u2 := .int .i64 r) (u3 := .int .i64 t) hnC ne3))
         unfold World.box4 at h1 h2
         (try unfold World.box3 at h1 h2)
         with_reducible exact ⟨h1.1, h1.2.1, h1.2.2.1, h1.2.2.2, h2.1, h2.2.1, h2.2.2.1⟩)
      | (have h1 := box4f (heap_drewn (box3_other (q := w.heap.size + 1 + 1 + 1) (u0 := .int .i64 1) (u1 := .slice va AL.length vc) (u2 := .string pl) (box4_other (q := w.heap.size + 1 + 1) (u0 := .slice a bs.length c) (u1 := .slice a2 es.length c2) (u2 := .int .i64 r) (u3 := .int .i64 t) hnS ne1) ne2))
         have h2 := box3f (heap_drewn (box3_other (q := w.heap.size + 1 + 1 + 1) (u0 := .int .i64 1) (u1 := .slice va AL.length vc) (u2 := .string pl) (box4_other (q := w.heap.size + 1 + 1) (u0 := .slice a bs.length c) (u1 := .slice a2 es.length c2) (u2 := .int .i64 r) (u3 := .int .i64 t) hnC ne3) ne4))
         unfold World.box4 at h1 h2
         (try unfold World.box3 at h1 h2)
         with_reducible exact ⟨h1.1, h1.2.1, h1.2.2.1, h1.2.2.2, h2.1, h2.2.1, h2.2.2.1⟩)
      | go_keep
      | fail)
    (fail)
   go_wp2_with fail
   have hbox := (⟨_, _, _, _, _, _, _, _, hp6.out⟩ : ∃ a n c a' n' c' r t, w6.heap[w.heap.size + 1 + 1]? = some (.cells #[.slice a n c, .slice a' n' c', .int .i64 r, .int .i64 t] 29 (0, 0)))
   have hdx := box4_other (q := w.heap.size + 1 + 1) (u0 := .slice a bs.length c) (u1 := .slice a2 es.length c2) (u2 := .int .i64 r) (u3 := .int .i64 t) hd6.out qzkep_5
   have rl9 := ((rb6.out.box4 EBlob.writes hbox a bs.length c a2 es.length c2 r t).box3 EBlob.writesC ⟨_, _, _, _, _, hdx⟩ 1 va AL.length vc pl).mono EBlob.stable (Below.refl _ _).drew
   have re9 := ((re6.out.box4 EEntry.writes hbox a bs.length c a2 es.length c2 r t).box3 EEntry.writesC ⟨_, _, _, _, _, hdx⟩ 1 va AL.length vc pl).mono EEntry.stable (Below.refl _ _).drew
   unfold World.box4 World.box3 at rl9 re9
   have os9 := OS.drew (OS.boxS3 (u0 := .int .i64 1) (u1 := .slice va AL.length vc) (u2 := .string pl) (OS.boxS4 (u0 := .slice a bs.length c) (u1 := .slice a2 es.length c2) (u2 := .int .i64 r) (u3 := .int .i64 t) o6.out hp6.out (by decide)) hdx (by decide))
   have rt9 := reads_str os9 bnd.out szs.out
   unfold World.box4 World.box3 at os9 rt9
   have hp9 := heap_drewn (box3_other (q := w.heap.size + 1 + 1 + 1) (u0 := .int .i64 1) (u1 := .slice va AL.length vc) (u2 := .string pl) (box4_same (u0 := .slice a bs.length c) (u1 := .slice a2 es.length c2) (u2 := .int .i64 r) (u3 := .int .i64 t) hp6.out) qzkep_5)
   have hd9 := heap_drewn (box3_same (u0 := .int .i64 1) (u1 := .slice va AL.length vc) (u2 := .string pl) (box4_other (q := w.heap.size + 1 + 1) (u0 := .slice a bs.length c) (u1 := .slice a2 es.length c2) (u2 := .int .i64 r) (u3 := .int .i64 t) hd6.out qzkep_5))
   have hb9 := (b_box3 (b_box4 hb6.out (q := w.heap.size + 1 + 1) qzkep_5 (.slice a bs.length c) (.slice a2 es.length c2) (.int .i64 r) (.int .i64 t)) (q := w.heap.size + 1 + 1 + 1) qzkep_5 (.int .i64 1) (.slice va AL.length vc) (.string pl)).drew
   exact qzkep_1
 by_cases h2 : ph = 2
 · subst h2
   go_wp2_with fail
   ((with_reducible refine (mark_All _ _ bs l _ hrB.out hrL.out).mono ?_); rintro e w5 ⟨v5, L, rfl, hC, r5, b5⟩)
   have hb5 := hid (b_call hb2.out b5)
   have hq5 := hid (stays b5 hq2.out)
   have hp5 := hid (stays b5 hp2.out)
   have hd5 := hid (stays b5 hd2.out)
   have h85 := hid (stays b5 h8.out)
   have hk5 := hid (stays b5 hk2.out)
   have hw5 := b5.size
   have os5 := hid (OS.below hos.out b5)
   have hre5 := hid (hrE.out.mono EEntry.stable b5)
   have hkk := hid (kept_2 (gy := gy) hC)
   clear hC
   generalize marked bs L = BL at *
   replace r5 := hid r5
   obtain ⟨va, vc, rfl, -⟩ := id r5.out
   have f1 := frozen_heap hq5.out 0
   obtain ⟨c0, c1, c2', c3'⟩ := box4f hq5.out
   have hb6 := hid (b_set (p := ⟨w.heap.size, 0, none⟩) hb5.out (Nat.le_refl _) (.slice va BL.length vc))
   have hq6 := hid (box4_0 (u := .slice va BL.length vc) hq5.out)
   have hp6 := hid (box_other (q := w.heap.size) (o := 0) (u := .slice va BL.length vc) hp5.out qzkep_5)
   have hd6 := hid (box_other (q := w.heap.size) (o := 0) (u := .slice va BL.length vc) hd5.out qzkep_5)
   have hk6 := hid (box_other (q := w.heap.size) (o := 0) (u := .slice va BL.length vc) hk5.out qzkep_5)
   have h86 := hid (box_other (q := w.heap.size) (o := 0) (u := .slice va BL.length vc) h85.out qzkep_5)
   have o6 := hid (OS.other (o := 0) (u := .slice va BL.length vc) os5.out hq5.out (by decide))
   have rb6 := hid (RS.write r5.out (EBlob.writes _ _ 0 (.slice va BL.length vc) ⟨_, _, _, _, _, _, _, _, _, hq5.out⟩))
   have re6 := hid (RS.write hre5.out (EEntry.writes _ _ 0 (.slice va BL.length vc) ⟨_, _, _, _, _, _, _, _, _, hq5.out⟩))
   clear x0 x1 x2 x3 y0 y1 y2 b5 hb2 hb5 hq2 hp2 hp5 hd2 hd5 h8 h85 hk2 hk5 hos hrL hrG hrB hrE hre5 hG hL hsz r5 os5
   go_upto_region 7 with fail
   clear c0 c1 c2' c3' f1 hq5
   generalize w5.setCell ⟨w.heap.size, 0, none⟩ (.slice va BL.length vc) = w6 at *
   obtain ⟨x0, x1, x2, x3⟩ := box4f hq6.out
   obtain ⟨y0', y1', y2', -⟩ := box3f hk6.out
   have hnS := hq6.out
   have hnC := h86.out
   have ne1 : w.heap.size ≠ w.heap.size + 1 + 1 := by omega
   have ne2 : w.heap.size ≠ w.heap.size + 1 + 1 + 1 := by omega
   have ne3 : q8 ≠ w.heap.size + 1 + 1 := by omega
   have ne4 : q8 ≠ w.heap.size + 1 + 1 + 1 := by omega
   obtain ⟨y0, y1, y2, y3⟩ := box4f hp6.out
   obtain ⟨z0, z1, z2, -⟩ := box3f hd6.out
   have g0 := frozen_heap hp6.out 0
   have g1 := frozen_heap hp6.out 1
   have g2 := frozen_heap hp6.out 2
   have g3 := frozen_heap hp6.out 3
   have kf0 := frozen_heap hd6.out 0
   have kf1 := frozen_heap hd6.out 1
   have kf2 := frozen_heap hd6.out 2
   have hS := box4f hnS
   have hC := box3f hnC
   go_wp2_with fail
   go_region_held3 (fun w' => w'.cell? ⟨w.heap.size, 0, none⟩ = some (.slice va BL.length vc) ∧ w'.cell? ⟨w.heap.size, 1, none⟩ = some (.slice a2 es.length c2) ∧ w'.cell? ⟨w.heap.size, 2, none⟩ = some (.int .i64 r) ∧ w'.cell? ⟨w.heap.size, 3, none⟩ = some (.int .i64 t) ∧ w'.cell? ⟨q8, 0, none⟩ = some (.int .i64 2) ∧ w'.cell? ⟨q8, 1, none⟩ = some (.slice e3 gy.length k3) ∧ w'.cell? ⟨q8, 2, none⟩ = some (.string pl))
    (first
      | with_reducible exact ⟨hS.1, hS.2.1, hS.2.2.1, hS.2.2.2, hC.1, hC.2.1, hC.2.2.1⟩
      | (have h1 := box4f (heap_drewn (box4_other (q := w.heap.size + 1 + 1) (u0 := .slice va BL.length vc) (u1 := .slice a2 es.length c2) (u2 := .int .i64 r) (u3 := .int .i64 t) hnS ne1))
         have h2 := box3f (heap_drewn (box4_other (q := w.heap.size + 1 + 1) (u0 := .slice va BL.length vc) (u1 := .slice a2 es.length c2) (u2 := .int .i64 r) (u3 := .int .i64 t) hnC ne3))
         unfold World.box4 at h1 h2
         (try unfold World.box3 at h1 h2)
         with_reducible exact ⟨h1.1, h1.2.1, h1.2.2.1, h1.2.2.2, h2.1, h2.2.1, h2.2.2.1⟩)
      | (have h1 := box4f (heap_drewn (box3_other (q := w.heap.size + 1 + 1 + 1) (u0 := .int .i64 2) (u1 := .slice e3 gy.length k3) (u2 := .string pl) (box4_other (q := w.heap.size + 1 + 1) (u0 := .slice va BL.length vc) (u1 := .slice a2 es.length c2) (u2 := .int .i64 r) (u3 := .int .i64 t) hnS ne1) ne2))
         have h2 := box3f (heap_drewn (box3_other (q := w.heap.size + 1 + 1 + 1) (u0 := .int .i64 2) (u1 := .slice e3 gy.length k3) (u2 := .string pl) (box4_other (q := w.heap.size + 1 + 1) (u0 := .slice va BL.length vc) (u1 := .slice a2 es.length c2) (u2 := .int .i64 r) (u3 := .int .i64 t) hnC ne3) ne4))
         unfold World.box4 at h1 h2
         (try unfold World.box3 at h1 h2)
         with_reducible exact ⟨h1.1, h1.2.1, h1.2.2.1, h1.2.2.2, h2.1, h2.2.1, h2.2.2.1⟩)
      | go_keep
      | fail)
    (fail)
   go_wp2_with fail
   have hbox := (⟨_, _, _, _, _, _, _, _, hp6.out⟩ : ∃ a n c a' n' c' r t, w6.heap[w.heap.size + 1 + 1]? = some (.cells #[.slice a n c, .slice a' n' c', .int .i64 r, .int .i64 t] 29 (0, 0)))
   have hdx := box4_other (q := w.heap.size + 1 + 1) (u0 := .slice va BL.length vc) (u1 := .slice a2 es.length c2) (u2 := .int .i64 r) (u3 := .int .i64 t) hd6.out qzkep_5
   have rl9 := ((rb6.out.box4 EBlob.writes hbox va BL.length vc a2 es.length c2 r t).box3 EBlob.writesC ⟨_, _, _, _, _, hdx⟩ 2 e3 gy.length k3 pl).mono EBlob.stable (Below.refl _ _).drew
   have re9 := ((re6.out.box4 EEntry.writes hbox va BL.length vc a2 es.length c2 r t).box3 EEntry.writesC ⟨_, _, _, _, _, hdx⟩ 2 e3 gy.length k3 pl).mono EEntry.stable (Below.refl _ _).drew
   unfold World.box4 World.box3 at rl9 re9
   have os9 := OS.drew (OS.boxS3 (u0 := .int .i64 2) (u1 := .slice e3 gy.length k3) (u2 := .string pl) (OS.boxS4 (u0 := .slice va BL.length vc) (u1 := .slice a2 es.length c2) (u2 := .int .i64 r) (u3 := .int .i64 t) o6.out hp6.out (by decide)) hdx (by decide))
   have rt9 := reads_str os9 hgb.out hgs.out
   unfold World.box4 World.box3 at os9 rt9
   have hp9 := heap_drewn (box3_other (q := w.heap.size + 1 + 1 + 1) (u0 := .int .i64 2) (u1 := .slice e3 gy.length k3) (u2 := .string pl) (box4_same (u0 := .slice va BL.length vc) (u1 := .slice a2 es.length c2) (u2 := .int .i64 r) (u3 := .int .i64 t) hp6.out) qzkep_5)
   have hd9 := heap_drewn (box3_same (u0 := .int .i64 2) (u1 := .slice e3 gy.length k3) (u2 := .string pl) (box4_other (q := w.heap.size + 1 + 1) (u0 := .slice va BL.length vc) (u1 := .slice a2 es.length c2) (u2 := .int .i64 r) (u3 := .int .i64 t) hd6.out qzkep_5))
   have hb9 := (b_box3 (b_box4 hb6.out (q := w.heap.size + 1 + 1) qzkep_5 (.slice va BL.length vc) (.slice a2 es.length c2) (.int .i64 r) (.int .i64 t)) (q := w.heap.size + 1 + 1 + 1) qzkep_5 (.int .i64 2) (.slice e3 gy.length k3) (.string pl)).drew
   exact qzkep_1
 have n1 : (ph == 1) = false := by simp [h1]
 have n2 : (ph == 2) = false := by simp [h2]
 have hkk := hid (kept_0 (bs := bs) (gy := gy) (l := l) h1 h2)
 replace h1 := hid h1
 replace h2 := hid h2
 generalize hwc : wc = w6 at *
 clear hwc
 clear hk2 hrL hrG hG hL hsz
 have hnS := hq2.out
 have hnC := h8.out
 have ne1 : w.heap.size ≠ w.heap.size + 1 + 1 := by omega
 have ne2 : w.heap.size ≠ w.heap.size + 1 + 1 + 1 := by omega
 have ne3 : q8 ≠ w.heap.size + 1 + 1 := by omega
 have ne4 : q8 ≠ w.heap.size + 1 + 1 + 1 := by omega
 obtain ⟨y0, y1, y2, y3⟩ := box4f hp2.out
 obtain ⟨z0, z1, z2, -⟩ := box3f hd2.out
 have g0 := frozen_heap hp2.out 0
 have g1 := frozen_heap hp2.out 1
 have g2 := frozen_heap hp2.out 2
 have g3 := frozen_heap hp2.out 3
 have kf0 := frozen_heap hd2.out 0
 have kf1 := frozen_heap hd2.out 1
 have kf2 := frozen_heap hd2.out 2
 have hS := box4f hnS
 have hC := box3f hnC
 go_wp2_with fail
 go_region_held3 (fun w' => w'.cell? ⟨w.heap.size, 0, none⟩ = some (.slice a bs.length c) ∧ w'.cell? ⟨w.heap.size, 1, none⟩ = some (.slice a2 es.length c2) ∧ w'.cell? ⟨w.heap.size, 2, none⟩ = some (.int .i64 r) ∧ w'.cell? ⟨w.heap.size, 3, none⟩ = some (.int .i64 t) ∧ w'.cell? ⟨q8, 0, none⟩ = some (.int .i64 ph) ∧ w'.cell? ⟨q8, 1, none⟩ = some (.slice e3 gy.length k3) ∧ w'.cell? ⟨q8, 2, none⟩ = some (.string pl))
  (first
    | with_reducible exact ⟨hS.1, hS.2.1, hS.2.2.1, hS.2.2.2, hC.1, hC.2.1, hC.2.2.1⟩
    | (have h1 := box4f (heap_drewn (box4_other (q := w.heap.size + 1 + 1) (u0 := .slice a bs.length c) (u1 := .slice a2 es.length c2) (u2 := .int .i64 r) (u3 := .int .i64 t) hnS ne1))
       have h2 := box3f (heap_drewn (box4_other (q := w.heap.size + 1 + 1) (u0 := .slice a bs.length c) (u1 := .slice a2 es.length c2) (u2 := .int .i64 r) (u3 := .int .i64 t) hnC ne3))
       unfold World.box4 at h1 h2
       (try unfold World.box3 at h1 h2)
       with_reducible exact ⟨h1.1, h1.2.1, h1.2.2.1, h1.2.2.2, h2.1, h2.2.1, h2.2.2.1⟩)
    | (have h1 := box4f (heap_drewn (box3_other (q := w.heap.size + 1 + 1 + 1) (u0 := .int .i64 ph) (u1 := .slice e3 gy.length k3) (u2 := .string pl) (box4_other (q := w.heap.size + 1 + 1) (u0 := .slice a bs.length c) (u1 := .slice a2 es.length c2) (u2 := .int .i64 r) (u3 := .int .i64 t) hnS ne1) ne2))
       have h2 := box3f (heap_drewn (box3_other (q := w.heap.size + 1 + 1 + 1) (u0 := .int .i64 ph) (u1 := .slice e3 gy.length k3) (u2 := .string pl) (box4_other (q := w.heap.size + 1 + 1) (u0 := .slice a bs.length c) (u1 := .slice a2 es.length c2) (u2 := .int .i64 r) (u3 := .int .i64 t) hnC ne3) ne4))
       unfold World.box4 at h1 h2
       (try unfold World.box3 at h1 h2)
       with_reducible exact ⟨h1.1, h1.2.1, h1.2.2.1, h1.2.2.2, h2.1, h2.2.1, h2.2.2.1⟩)
    | go_keep
    | fail)
  (fail)
 go_wp2_with fail
 have hbox := (⟨_, _, _, _, _, _, _, _, hp2.out⟩ : ∃ a n c a' n' c' r t, w6.heap[w.heap.size + 1 + 1]? = some (.cells #[.slice a n c, .slice a' n' c', .int .i64 r, .int .i64 t] 29 (0, 0)))
 have hdx := box4_other (q := w.heap.size + 1 + 1) (u0 := .slice a bs.length c) (u1 := .slice a2 es.length c2) (u2 := .int .i64 r) (u3 := .int .i64 t) hd2.out qzkep_5
 have rl9 := ((hrB.out.box4 EBlob.writes hbox a bs.length c a2 es.length c2 r t).box3 EBlob.writesC ⟨_, _, _, _, _, hdx⟩ ph e3 gy.length k3 pl).mono EBlob.stable (Below.refl _ _).drew
 have re9 := ((hrE.out.box4 EEntry.writes hbox a bs.length c a2 es.length c2 r t).box3 EEntry.writesC ⟨_, _, _, _, _, hdx⟩ ph e3 gy.length k3 pl).mono EEntry.stable (Below.refl _ _).drew
 unfold World.box4 World.box3 at rl9 re9
 have os9 := OS.drew (OS.boxS3 (u0 := .int .i64 ph) (u1 := .slice e3 gy.length k3) (u2 := .string pl) (OS.boxS4 (u0 := .slice a bs.length c) (u1 := .slice a2 es.length c2) (u2 := .int .i64 r) (u3 := .int .i64 t) hos.out hp2.out (by decide)) hdx (by decide))
 have rt9 := reads_str os9 hgb.out hgs.out
 unfold World.box4 World.box3 at os9 rt9
 have hp9 := heap_drewn (box3_other (q := w.heap.size + 1 + 1 + 1) (u0 := .int .i64 ph) (u1 := .slice e3 gy.length k3) (u2 := .string pl) (box4_same (u0 := .slice a bs.length c) (u1 := .slice a2 es.length c2) (u2 := .int .i64 r) (u3 := .int .i64 t) hp2.out) qzkep_5)
 have hd9 := heap_drewn (box3_same (u0 := .int .i64 ph) (u1 := .slice e3 gy.length k3) (u2 := .string pl) (box4_other (q := w.heap.size + 1 + 1) (u0 := .slice a bs.length c) (u1 := .slice a2 es.length c2) (u2 := .int .i64 r) (u3 := .int .i64 t) hd2.out qzkep_5))
 have hb9 := (b_box3 (b_box4 hb2.out (q := w.heap.size + 1 + 1) qzkep_5 (.slice a bs.length c) (.slice a2 es.length c2) (.int .i64 r) (.int .i64 t)) (q := w.heap.size + 1 + 1 + 1) qzkep_5 (.int .i64 ph) (.slice e3 gy.length k3) (.string pl)).drew
 exact qzkep_1
end Go.Proofs.YtpkpgehiplhkpaaGreat

namespace Go.Proofs.YtpkpgehiplhkpaaGreat
open Go.RowKit
def CoResO (o : CoOut) (w : World) (e : Ending) (w' : World) : Prop :=
 ∃ v gv, e = .returned (.tuple #[v, .agg #[.int .i64 o.coll.phase, gv, .string o.coll.place], .int .i64 o.err]) ∧ VS w' v o.store ∧ RT w' gv o.coll.grey ∧ OS 9 1 cStr w' w.heap.size gv o.coll.grey ∧ Below w.heap.size w w'
theorem CoResO.co {o : CoOut} {w w' : World} {e : Ending} (h : CoResO o w e w') : CoRes o w e w' := by
 obtain ⟨v, gv, h1, h2, h3, -, h4⟩ := h
 exact ⟨v, gv, h1, h2, h3, h4⟩
def CoResD (o : CoOut) (d : ByteArray) (w : World) (e : Ending) (w' : World) : Prop :=
 ∃ v gv, e = .returned (.tuple #[v, .agg #[.int .i64 o.coll.phase, gv, .string o.coll.place], .string d, .int .i64 o.err]) ∧ VS w' v o.store ∧ RT w' gv o.coll.grey ∧ OS 9 1 cStr w' w.heap.size gv o.coll.grey ∧ Below w.heap.size w w'
theorem coO_no {o : CoOut} {n : Int} {w w' : World} (h : o = ⟨n, noStore, noColl⟩) (hb : Below w.heap.size w w') :
 CoResO o w (.returned (.tuple #[.agg #[.slice none 0 0, .slice none 0 0, .int .i64 0, .int .i64 0], .agg #[.int .i64 0, .slice none 0 0, .string ⟨#[]⟩], .int .i64 n])) w' := by
 subst h
 exact ⟨_, _, rfl, ⟨_, _, rfl, RS.nil, RS.nil⟩, RS.nil, OS.nil, hb⟩
theorem coO_ok {o : CoOut} {k : Int} {s : ByteArray} {G : List ByteArray} {bs : List Blob} {es : List Entry} {r t : Int} {v1 v2 gv : Value} {w w' : World} (h : o = ⟨0, ⟨bs, es, r, t⟩, ⟨k, G, s⟩⟩) (h1 : RBl w' v1 bs) (h2 : RE w' v2 es) (h3 : RT w' gv G) (h4 : OS 9 1 cStr w' w.heap.size gv G) (hb : Below w.heap.size w w') :
 CoResO o w (.returned (.tuple #[.agg #[v1, v2, .int .i64 r, .int .i64 t], .agg #[.int .i64 k, gv, .string s], .int .i64 0])) w' := by
 subst h
 exact ⟨_, _, rfl, ⟨v1, v2, rfl, h1, h2⟩, h3, h4, hb⟩
theorem coD_no {o : CoOut} {n : Int} {d : ByteArray} {w w' : World} (h : o = ⟨n, noStore, noColl⟩ ∧ d = ⟨#[]⟩) (hb : Below w.heap.size w w') :
 CoResD o d w (.returned (.tuple #[.agg #[.slice none 0 0, .slice none 0 0, .int .i64 0, .int .i64 0], .agg #[.int .i64 0, .slice none 0 0, .string ⟨#[]⟩], .string ⟨#[]⟩, .int .i64 n])) w' := by
 obtain ⟨rfl, rfl⟩ := h
 exact ⟨_, _, rfl, ⟨_, _, rfl, RS.nil, RS.nil⟩, RS.nil, OS.nil, hb⟩
theorem coD_ok {o : CoOut} {k : Int} {s d d' : ByteArray} {G : List ByteArray} {bs : List Blob} {es : List Entry} {r t : Int} {v1 v2 gv : Value} {w w' : World} (h : o = ⟨0, ⟨bs, es, r, t⟩, ⟨k, G, s⟩⟩ ∧ d' = d) (h1 : RBl w' v1 bs) (h2 : RE w' v2 es) (h3 : RT w' gv G) (h4 : OS 9 1 cStr w' w.heap.size gv G) (hb : Below w.heap.size w w') :
 CoResD o d' w (.returned (.tuple #[.agg #[v1, v2, .int .i64 r, .int .i64 t], .agg #[.int .i64 k, gv, .string s], .string d, .int .i64 0])) w' := by
 obtain ⟨rfl, rfl⟩ := h
 exact ⟨_, _, rfl, ⟨v1, v2, rfl, h1, h2⟩, h3, h4, hb⟩
noncomputable def barOut (z e : Int) (S : Store) (ph : Int) (gy : List ByteArray) (pl : ByteArray) (l : List ByteArray) : CoOut :=
 if z ≠ 0 then ⟨z, noStore, noColl⟩ else if e ≠ 0 then ⟨e, noStore, noColl⟩ else ⟨0, ⟨keptB ph S.blobs l, S.entries, S.room, S.clock⟩, ⟨ph, keptG ph gy l, pl⟩⟩
def barD (z e : Int) (d : ByteArray) : ByteArray := if z ≠ 0 then ⟨#[]⟩ else if e ≠ 0 then ⟨#[]⟩ else d
section
variable {z e ph : Int} {S : Store} {gy l : List ByteArray} {pl d : ByteArray}
theorem bar_bad (h : z ≠ 0) : barOut z e S ph gy pl l = ⟨z, noStore, noColl⟩ := if_pos h
theorem bar_op (h : e ≠ 0) : barOut 0 e S ph gy pl l = ⟨e, noStore, noColl⟩ := by unfold barOut; rw [if_neg (by simp), if_pos h]
theorem bar_ok : barOut 0 0 S ph gy pl l = ⟨0, ⟨keptB ph S.blobs l, S.entries, S.room, S.clock⟩, ⟨ph, keptG ph gy l, pl⟩⟩ := by unfold barOut; rw [if_neg (by simp), if_neg (by simp)]
theorem barD_bad (h : z ≠ 0) : barD z e d = ⟨#[]⟩ := if_pos h
theorem barD_op (h : e ≠ 0) : barD 0 e d = ⟨#[]⟩ := by unfold barD; rw [if_neg (by simp), if_pos h]
theorem barD_ok : barD 0 0 d = d := by unfold barD; rw [if_neg (by simp), if_neg (by simp)]
end
def BpMid (w wb : World) (q : Nat) (B2 : List Blob) (E : List Entry) (r1 t1 ph : Int) (G2 : List ByteArray) (pl : ByteArray) (s14 : Value) (wx : World) : Prop :=
 ∃ q14 a7 c7 a8 c8 a9 c9, s14 = .pointer (some ⟨q14, 0, none⟩) ∧ wb.heap.size ≤ q14 ∧ wx.heap[q]? = some (.cells #[.slice a7 B2.length c7, .slice a8 E.length c8, .int .i64 r1, .int .i64 t1] 29 (0, 0)) ∧
   wx.heap[q14]? = some (.cells #[.int .i64 ph, .slice a9 G2.length c9, .string pl] 32 (0, 0)) ∧
   wx.heap[w.heap.size + 1 + 1]? = some (.cells #[.slice none 0 0, .slice none 0 0, .int .i64 0, .int .i64 0] 29 (0, 0)) ∧ wx.heap[w.heap.size + 1 + 1 + 1]? = some (.cells #[.int .i64 0, .slice none 0 0, .string ⟨#[]⟩] 32 (0, 0)) ∧
   G2.length * 16 ≤ 140737488351232 ∧ (∀ s ∈ G2, s.size ≤ 140737488351232) ∧ RBl wx (.slice a7 B2.length c7) B2 ∧ RE wx (.slice a8 E.length c8) E ∧ OS 9 1 cStr wx w.heap.size (.slice a9 G2.length c9) G2 ∧ Below w.heap.size w wx
theorem rt_one (W : World) (d : ByteArray) (k : Nat) (hk : k = W.heap.size) (hd : d.size ≤ 140737488351232) : RT (W.alloc (Obj.cells #[.string d] 9)) (.slice (some ⟨k, 0, none⟩) 1 1) [d] := by
 subst hk
 refine ⟨_, _, rfl, by simp, by simp [maxLen], by simp, fun h => by simp at h, fun j x hj => ⟨W.heap.size, 0, rfl, by simp, ?_, ?_⟩⟩
 · obtain rfl : j = 0 := by have := (List.getElem?_eq_some_iff.1 hj).1; simp at this; omega
   simp only [List.getElem?_cons_zero, Option.some.injEq] at hj
   subst hj
   rw [cell_of_row _ _ _ _ _ _ (heap_alloc_new W _)]
   simp
 obtain rfl : j = 0 := by have := (List.getElem?_eq_some_iff.1 hj).1; simp at this; omega
 simp only [List.getElem?_cons_zero, Option.some.injEq] at hj
 subst hj
 exact hd
set_option maxRecDepth 100000 in
set_option maxHeartbeats 1000000 in
theorem barrier_digests (v : Value) (L : List Part) (w : World) (h : RP w v L) : Calls Tryz.prog 253 #[v] w (DigPost L w) := by
 obtain ⟨i0, ii0, hz0, hz1, hz2⟩ := info_parts info_str
 obtain ⟨pa, pc, rfl, hlc, hcm, hre, hno, hat⟩ := h
 unfold maxLen at hcm
 replace hat := hid hat
 clear hno
 have hown0 : Hid (OS 9 1 cStr w w.heap.size (.slice none 0 0) ((L.map (·.digest)).take 0)) := hid OS.nil
 unfold DigPost
 go_enter Tryz.func253, Tryz.ntmps253
 go_wp2_with fail
 go_loopw [3, 5, 8] (fun o _ i wr => ∃ k : Nat, k ≤ L.length ∧ i = .int .i64 (k : Int) ∧ Hid (OS 9 1 cStr wr w.heap.size o ((L.map (·.digest)).take k)) ∧ Hid (Below w.heap.size w wr)) (fun _ _ i _ => L.length - (intOf i).toNat)
 case atStart => exact ⟨0, by omega, rfl, hown0, hid (Below.refl _ _)⟩
 obtain ⟨k, hk, rfl, hown, hbr⟩ := hrel
 by_cases hlt : k < L.length
 · have hx : L[k]? = some L[k] := List.getElem?_eq_getElem hlt
   have htk := hid (List.take_succ_eq_append_getElem hlt)
   generalize L[k] = y at hx htk
   obtain ⟨bb, off, rfl, hbb, he⟩ := hat.out k _ hx
   obtain ⟨c0, c1', c2, s0, s1, wf⟩ := EPart.stable _ _ _ _ _ hbr.out hbb he
   have hbw : bb < wr.heap.size := Nat.lt_of_lt_of_le hbb hbr.out.size
   clear he hx
   have hown1 := hid (OS.alloc hown.out (Obj.cells #[.string y.name, .string y.digest, .int .i64 y.size] 67))
   have hsB := hbr.out.size
   have hrow := row_one (s := 1) (bs := 16) (cells := cStr) (wr.alloc (Obj.cells #[.string y.name, .string y.digest, .int .i64 y.size] 67)) 9 y.digest #[.string y.digest] (wr.heap.size + 1) (by simp) rfl (by decide)
   have hlk : ((L.map (·.digest)).take k).length ≤ L.length := by rw [List.length_take, List.length_map]; omega
   go_wp2_with (at_builtin; go_must (refine wpL_append flat_rstr rfl (.tmp 12) (.tmp 15) 30 rfl 9 i0 _ Tryz.underlying30 ii0 hz0 hz1 hz2 rfl w.heap.size _ _ rfl (OS.alloc hown1.out _) _ [y.digest] rfl hrow ?c1 ?c2 ?c3 ?_))
   case c1 => simp only [List.length_cons, List.length_nil]; omega
   case c2 => simp only [List.length_cons, List.length_nil, maxLen]; omega
   case c3 => simp; omega
   intro v8 w8 ho8 hg8
   have hbr8 := hid ((((hbr.out.alloc hsB (Obj.cells #[.string y.name, .string y.digest, .int .i64 y.size] 67)).alloc (by simp; omega) (Obj.cells #[.string y.digest] 9)).grown hg8 (by simp; omega) (OS.block hown.out)))
   have hxs : Hid ((L.map (·.digest)).take k ++ [y.digest] = (L.map (·.digest)).take (k + 1)) := hid (by rw [← List.map_take, ← List.map_take, htk.out, List.map_append]; rfl)
   rw [hxs.out] at ho8
   replace ho8 := hid ho8
   clear hg8 hrow hown1 hown hbr hxs
   go_wp2_with fail
   go_roundw
   case rel => exact ⟨k + 1, by omega, by go_num, ho8, hbr8⟩
   case measure => simp [intOf]; omega
 obtain rfl : k = L.length := by omega
 rw [List.take_of_length_le (by rw [List.length_map]; exact Nat.le_refl _)] at hown
 go_wp2_with fail
 go_ret
 exact ⟨_, rfl, hown.out, hbr.out⟩
end Go.Proofs.YtpkpgehiplhkpaaGreat
