/-
  mark.Step: what it answers. Printed by gen_ms2.py.
-/
import Derived.Test.YtpcnhldlfmdlhaaGreatQxMsI
import Derived.Test.YtpcnhldlfmdlhaaGreatQxChn
import Derived.Test.YtpcnhldlfmdlhaaGreatQxBrL
namespace Go.Proofs.YtpcnhldlfmdlhaaGreat
open Go.RowKit

/-- Behind the calls: a store and a collector lie in two new boxes. -/
def MsMid (w2 : World) (B1 : List Blob) (es : List Entry) (r t k1 : Int) (G1 : List ByteArray) (s1 : ByteArray) (s8 s9 : Value) (wx : World) : Prop :=
  ∃ q8 q9 va vc ua uc gA gC, s8 = .pointer (some ⟨q8, 0, none⟩) ∧ s9 = .pointer (some ⟨q9, 0, none⟩) ∧ w2.heap.size ≤ q8 ∧ w2.heap.size ≤ q9 ∧ q8 ≠ q9 ∧
    wx.heap[q8]? = some (.cells #[.slice va B1.length vc, .slice ua es.length uc, .int .i64 r, .int .i64 t] 29 (0, 0)) ∧
    wx.heap[q9]? = some (.cells #[.int .i64 k1, .slice gA G1.length gC, .string s1] 32 (0, 0)) ∧ G1.length * 16 ≤ 140737488351232 ∧ (∀ s ∈ G1, s.size ≤ 140737488351232) ∧
    RBl wx (.slice va B1.length vc) B1 ∧ RE wx (.slice ua es.length uc) es ∧ OS 9 1 cStr wx w2.heap.size (.slice gA G1.length gC) G1 ∧ Below w2.heap.size w2 wx
theorem MsMid.fin {w2 W : World} {B1 : List Blob} {es : List Entry} {r t k1 : Int} {G1 : List ByteArray} {s1 : ByteArray} {q8 q9 vc uc gC : Nat} {va ua gA : Option Addr}
    (h8 : W.heap[q8]? = some (.cells #[.slice none 0 0, .slice none 0 0, .int .i64 0, .int .i64 0] 29 (0, 0)))
    (h9 : W.heap[q9]? = some (.cells #[.int .i64 0, .slice none 0 0, .string ⟨#[]⟩] 32 (0, 0)))
    (hq8 : w2.heap.size ≤ q8) (hq9 : w2.heap.size ≤ q9) (hn : q8 ≠ q9) (bnd : G1.length * 16 ≤ 140737488351232) (szs : ∀ s ∈ G1, s.size ≤ 140737488351232)
    (rb : RBl W (.slice va B1.length vc) B1) (re : RE W (.slice ua es.length uc) es) (og : OS 9 1 cStr W w2.heap.size (.slice gA G1.length gC) G1) (hb : Below w2.heap.size w2 W) :
    MsMid w2 B1 es r t k1 G1 s1 (.pointer (some ⟨q8, 0, none⟩)) (.pointer (some ⟨q9, 0, none⟩)) (((((((W.setCell ⟨q8, 0, none⟩ (.slice va B1.length vc)).setCell ⟨q8, 1, none⟩ (.slice ua es.length uc)).setCell ⟨q8, 2, none⟩ (.int .i64 r)).setCell ⟨q8, 3, none⟩ (.int .i64 t)).setCell ⟨q9, 0, none⟩ (.int .i64 k1)).setCell ⟨q9, 1, none⟩ (.slice gA G1.length gC)).setCell ⟨q9, 2, none⟩ (.string s1)) :=
  ⟨q8, q9, va, vc, ua, uc, gA, gC, rfl, rfl, hq8, hq9, hn, w3_far (w4_same h8) hn, w3_same (w4_far h9 (Ne.symm hn)), bnd, szs,
    rs_w3 EBlob.writesC (rs_w4 EBlob.writes rb (SBox.of h8)) (CBox.of (w4_far h9 (Ne.symm hn))), rs_w3 EEntry.writesC (rs_w4 EEntry.writes re (SBox.of h8)) (CBox.of (w4_far h9 (Ne.symm hn))),
    os_w3 (os_w4 og h8) (w4_far h9 (Ne.symm hn)), b_w3 (b_w4 hb hq8) hq9⟩
theorem MsMid.finSC {w2 W : World} {B1 : List Blob} {es : List Entry} {r t k1 : Int} {G1 : List ByteArray} {s1 : ByteArray} {vc uc gC : Nat} {va ua gA : Option Addr} (bnd : G1.length * 16 ≤ 140737488351232) (szs : ∀ s ∈ G1, s.size ≤ 140737488351232) (rb : RBl W (.slice va B1.length vc) B1) (re : RE W (.slice ua es.length uc) es) (og : OS 9 1 cStr W w2.heap.size (.slice gA G1.length gC) G1) (hb : Below w2.heap.size w2 W) :
    MsMid w2 B1 es r t k1 G1 s1 (.pointer (some ⟨W.heap.size, 0, none⟩)) (.pointer (some ⟨W.heap.size + 1, 0, none⟩)) ((W.alloc (Obj.cells #[.slice va B1.length vc, .slice ua es.length uc, .int .i64 r, .int .i64 t] 29)).alloc (Obj.cells #[.int .i64 k1, .slice gA G1.length gC, .string s1] 32)) :=
  ⟨_, _, va, vc, ua, uc, gA, gC, rfl, rfl, hb.size, Nat.le_succ_of_le hb.size, by omega, hold (heap_alloc_new _ _), heap_put _ _ _ (by simp), bnd, szs,
    RS.al EBlob.stable (RS.al EBlob.stable rb _) _, RS.al EEntry.stable (RS.al EEntry.stable re _) _, OS.alloc (OS.alloc og _) _, b_alloc (b_alloc hb _) _⟩
theorem MsMid.finCS {w2 W : World} {B1 : List Blob} {es : List Entry} {r t k1 : Int} {G1 : List ByteArray} {s1 : ByteArray} {vc uc gC : Nat} {va ua gA : Option Addr} (bnd : G1.length * 16 ≤ 140737488351232) (szs : ∀ s ∈ G1, s.size ≤ 140737488351232) (rb : RBl W (.slice va B1.length vc) B1) (re : RE W (.slice ua es.length uc) es) (og : OS 9 1 cStr W w2.heap.size (.slice gA G1.length gC) G1) (hb : Below w2.heap.size w2 W) :
    MsMid w2 B1 es r t k1 G1 s1 (.pointer (some ⟨W.heap.size + 1, 0, none⟩)) (.pointer (some ⟨W.heap.size, 0, none⟩)) ((W.alloc (Obj.cells #[.int .i64 k1, .slice gA G1.length gC, .string s1] 32)).alloc (Obj.cells #[.slice va B1.length vc, .slice ua es.length uc, .int .i64 r, .int .i64 t] 29)) :=
  ⟨_, _, va, vc, ua, uc, gA, gC, rfl, rfl, Nat.le_succ_of_le hb.size, hb.size, by omega, heap_put _ _ _ (by simp), hold (heap_alloc_new _ _), bnd, szs,
    RS.al EBlob.stable (RS.al EBlob.stable rb _) _, RS.al EEntry.stable (RS.al EEntry.stable re _) _, OS.alloc (OS.alloc og _) _, b_alloc (b_alloc hb _) _⟩
theorem MsMid.finsC {w2 W : World} {B1 : List Blob} {es : List Entry} {r t k1 : Int} {G1 : List ByteArray} {s1 : ByteArray} {q vc uc gC : Nat} {va ua gA : Option Addr}
    (h8 : W.heap[q]? = some (.cells #[.slice none 0 0, .slice none 0 0, .int .i64 0, .int .i64 0] 29 (0, 0))) (hq : w2.heap.size ≤ q) (bnd : G1.length * 16 ≤ 140737488351232) (szs : ∀ s ∈ G1, s.size ≤ 140737488351232) (rb : RBl W (.slice va B1.length vc) B1) (re : RE W (.slice ua es.length uc) es) (og : OS 9 1 cStr W w2.heap.size (.slice gA G1.length gC) G1) (hb : Below w2.heap.size w2 W) :
    MsMid w2 B1 es r t k1 G1 s1 (.pointer (some ⟨q, 0, none⟩)) (.pointer (some ⟨W.heap.size, 0, none⟩)) (((((W.setCell ⟨q, 0, none⟩ (.slice va B1.length vc)).setCell ⟨q, 1, none⟩ (.slice ua es.length uc)).setCell ⟨q, 2, none⟩ (.int .i64 r)).setCell ⟨q, 3, none⟩ (.int .i64 t)).alloc (Obj.cells #[.int .i64 k1, .slice gA G1.length gC, .string s1] 32)) :=
  ⟨_, _, va, vc, ua, uc, gA, gC, rfl, rfl, hq, hb.size, Nat.ne_of_lt (heap_lt h8), hold (w4_same h8), heap_put _ _ _ (by simp), bnd, szs,
    RS.al EBlob.stable (rs_w4 EBlob.writes rb (SBox.of h8)) _, RS.al EEntry.stable (rs_w4 EEntry.writes re (SBox.of h8)) _, OS.alloc (os_w4 og h8) _, b_alloc (b_w4 hb hq) _⟩
theorem MsMid.fincS {w2 W : World} {B1 : List Blob} {es : List Entry} {r t k1 : Int} {G1 : List ByteArray} {s1 : ByteArray} {q vc uc gC : Nat} {va ua gA : Option Addr}
    (h9 : W.heap[q]? = some (.cells #[.int .i64 0, .slice none 0 0, .string ⟨#[]⟩] 32 (0, 0))) (hq : w2.heap.size ≤ q) (bnd : G1.length * 16 ≤ 140737488351232) (szs : ∀ s ∈ G1, s.size ≤ 140737488351232) (rb : RBl W (.slice va B1.length vc) B1) (re : RE W (.slice ua es.length uc) es) (og : OS 9 1 cStr W w2.heap.size (.slice gA G1.length gC) G1) (hb : Below w2.heap.size w2 W) :
    MsMid w2 B1 es r t k1 G1 s1 (.pointer (some ⟨W.heap.size, 0, none⟩)) (.pointer (some ⟨q, 0, none⟩)) ((((W.setCell ⟨q, 0, none⟩ (.int .i64 k1)).setCell ⟨q, 1, none⟩ (.slice gA G1.length gC)).setCell ⟨q, 2, none⟩ (.string s1)).alloc (Obj.cells #[.slice va B1.length vc, .slice ua es.length uc, .int .i64 r, .int .i64 t] 29)) :=
  ⟨_, _, va, vc, ua, uc, gA, gC, rfl, rfl, hb.size, hq, Nat.ne_of_gt (heap_lt h9), heap_put _ _ _ (by simp), hold (w3_same h9), bnd, szs,
    RS.al EBlob.stable (rs_w3 EBlob.writesC rb (CBox.of h9)) _, RS.al EEntry.stable (rs_w3 EEntry.writesC re (CBox.of h9)) _, OS.alloc (os_w3 og h9) _, b_alloc (b_w3 hb hq) _⟩

set_option maxRecDepth 100000 in
set_option maxHeartbeats 24000000 in
theorem mark_Step' (v u gv : Value) (bs : List Blob) (es : List Entry) (r t ph : Int) (pl : ByteArray) (gy : List ByteArray) (w : World) (h : RBl w v bs) (g : RE w u es) (hg : RT w gv gy) (hl : (gy.length + 8) * 16 ≤ 140737488351232) (z : Int)
    (hch : ∀ w, RBl w v bs → RE w u es → Calls Tryz.prog 75 #[.agg #[v, u, .int .i64 r, .int .i64 t]] w fun e w' => e = .returned (.int .i64 z) ∧ Below w.heap.size w w') :
    Calls Tryz.prog 117 #[.agg #[v, u, .int .i64 r, .int .i64 t], .agg #[.int .i64 ph, gv, .string pl]] w (CoResO (mkOut z ph bs es r t gy) w) := by
  have hcp := hid (fun w (h : RBl w v bs) (g : RE w u es) => store_CopyO v u bs es r t w h g)
  unfold OwnedStore at hcp
  replace hch := hid hch
  have hR := hid h
  have hE := hid g
  have hG := hid hg
  have hf1 := hid (fit_B h)
  have hf2 := hid (fit_E g)
  have m1 := hid (@mk_bad z ph bs es r t gy)
  have m2 := hid (@mk_idle ph bs es r t gy)
  have m3 := hid (@mk_ok bs es r t gy)
  obtain ⟨a, c, rfl, hlc, hcm, hre, -⟩ := h
  obtain ⟨a2, c2, rfl, -, -, hre2, -⟩ := g
  obtain ⟨ga, gc, rfl, hgl, -⟩ := hg
  unfold maxLen at hcm
  obtain ⟨w1, hw1⟩ : ∃ w1 : World, w1 = (((w.alloc (Obj.cells #[.slice a bs.length c, .slice a2 es.length c2, .int .i64 r, .int .i64 t] 29)).alloc (Obj.cells #[.int .i64 ph, .slice ga gy.length gc, .string pl] 32)).alloc (Obj.cells #[.slice none 0 0, .slice none 0 0, .int .i64 0, .int .i64 0] 29)).alloc (Obj.cells #[.int .i64 0, .slice none 0 0, .string ⟨#[]⟩] 32) := ⟨_, rfl⟩
  have hb1 := hid (show Below w.heap.size w w1 by rw [hw1]; exact b_alloc (b_alloc (b_alloc (b_alloc (Below.refl _ _) _) _) _) _)
  have hq1 := hid (show w1.heap[w.heap.size]? = some (.cells #[.slice a bs.length c, .slice a2 es.length c2, .int .i64 r, .int .i64 t] 29 (0, 0)) by
    rw [hw1]
    exact (heap_alloc_old _ _ (by first | (simp <;> fail) | (simp; omega) | fail)).trans ((heap_alloc_old _ _ (by first | (simp <;> fail) | (simp; omega) | fail)).trans ((heap_alloc_old _ _ (by simp)).trans (heap_alloc_new w _))))
  have hk1 := hid (show w1.heap[w.heap.size + 1]? = some (.cells #[.int .i64 ph, .slice ga gy.length gc, .string pl] 32 (0, 0)) by
    rw [hw1]
    exact (heap_alloc_old _ _ (by first | (simp <;> fail) | (simp; omega) | fail)).trans ((heap_alloc_old _ _ (by simp)).trans (heap_put _ _ _ (by simp))))
  have hp1 := hid (show w1.heap[w.heap.size + 1 + 1]? = some (.cells #[.slice none 0 0, .slice none 0 0, .int .i64 0, .int .i64 0] 29 (0, 0)) by
    rw [hw1]
    exact (heap_alloc_old _ _ (by simp)).trans (heap_put _ _ _ (by simp)))
  have hd1 := hid (show w1.heap[w.heap.size + 1 + 1 + 1]? = some (.cells #[.int .i64 0, .slice none 0 0, .string ⟨#[]⟩] 32 (0, 0)) by
    rw [hw1]
    exact heap_put _ _ _ (by simp))
  obtain ⟨x0, x1, x2, x3⟩ := box4f hq1.out
  go_enter Tryz.func117, Tryz.ntmps117
  go_wp2_with fail
  rw [← hw1]
  clear hw1
  ((with_reducible refine (hch.out _ (hR.out.mono EBlob.stable hb1.out) (hE.out.mono EEntry.stable hb1.out)).mono ?_); rintro e w2 ⟨rfl, b2⟩)
  have hq2 := hid (stays b2 hq1.out)
  have hk2 := hid (stays b2 hk1.out)
  have hp2 := hid (stays b2 hp1.out)
  have hd2 := hid (stays b2 hd1.out)
  have hb2 := hid (b_call hb1.out b2)
  clear b2 hq1 hk1 hp1 hd1 hb1 x0 x1 x2 x3
  obtain ⟨x0, x1, x2, x3⟩ := box4f hq2.out
  obtain ⟨y0, y1, y2, -⟩ := box3f hk2.out
  by_cases hz : z = 0
  · subst hz
    by_cases hph : ph = 1
    · subst hph
      have hd := hid m3.out
      clear m1 m2 m3 hch
      have hst := hid (fun v1 v2 B W (hB : B ≤ W.heap.size) (ob : OBlob W B v1 bs) (oe : OEntry W B v2 es) (hg : RT W (.slice ga gy.length gc) gy) => mark_step v1 v2 _ bs es r t 1 pl gy B W hB ob oe hg hre hre2 hf1.out hf2.out hl)
      unfold StepPost at hst
      generalize mst bs gy = o1 at *
      obtain ⟨B1, ⟨k1, G1, s1⟩⟩ := o1
      simp only at hst hd
      have hlq := heap_lt hq2.out
      have hld := heap_lt hd2.out
      go_upto_region 6 with fail
      go_cut [8, 9] from 8 (fun s8 s9 wx => MsMid w2 B1 es r t k1 G1 s1 s8 s9 wx)
      case first =>
        have mkS := hid (fun (W : World) (h1 : W.heap[w.heap.size]? = some (.cells #[.slice a bs.length c, .slice a2 es.length c2, .int .i64 r, .int .i64 t] 29 (0, 0))) (h2 : W.heap[w.heap.size + 1]? = some (.cells #[.int .i64 1, .slice ga gy.length gc, .string pl] 32 (0, 0))) => And.intro (box4f h1) (And.intro (box3f h2).1 (And.intro (box3f h2).2.1 (box3f h2).2.2.1)))
        go_region_held3 (fun w' => (w'.cell? ⟨w.heap.size, 0, none⟩ = some (.slice a bs.length c) ∧ w'.cell? ⟨w.heap.size, 1, none⟩ = some (.slice a2 es.length c2) ∧ w'.cell? ⟨w.heap.size, 2, none⟩ = some (.int .i64 r) ∧ w'.cell? ⟨w.heap.size, 3, none⟩ = some (.int .i64 t)) ∧ w'.cell? ⟨w.heap.size + 1, 0, none⟩ = some (.int .i64 1) ∧ w'.cell? ⟨w.heap.size + 1, 1, none⟩ = some (.slice ga gy.length gc) ∧ w'.cell? ⟨w.heap.size + 1, 2, none⟩ = some (.string pl))
          (first
            | (refine mkS.out _ ?_ ?_ <;> ((repeat (first | with_reducible exact hq2.out | with_reducible exact hk2.out | with_reducible exact hp2.out | with_reducible exact hd2.out | with_reducible exact hu0 | with_reducible exact hu1 | with_reducible exact hu2 | with_reducible exact hu3 | (with_reducible apply box4_0) | (with_reducible apply box4_1) | (with_reducible apply box4_2) | (with_reducible apply box4_3) | (with_reducible apply box3_0) | (with_reducible apply box3_1) | (with_reducible apply box3_2) | (with_reducible refine heap_put _ _ _ (by first | rfl | (simp <;> fail) | fail)) | (with_reducible refine alloc_keep ?_) | (with_reducible refine box_other ?_ (by first | omega | (simp; omega) | (simp <;> fail) | fail)) | (with_reducible refine stays b3 ?_) | (with_reducible refine KT.at k4 (by decide) ?_) | (with_reducible refine heap_drewn ?_) | fail)) <;> fail))
            | fail)
          ((first
            | ((with_reducible refine (hcp.out _ (hR.out.mono EBlob.stable (by ((repeat (first | with_reducible exact hb2.out | exact Below.refl _ _ | (with_reducible refine Below.alloc ?_ (by first | omega | (simp; omega) | (simp <;> fail) | fail) _) | (with_reducible refine Below.setCell ?_ (by first | omega | (show _ ≤ _; omega) | (simp; omega) | (simp <;> fail) | fail) _) | (with_reducible refine Below.drew ?_) | fail)) <;> fail))) (hE.out.mono EEntry.stable (by ((repeat (first | with_reducible exact hb2.out | exact Below.refl _ _ | (with_reducible refine Below.alloc ?_ (by first | omega | (simp; omega) | (simp <;> fail) | fail) _) | (with_reducible refine Below.setCell ?_ (by first | omega | (show _ ≤ _; omega) | (simp; omega) | (simp <;> fail) | fail) _) | (with_reducible refine Below.drew ?_) | fail)) <;> fail)))).mono ?_)
               rintro e w3 ⟨v3, u3, rfl, o3', oe3', b3⟩
               have hb3 : Below w2.heap.size w2 w3 := Below.trans (by ((repeat (first | exact Below.refl _ _ | (with_reducible refine Below.alloc ?_ (by first | omega | (simp; omega) | (simp <;> fail) | fail) _) | (with_reducible refine Below.setCell ?_ (by first | omega | (show _ ≤ _; omega) | (simp; omega) | (simp <;> fail) | fail) _) | (with_reducible refine Below.drew ?_) | fail)) <;> fail)) (b3.mono (by first | (simp <;> fail) | (simp; omega) | fail))
               have o3 : OBlob w3 w2.heap.size v3 bs := OBlob.low o3' (by first | (simp <;> fail) | (simp; omega) | fail)
               have oe3 : OEntry w3 w2.heap.size u3 es := OEntry.low oe3' (by first | (simp <;> fail) | (simp; omega) | fail)
               have hs3 := b3.size
               (first | (simp only [World.size_alloc, World.size_drew] at hs3; skip) | skip)
               (first | (have hy0 := stays b3 (heap_alloc_new _ _)) | (have hy0 := stays b3 (heap_drewn (heap_alloc_new _ _))) | (have hy0 := stays b3 (heap_drewn (heap_drewn (heap_alloc_new _ _)))) | skip)
               (try simp only [World.size_alloc] at hy0)
               (first | (have hy1 := stays b3 (alloc_keep (heap_alloc_new _ _))) | (have hy1 := stays b3 (heap_drewn (alloc_keep (heap_alloc_new _ _)))) | (have hy1 := stays b3 (alloc_keep (heap_drewn (heap_alloc_new _ _)))) | (have hy1 := stays b3 (heap_drewn (alloc_keep (heap_drewn (heap_alloc_new _ _))))) | skip)
               (try simp only [World.size_alloc, World.size_drew] at hy1))
            | ((with_reducible refine (hst.out _ _ w2.heap.size _ (by first | exact hb3.size | (simp; have := hb3.size; omega)) (by first | exact o3 | exact OBlob.alloc o3 _ | exact OBlob.alloc (OBlob.alloc o3 _) _) (by first | exact oe3 | exact OEntry.alloc oe3 _ | exact OEntry.alloc (OEntry.alloc oe3 _) _) (hG.out.mono EStr.stable (by ((repeat (first | with_reducible exact (b_call hb2.out hb3) | exact Below.refl _ _ | (with_reducible refine Below.alloc ?_ (by first | omega | (simp; omega) | (simp <;> fail) | fail) _) | (with_reducible refine Below.setCell ?_ (by first | omega | (show _ ≤ _; omega) | (simp; omega) | (simp <;> fail) | fail) _) | (with_reducible refine Below.drew ?_) | fail)) <;> fail)))).mono ?_)
               rintro e w4 ⟨v4, u4, g4, rfl, rb4, re4, rg4, og4', b4, k4⟩
               have hb4 : Below w2.heap.size w2 w4 := Below.trans (by ((repeat (first | with_reducible exact hb3 | exact Below.refl _ _ | (with_reducible refine Below.alloc ?_ (by first | omega | (simp; omega) | (simp <;> fail) | fail) _) | (with_reducible refine Below.setCell ?_ (by first | omega | (show _ ≤ _; omega) | (simp; omega) | (simp <;> fail) | fail) _) | (with_reducible refine Below.drew ?_) | fail)) <;> fail)) b4
               have og4 : OS 9 1 cStr w4 w2.heap.size g4 G1 := OS.mono og4' (by first | exact hb3.size | (simp; have := hb3.size; omega))
               have hs4 := b4.size
               (first | (simp only [World.size_alloc] at hs4; skip) | skip)
               (first | (have hu0 := KT.at k4 (by decide) (heap_alloc_new _ _)) | (have hu0 := KT.at k4 (by decide) (heap_drewn (heap_alloc_new _ _))) | (have hu0 := KT.at k4 (by decide) (heap_drewn (heap_drewn (heap_alloc_new _ _)))) | skip)
               (try simp only [World.size_alloc] at hu0)
               (first | (have hu1 := KT.at k4 (by decide) (alloc_keep (heap_alloc_new _ _))) | (have hu1 := KT.at k4 (by decide) (heap_drewn (alloc_keep (heap_alloc_new _ _)))) | (have hu1 := KT.at k4 (by decide) (alloc_keep (heap_drewn (heap_alloc_new _ _)))) | (have hu1 := KT.at k4 (by decide) (heap_drewn (alloc_keep (heap_drewn (heap_alloc_new _ _))))) | skip)
               (try simp only [World.size_alloc, World.size_drew] at hu1)
               (first | (have hu2 := KT.at k4 (by decide) hy0) | (have hu2 := KT.at k4 (by decide) (heap_drewn hy0)) | (have hu2 := KT.at k4 (by decide) (alloc_keep hy0)) | (have hu2 := KT.at k4 (by decide) (heap_drewn (alloc_keep hy0))) | (have hu2 := KT.at k4 (by decide) (alloc_keep (heap_drewn hy0))) | (have hu2 := KT.at k4 (by decide) (heap_drewn (heap_drewn hy0))) | (have hu2 := KT.at k4 (by decide) (heap_drewn (alloc_keep (heap_drewn hy0)))) | skip)
               (try simp only [World.size_alloc, World.size_drew] at hu2)
               (first | (have hu3 := KT.at k4 (by decide) hy1) | (have hu3 := KT.at k4 (by decide) (heap_drewn hy1)) | (have hu3 := KT.at k4 (by decide) (alloc_keep hy1)) | (have hu3 := KT.at k4 (by decide) (heap_drewn (alloc_keep hy1))) | (have hu3 := KT.at k4 (by decide) (alloc_keep (heap_drewn hy1))) | (have hu3 := KT.at k4 (by decide) (heap_drewn (heap_drewn hy1))) | (have hu3 := KT.at k4 (by decide) (heap_drewn (alloc_keep (heap_drewn hy1)))) | skip)
               (try simp only [World.size_alloc, World.size_drew] at hu3)
               (first | (obtain ⟨chu00, chu01, chu02, chu03⟩ := box4f hu0; have lhu0 := heap_lt hu0; have fhu00 := frozen_heap hu0 0; have fhu01 := frozen_heap hu0 1; have fhu02 := frozen_heap hu0 2; have fhu03 := frozen_heap hu0 3) | (obtain ⟨chu00, chu01, chu02, -⟩ := box3f hu0; have lhu0 := heap_lt hu0; have fhu00 := frozen_heap hu0 0; have fhu01 := frozen_heap hu0 1; have fhu02 := frozen_heap hu0 2) | skip)
               (first | (obtain ⟨chu10, chu11, chu12, chu13⟩ := box4f hu1; have lhu1 := heap_lt hu1; have fhu10 := frozen_heap hu1 0; have fhu11 := frozen_heap hu1 1; have fhu12 := frozen_heap hu1 2; have fhu13 := frozen_heap hu1 3) | (obtain ⟨chu10, chu11, chu12, -⟩ := box3f hu1; have lhu1 := heap_lt hu1; have fhu10 := frozen_heap hu1 0; have fhu11 := frozen_heap hu1 1; have fhu12 := frozen_heap hu1 2) | skip)
               (first | (obtain ⟨chu20, chu21, chu22, chu23⟩ := box4f hu2; have lhu2 := heap_lt hu2; have fhu20 := frozen_heap hu2 0; have fhu21 := frozen_heap hu2 1; have fhu22 := frozen_heap hu2 2; have fhu23 := frozen_heap hu2 3) | (obtain ⟨chu20, chu21, chu22, -⟩ := box3f hu2; have lhu2 := heap_lt hu2; have fhu20 := frozen_heap hu2 0; have fhu21 := frozen_heap hu2 1; have fhu22 := frozen_heap hu2 2) | skip)
               (first | (obtain ⟨chu30, chu31, chu32, chu33⟩ := box4f hu3; have lhu3 := heap_lt hu3; have fhu30 := frozen_heap hu3 0; have fhu31 := frozen_heap hu3 1; have fhu32 := frozen_heap hu3 2; have fhu33 := frozen_heap hu3 3) | (obtain ⟨chu30, chu31, chu32, -⟩ := box3f hu3; have lhu3 := heap_lt hu3; have fhu30 := frozen_heap hu3 0; have fhu31 := frozen_heap hu3 1; have fhu32 := frozen_heap hu3 2) | skip)
               obtain ⟨va, vc, rfl, -⟩ := id rb4
               obtain ⟨ua, uc, rfl, -⟩ := id re4
               obtain ⟨gA, gC, rfl, -⟩ := id rg4)
            | fail))
        all_goals
          (go_wp2_with fail
           go_meet
           first
             | (with_reducible refine MsMid.fin (va := va) (vc := vc) (ua := ua) (uc := uc) (gA := gA) (gC := gC) ?_ ?_ ?_ ?_ ?_ (rt_bound rg4) (rt_sizes rg4) ?_ ?_ ?_ ?_
                · ((repeat (first | with_reducible exact hq2.out | with_reducible exact hk2.out | with_reducible exact hp2.out | with_reducible exact hd2.out | with_reducible exact hu0 | with_reducible exact hu1 | with_reducible exact hu2 | with_reducible exact hu3 | (with_reducible apply box4_0) | (with_reducible apply box4_1) | (with_reducible apply box4_2) | (with_reducible apply box4_3) | (with_reducible apply box3_0) | (with_reducible apply box3_1) | (with_reducible apply box3_2) | (with_reducible refine heap_put _ _ _ (by first | rfl | (simp <;> fail) | fail)) | (with_reducible refine alloc_keep ?_) | (with_reducible refine box_other ?_ (by first | omega | (simp; omega) | (simp <;> fail) | fail)) | (with_reducible refine stays b3 ?_) | (with_reducible refine KT.at k4 (by decide) ?_) | (with_reducible refine heap_drewn ?_) | fail)) <;> fail)
                · ((repeat (first | with_reducible exact hq2.out | with_reducible exact hk2.out | with_reducible exact hp2.out | with_reducible exact hd2.out | with_reducible exact hu0 | with_reducible exact hu1 | with_reducible exact hu2 | with_reducible exact hu3 | (with_reducible apply box4_0) | (with_reducible apply box4_1) | (with_reducible apply box4_2) | (with_reducible apply box4_3) | (with_reducible apply box3_0) | (with_reducible apply box3_1) | (with_reducible apply box3_2) | (with_reducible refine heap_put _ _ _ (by first | rfl | (simp <;> fail) | fail)) | (with_reducible refine alloc_keep ?_) | (with_reducible refine box_other ?_ (by first | omega | (simp; omega) | (simp <;> fail) | fail)) | (with_reducible refine stays b3 ?_) | (with_reducible refine KT.at k4 (by decide) ?_) | (with_reducible refine heap_drewn ?_) | fail)) <;> fail)
                · first | omega | (simp; omega) | (simp <;> fail) | fail
                · first | omega | (simp; omega) | (simp <;> fail) | fail
                · first | omega | (simp; omega) | (simp <;> fail) | fail
                · ((repeat (first | with_reducible exact rb4 | (with_reducible refine RS.al EBlob.stable ?_ _) | (with_reducible refine RS.write ?_ (EBlob.writes _ _ _ _ (SBox.of (by ((repeat (first | with_reducible exact hq2.out | with_reducible exact hk2.out | with_reducible exact hp2.out | with_reducible exact hd2.out | with_reducible exact hu0 | with_reducible exact hu1 | with_reducible exact hu2 | with_reducible exact hu3 | (with_reducible apply box4_0) | (with_reducible apply box4_1) | (with_reducible apply box4_2) | (with_reducible apply box4_3) | (with_reducible apply box3_0) | (with_reducible apply box3_1) | (with_reducible apply box3_2) | (with_reducible refine heap_put _ _ _ (by first | rfl | (simp <;> fail) | fail)) | (with_reducible refine alloc_keep ?_) | (with_reducible refine box_other ?_ (by first | omega | (simp; omega) | (simp <;> fail) | fail)) | (with_reducible refine stays b3 ?_) | (with_reducible refine KT.at k4 (by decide) ?_) | (with_reducible refine heap_drewn ?_) | fail)) <;> fail))))) | (with_reducible refine RS.write ?_ (EBlob.writesC _ _ _ _ (CBox.of (by ((repeat (first | with_reducible exact hq2.out | with_reducible exact hk2.out | with_reducible exact hp2.out | with_reducible exact hd2.out | with_reducible exact hu0 | with_reducible exact hu1 | with_reducible exact hu2 | with_reducible exact hu3 | (with_reducible apply box4_0) | (with_reducible apply box4_1) | (with_reducible apply box4_2) | (with_reducible apply box4_3) | (with_reducible apply box3_0) | (with_reducible apply box3_1) | (with_reducible apply box3_2) | (with_reducible refine heap_put _ _ _ (by first | rfl | (simp <;> fail) | fail)) | (with_reducible refine alloc_keep ?_) | (with_reducible refine box_other ?_ (by first | omega | (simp; omega) | (simp <;> fail) | fail)) | (with_reducible refine stays b3 ?_) | (with_reducible refine KT.at k4 (by decide) ?_) | (with_reducible refine heap_drewn ?_) | fail)) <;> fail))))) | fail)) <;> fail)
                · ((repeat (first | with_reducible exact re4 | (with_reducible refine RS.al EEntry.stable ?_ _) | (with_reducible refine RS.write ?_ (EEntry.writes _ _ _ _ (SBox.of (by ((repeat (first | with_reducible exact hq2.out | with_reducible exact hk2.out | with_reducible exact hp2.out | with_reducible exact hd2.out | with_reducible exact hu0 | with_reducible exact hu1 | with_reducible exact hu2 | with_reducible exact hu3 | (with_reducible apply box4_0) | (with_reducible apply box4_1) | (with_reducible apply box4_2) | (with_reducible apply box4_3) | (with_reducible apply box3_0) | (with_reducible apply box3_1) | (with_reducible apply box3_2) | (with_reducible refine heap_put _ _ _ (by first | rfl | (simp <;> fail) | fail)) | (with_reducible refine alloc_keep ?_) | (with_reducible refine box_other ?_ (by first | omega | (simp; omega) | (simp <;> fail) | fail)) | (with_reducible refine stays b3 ?_) | (with_reducible refine KT.at k4 (by decide) ?_) | (with_reducible refine heap_drewn ?_) | fail)) <;> fail))))) | (with_reducible refine RS.write ?_ (EEntry.writesC _ _ _ _ (CBox.of (by ((repeat (first | with_reducible exact hq2.out | with_reducible exact hk2.out | with_reducible exact hp2.out | with_reducible exact hd2.out | with_reducible exact hu0 | with_reducible exact hu1 | with_reducible exact hu2 | with_reducible exact hu3 | (with_reducible apply box4_0) | (with_reducible apply box4_1) | (with_reducible apply box4_2) | (with_reducible apply box4_3) | (with_reducible apply box3_0) | (with_reducible apply box3_1) | (with_reducible apply box3_2) | (with_reducible refine heap_put _ _ _ (by first | rfl | (simp <;> fail) | fail)) | (with_reducible refine alloc_keep ?_) | (with_reducible refine box_other ?_ (by first | omega | (simp; omega) | (simp <;> fail) | fail)) | (with_reducible refine stays b3 ?_) | (with_reducible refine KT.at k4 (by decide) ?_) | (with_reducible refine heap_drewn ?_) | fail)) <;> fail))))) | fail)) <;> fail)
                · ((repeat (first | with_reducible exact og4 | (with_reducible refine OS.alloc ?_ _) | (with_reducible refine OS.atS ?_ (by ((repeat (first | with_reducible exact hq2.out | with_reducible exact hk2.out | with_reducible exact hp2.out | with_reducible exact hd2.out | with_reducible exact hu0 | with_reducible exact hu1 | with_reducible exact hu2 | with_reducible exact hu3 | (with_reducible apply box4_0) | (with_reducible apply box4_1) | (with_reducible apply box4_2) | (with_reducible apply box4_3) | (with_reducible apply box3_0) | (with_reducible apply box3_1) | (with_reducible apply box3_2) | (with_reducible refine heap_put _ _ _ (by first | rfl | (simp <;> fail) | fail)) | (with_reducible refine alloc_keep ?_) | (with_reducible refine box_other ?_ (by first | omega | (simp; omega) | (simp <;> fail) | fail)) | (with_reducible refine stays b3 ?_) | (with_reducible refine KT.at k4 (by decide) ?_) | (with_reducible refine heap_drewn ?_) | fail)) <;> fail))) | (with_reducible refine OS.atC ?_ (by ((repeat (first | with_reducible exact hq2.out | with_reducible exact hk2.out | with_reducible exact hp2.out | with_reducible exact hd2.out | with_reducible exact hu0 | with_reducible exact hu1 | with_reducible exact hu2 | with_reducible exact hu3 | (with_reducible apply box4_0) | (with_reducible apply box4_1) | (with_reducible apply box4_2) | (with_reducible apply box4_3) | (with_reducible apply box3_0) | (with_reducible apply box3_1) | (with_reducible apply box3_2) | (with_reducible refine heap_put _ _ _ (by first | rfl | (simp <;> fail) | fail)) | (with_reducible refine alloc_keep ?_) | (with_reducible refine box_other ?_ (by first | omega | (simp; omega) | (simp <;> fail) | fail)) | (with_reducible refine stays b3 ?_) | (with_reducible refine KT.at k4 (by decide) ?_) | (with_reducible refine heap_drewn ?_) | fail)) <;> fail))) | fail)) <;> fail)
                · ((repeat (first | with_reducible exact hb4 | exact Below.refl _ _ | (with_reducible refine Below.alloc ?_ (by first | omega | (simp; omega) | (simp <;> fail) | fail) _) | (with_reducible refine Below.setCell ?_ (by first | omega | (show _ ≤ _; omega) | (simp; omega) | (simp <;> fail) | fail) _) | (with_reducible refine Below.drew ?_) | fail)) <;> fail))
             | with_reducible exact MsMid.finSC (rt_bound rg4) (rt_sizes rg4) rb4 re4 og4 hb4
             | with_reducible exact MsMid.finCS (rt_bound rg4) (rt_sizes rg4) rb4 re4 og4 hb4
             | with_reducible exact MsMid.finsC hu0 (by omega) (rt_bound rg4) (rt_sizes rg4) rb4 re4 og4 hb4
             | with_reducible exact MsMid.fincS hu0 (by omega) (rt_bound rg4) (rt_sizes rg4) rb4 re4 og4 hb4
             | with_reducible exact MsMid.finsC hu1 (by omega) (rt_bound rg4) (rt_sizes rg4) rb4 re4 og4 hb4
             | with_reducible exact MsMid.fincS hu1 (by omega) (rt_bound rg4) (rt_sizes rg4) rb4 re4 og4 hb4
             | with_reducible exact MsMid.finsC hu2 (by omega) (rt_bound rg4) (rt_sizes rg4) rb4 re4 og4 hb4
             | with_reducible exact MsMid.fincS hu2 (by omega) (rt_bound rg4) (rt_sizes rg4) rb4 re4 og4 hb4
             | with_reducible exact MsMid.finsC hu3 (by omega) (rt_bound rg4) (rt_sizes rg4) rb4 re4 og4 hb4
             | with_reducible exact MsMid.fincS hu3 (by omega) (rt_bound rg4) (rt_sizes rg4) rb4 re4 og4 hb4
             | fail)
      case rest =>
        obtain ⟨q8, q9, va, vc, ua, uc, gA, gC, rfl, rfl, hq8, hq9, hq89, h8, h9, bnd, szs, rb5, re5, og5, hbx⟩ := hcut
        have hb5 := hid (b_call hb2.out hbx)
        have hp5 := hid (stays hbx hp2.out)
        have hd5 := hid (stays hbx hd2.out)
        have hl8 := heap_lt h8
        have hl9 := heap_lt h9
        replace h8 := hid h8
        replace h9 := hid h9
        replace bnd := hid bnd
        replace szs := hid szs
        replace rb5 := hid rb5
        replace re5 := hid re5
        have og5' := hid (OS.mono og5 hb2.out.size)
        clear og5 hbx x0 x1 x2 x3 y0 y1 y2 hst hcp hb2 hq2 hk2 hp2 hd2 hR hE hG hf1 hf2
        obtain ⟨x0, x1, x2, x3⟩ := box4f h8.out
        obtain ⟨y0', y1', y2', -⟩ := box3f h9.out
        have hnS := h8.out
        have hnC := h9.out
        have ne1 : q8 ≠ w.heap.size + 1 + 1 := by omega
        have ne2 : q8 ≠ w.heap.size + 1 + 1 + 1 := by omega
        have ne3 : q9 ≠ w.heap.size + 1 + 1 := by omega
        have ne4 : q9 ≠ w.heap.size + 1 + 1 + 1 := by omega
        obtain ⟨y0, y1, y2, y3⟩ := box4f hp5.out
        obtain ⟨z0, z1, z2, -⟩ := box3f hd5.out
        have g0 := frozen_heap hp5.out 0
        have g1 := frozen_heap hp5.out 1
        have g2 := frozen_heap hp5.out 2
        have g3 := frozen_heap hp5.out 3
        have kf0 := frozen_heap hd5.out 0
        have kf1 := frozen_heap hd5.out 1
        have kf2 := frozen_heap hd5.out 2
        have hS := box4f hnS
        have hC := box3f hnC
        go_wp2_with fail
        go_region_held3 (fun w' => w'.cell? ⟨q8, 0, none⟩ = some (.slice va B1.length vc) ∧ w'.cell? ⟨q8, 1, none⟩ = some (.slice ua es.length uc) ∧ w'.cell? ⟨q8, 2, none⟩ = some (.int .i64 r) ∧ w'.cell? ⟨q8, 3, none⟩ = some (.int .i64 t) ∧ w'.cell? ⟨q9, 0, none⟩ = some (.int .i64 k1) ∧ w'.cell? ⟨q9, 1, none⟩ = some (.slice gA G1.length gC) ∧ w'.cell? ⟨q9, 2, none⟩ = some (.string s1))
          (first
            | with_reducible exact ⟨hS.1, hS.2.1, hS.2.2.1, hS.2.2.2, hC.1, hC.2.1, hC.2.2.1⟩
            | (have h1 := box4f (heap_drewn (box4_other (q := w.heap.size + 1 + 1) (u0 := .slice va B1.length vc) (u1 := .slice ua es.length uc) (u2 := .int .i64 r) (u3 := .int .i64 t) hnS ne1))
               have h2 := box3f (heap_drewn (box4_other (q := w.heap.size + 1 + 1) (u0 := .slice va B1.length vc) (u1 := .slice ua es.length uc) (u2 := .int .i64 r) (u3 := .int .i64 t) hnC ne3))
               unfold World.box4 at h1 h2
               (try unfold World.box3 at h1 h2)
               with_reducible exact ⟨h1.1, h1.2.1, h1.2.2.1, h1.2.2.2, h2.1, h2.2.1, h2.2.2.1⟩)
            | (have h1 := box4f (heap_drewn (box3_other (q := w.heap.size + 1 + 1 + 1) (u0 := .int .i64 k1) (u1 := .slice gA G1.length gC) (u2 := .string s1) (box4_other (q := w.heap.size + 1 + 1) (u0 := .slice va B1.length vc) (u1 := .slice ua es.length uc) (u2 := .int .i64 r) (u3 := .int .i64 t) hnS ne1) ne2))
               have h2 := box3f (heap_drewn (box3_other (q := w.heap.size + 1 + 1 + 1) (u0 := .int .i64 k1) (u1 := .slice gA G1.length gC) (u2 := .string s1) (box4_other (q := w.heap.size + 1 + 1) (u0 := .slice va B1.length vc) (u1 := .slice ua es.length uc) (u2 := .int .i64 r) (u3 := .int .i64 t) hnC ne3) ne4))
               unfold World.box4 at h1 h2
               (try unfold World.box3 at h1 h2)
               with_reducible exact ⟨h1.1, h1.2.1, h1.2.2.1, h1.2.2.2, h2.1, h2.2.1, h2.2.2.1⟩)
            | go_keep
            | fail)
          (fail)
        go_wp2_with fail
        have hbox := (⟨_, _, _, _, _, _, _, _, hp5.out⟩ : ∃ a n c a' n' c' r t, wc.heap[w.heap.size + 1 + 1]? = some (.cells #[.slice a n c, .slice a' n' c', .int .i64 r, .int .i64 t] 29 (0, 0)))
        have hdx := box4_other (q := w.heap.size + 1 + 1) (u0 := .slice va B1.length vc) (u1 := .slice ua es.length uc) (u2 := .int .i64 r) (u3 := .int .i64 t) hd5.out (by omega)
        have rl9 := ((rb5.out.box4 EBlob.writes hbox va B1.length vc ua es.length uc r t).box3 EBlob.writesC ⟨_, _, _, _, _, hdx⟩ k1 gA G1.length gC s1).mono EBlob.stable (Below.refl _ _).drew
        have re9 := ((re5.out.box4 EEntry.writes hbox va B1.length vc ua es.length uc r t).box3 EEntry.writesC ⟨_, _, _, _, _, hdx⟩ k1 gA G1.length gC s1).mono EEntry.stable (Below.refl _ _).drew
        unfold World.box4 World.box3 at rl9 re9
        have os9 := OS.drew (OS.boxS3 (u0 := .int .i64 k1) (u1 := .slice gA G1.length gC) (u2 := .string s1) (OS.boxS4 (u0 := .slice va B1.length vc) (u1 := .slice ua es.length uc) (u2 := .int .i64 r) (u3 := .int .i64 t) og5'.out hp5.out (by decide)) hdx (by decide))
        have rt9 := reads_str os9 bnd.out szs.out
        unfold World.box4 World.box3 at os9 rt9
        have hp9 := heap_drewn (box3_other (q := w.heap.size + 1 + 1 + 1) (u0 := .int .i64 k1) (u1 := .slice gA G1.length gC) (u2 := .string s1) (box4_same (u0 := .slice va B1.length vc) (u1 := .slice ua es.length uc) (u2 := .int .i64 r) (u3 := .int .i64 t) hp5.out) (by omega))
        have hd9 := heap_drewn (box3_same (u0 := .int .i64 k1) (u1 := .slice gA G1.length gC) (u2 := .string s1) (box4_other (q := w.heap.size + 1 + 1) (u0 := .slice va B1.length vc) (u1 := .slice ua es.length uc) (u2 := .int .i64 r) (u3 := .int .i64 t) hd5.out (by omega)))
        have hb9 := (b_box3 (b_box4 hb5.out (q := w.heap.size + 1 + 1) (by omega) (.slice va B1.length vc) (.slice ua es.length uc) (.int .i64 r) (.int .i64 t)) (q := w.heap.size + 1 + 1 + 1) (by omega) (.int .i64 k1) (.slice gA G1.length gC) (.string s1)).drew
        obtain ⟨m0, m1, m2, m3⟩ := box4f hp9
        obtain ⟨n0, n1, n2, -⟩ := box3f hd9
        unfold World.box4 World.box3 at m0 m1 m2 m3 n0 n1 n2 hb9
        (try simp only [Exit.inBlock, Exit.then])
        refine bodyPost_ret (by simp [results, Tryz.results117, go_sem, m0, m1, m2, m3, n0, n1, n2]; try rfl) rfl ?_
        exact coO_ok hd.out rl9 re9 rt9 os9 hb9
    · have q1 : (ph != 1) = true := by simp [hph]
      have q2 : (ph == 1) = false := by simp [hph]
      have hd := hid (m2.out hph)
      clear m1 m2 m3 hch hcp
      obtain ⟨p0, p1, p2, p3⟩ := box4f hp2.out
      obtain ⟨d0, d1, d2, -⟩ := box3f hd2.out
      have g0 := frozen_heap hp2.out 0
      have g1 := frozen_heap hp2.out 1
      have g2 := frozen_heap hp2.out 2
      have g3 := frozen_heap hp2.out 3
      have k0 := frozen_heap hd2.out 0
      have k1 := frozen_heap hd2.out 1
      have k2 := frozen_heap hd2.out 2
      go_wp2_with fail
      have hd8 := box4_other (q := w.heap.size + 1 + 1) (u0 := .slice none 0 0) (u1 := .slice none 0 0) (u2 := .int .i64 0) (u3 := .int .i64 0) hd2.out (by omega)
      have hp9 := box3_other (q := w.heap.size + 1 + 1 + 1) (u0 := .int .i64 0) (u1 := .slice none 0 0) (u2 := .string ⟨#[]⟩) (box4_same (u0 := .slice none 0 0) (u1 := .slice none 0 0) (u2 := .int .i64 0) (u3 := .int .i64 0) hp2.out) (by omega)
      have hd9 := box3_same (u0 := .int .i64 0) (u1 := .slice none 0 0) (u2 := .string ⟨#[]⟩) hd8
      have hb9 := bB_box3 (bB_box4 hb2.out (q := w.heap.size + 1 + 1) (by omega) (.slice none 0 0) (.slice none 0 0) (.int .i64 0) (.int .i64 0)) (q := w.heap.size + 1 + 1 + 1) (by omega) (.int .i64 0) (.slice none 0 0) (.string ⟨#[]⟩)
      obtain ⟨m0, m1, m2, m3⟩ := box4f hp9
      obtain ⟨n0, n1, n2, -⟩ := box3f hd9
      unfold World.box4 World.box3 at m0 m1 m2 m3 n0 n1 n2 hb9
      (try simp only [Exit.inBlock, Exit.then])
      refine bodyPost_ret (by simp [results, Tryz.results117, go_sem, m0, m1, m2, m3, n0, n1, n2]; try rfl) rfl ?_
      exact coO_no hd.out hb9
  · have ht : (z != 0) = true := by simp [hz]
    have hd := hid (m1.out hz)
    replace hz := hid hz
    clear m1 m2 m3 hch hcp
    obtain ⟨p0, p1, p2, p3⟩ := box4f hp2.out
    obtain ⟨d0, d1, d2, -⟩ := box3f hd2.out
    have g0 := frozen_heap hp2.out 0
    have g1 := frozen_heap hp2.out 1
    have g2 := frozen_heap hp2.out 2
    have g3 := frozen_heap hp2.out 3
    have k0 := frozen_heap hd2.out 0
    have k1 := frozen_heap hd2.out 1
    have k2 := frozen_heap hd2.out 2
    go_wp2_with fail
    have hd8 := box4_other (q := w.heap.size + 1 + 1) (u0 := .slice none 0 0) (u1 := .slice none 0 0) (u2 := .int .i64 0) (u3 := .int .i64 0) hd2.out (by omega)
    have hp9 := box3_other (q := w.heap.size + 1 + 1 + 1) (u0 := .int .i64 0) (u1 := .slice none 0 0) (u2 := .string ⟨#[]⟩) (box4_same (u0 := .slice none 0 0) (u1 := .slice none 0 0) (u2 := .int .i64 0) (u3 := .int .i64 0) hp2.out) (by omega)
    have hd9 := box3_same (u0 := .int .i64 0) (u1 := .slice none 0 0) (u2 := .string ⟨#[]⟩) hd8
    have hb9 := bB_box3 (bB_box4 hb2.out (q := w.heap.size + 1 + 1) (by omega) (.slice none 0 0) (.slice none 0 0) (.int .i64 0) (.int .i64 0)) (q := w.heap.size + 1 + 1 + 1) (by omega) (.int .i64 0) (.slice none 0 0) (.string ⟨#[]⟩)
    obtain ⟨m0, m1, m2, m3⟩ := box4f hp9
    obtain ⟨n0, n1, n2, -⟩ := box3f hd9
    unfold World.box4 World.box3 at m0 m1 m2 m3 n0 n1 n2 hb9
    (try simp only [Exit.inBlock, Exit.then])
    refine bodyPost_ret (by simp [results, Tryz.results117, go_sem, m0, m1, m2, m3, n0, n1, n2]; try rfl) rfl ?_
    exact coO_no hd.out hb9
end Go.Proofs.YtpcnhldlfmdlhaaGreat
