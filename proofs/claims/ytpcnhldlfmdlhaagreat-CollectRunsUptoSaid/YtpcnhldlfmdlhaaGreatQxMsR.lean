/-
  The reference's MarkStepped: what it answers. Printed by gen_mst.py.
-/
import Derived.Test.YtpcnhldlfmdlhaaGreatQxMsL
import Derived.Test.YtpcnhldlfmdlhaaGreatQxChn
import Derived.Test.YtpcnhldlfmdlhaaGreatQxBrL
namespace Go.Proofs.YtpcnhldlfmdlhaaGreat
open Go.RowKit

theorem BpMid.fin1 {w wb W : World} {q : Nat} {B2 : List Blob} {E : List Entry} {r1 t1 ph : Int} {G2 : List ByteArray} {pl : ByteArray} {q14 c7 c8 c9 n c : Nat} {a7 a8 a9 e : Option Addr}
    (ho : W.heap[q]? = some (.cells #[.slice a7 B2.length c7, .slice a8 E.length c8, .int .i64 r1, .int .i64 t1] 29 (0, 0)))
    (hn : W.heap[q14]? = some (.cells #[.int .i64 ph, .slice e n c, .string pl] 32 (0, 0)))
    (hp : W.heap[w.heap.size + 1 + 1]? = some (.cells #[.slice none 0 0, .slice none 0 0, .int .i64 0, .int .i64 0] 29 (0, 0))) (hd : W.heap[w.heap.size + 1 + 1 + 1]? = some (.cells #[.int .i64 0, .slice none 0 0, .string ⟨#[]⟩] 32 (0, 0)))
    (hq : w.heap.size + 4 ≤ q ∧ q < wb.heap.size) (hq14 : wb.heap.size ≤ q14) (bnd : G2.length * 16 ≤ 140737488351232) (szs : ∀ s ∈ G2, s.size ≤ 140737488351232)
    (rb : RBl W (.slice a7 B2.length c7) B2) (re : RE W (.slice a8 E.length c8) E) (og : OS 9 1 cStr W w.heap.size (.slice a9 G2.length c9) G2) (hb : Below w.heap.size w W) :
    BpMid w wb q B2 E r1 t1 ph G2 pl (.pointer (some ⟨q14, 0, none⟩)) (W.setCell ⟨q14, 1, none⟩ (.slice a9 G2.length c9)) := by
  obtain ⟨h1, h2⟩ := hq
  exact ⟨q14, a7, c7, a8, c8, a9, c9, rfl, hq14, box_other ho (by omega), box3_1 hn, box_other hp (by omega), box_other hd (by omega), bnd, szs,
    RS.write rb (EBlob.writesC _ _ _ _ (CBox.of hn)), RS.write re (EEntry.writesC _ _ _ _ (CBox.of hn)), OS.atC og hn, hb.setCell (p := ⟨q14, 1, none⟩) (show w.heap.size ≤ q14 by omega) _⟩

set_option maxRecDepth 100000 in
set_option maxHeartbeats 24000000 in
theorem ref_MarkStepped' (v u gv : Value) (bs : List Blob) (es : List Entry) (r t ph : Int) (pl : ByteArray) (gy : List ByteArray) (w : World) (h : RBl w v bs) (g : RE w u es) (hg : RT w gv gy) (hl : (gy.length + 8) * 16 ≤ 140737488351232) (z : Int)
    (hch : ∀ w, RBl w v bs → RE w u es → Calls Tryz.prog 119 #[.agg #[v, u, .int .i64 r, .int .i64 t]] w fun e w' => e = .returned (.int .i64 z) ∧ Below w.heap.size w w') :
    Calls Tryz.prog 128 #[.agg #[v, u, .int .i64 r, .int .i64 t], .agg #[.int .i64 ph, gv, .string pl]] w (CoResO (mkOut z ph bs es r t gy) w) := by
  have hcp := hid (fun w (h : RBl w v bs) (g : RE w u es) => ref_StoreCopyO v u bs es r t w h g)
  unfold OwnedStore at hcp
  replace hch := hid hch
  have hR := hid h
  have hE := hid g
  have hG := hid hg
  have hf1 := hid (fit_B h)
  have hf2 := hid (fit_E g)
  have m1 := hid (@mk_bad z ph bs es r t gy)
  have m2 := hid (@mk_idle ph bs es r t gy)
  have m3 := hid (@mk_ok bs es r t gy)
  obtain ⟨a, c, rfl, hlc, hcm, hre, -⟩ := h
  obtain ⟨a2, c2, rfl, -, -, hre2, -⟩ := g
  obtain ⟨ga, gc, rfl, hgl, -⟩ := hg
  unfold maxLen at hcm
  obtain ⟨w1, hw1⟩ : ∃ w1 : World, w1 = (((w.alloc (Obj.cells #[.slice a bs.length c, .slice a2 es.length c2, .int .i64 r, .int .i64 t] 29)).alloc (Obj.cells #[.int .i64 ph, .slice ga gy.length gc, .string pl] 32)).alloc (Obj.cells #[.slice none 0 0, .slice none 0 0, .int .i64 0, .int .i64 0] 29)).alloc (Obj.cells #[.int .i64 0, .slice none 0 0, .string ⟨#[]⟩] 32) := ⟨_, rfl⟩
  have hb1 := hid (show Below w.heap.size w w1 by rw [hw1]; exact b_alloc (b_alloc (b_alloc (b_alloc (Below.refl _ _) _) _) _) _)
  have hq1 := hid (show w1.heap[w.heap.size]? = some (.cells #[.slice a bs.length c, .slice a2 es.length c2, .int .i64 r, .int .i64 t] 29 (0, 0)) by
    rw [hw1]
    exact (heap_alloc_old _ _ (by first | (simp <;> fail) | (simp; omega) | fail)).trans ((heap_alloc_old _ _ (by first | (simp <;> fail) | (simp; omega) | fail)).trans ((heap_alloc_old _ _ (by simp)).trans (heap_alloc_new w _))))
  have hk1 := hid (show w1.heap[w.heap.size + 1]? = some (.cells #[.int .i64 ph, .slice ga gy.length gc, .string pl] 32 (0, 0)) by
    rw [hw1]
    exact (heap_alloc_old _ _ (by first | (simp <;> fail) | (simp; omega) | fail)).trans ((heap_alloc_old _ _ (by simp)).trans (heap_put _ _ _ (by simp))))
  have hp1 := hid (show w1.heap[w.heap.size + 1 + 1]? = some (.cells #[.slice none 0 0, .slice none 0 0, .int .i64 0, .int .i64 0] 29 (0, 0)) by
    rw [hw1]
    exact (heap_alloc_old _ _ (by simp)).trans (heap_put _ _ _ (by simp)))
  have hd1 := hid (show w1.heap[w.heap.size + 1 + 1 + 1]? = some (.cells #[.int .i64 0, .slice none 0 0, .string ⟨#[]⟩] 32 (0, 0)) by
    rw [hw1]
    exact heap_put _ _ _ (by simp))
  obtain ⟨x0, x1, x2, x3⟩ := box4f hq1.out
  go_enter Tryz.func128, Tryz.ntmps128
  go_wp2_with fail
  rw [← hw1]
  clear hw1
  ((with_reducible refine (hch.out _ (hR.out.mono EBlob.stable hb1.out) (hE.out.mono EEntry.stable hb1.out)).mono ?_); rintro e w2 ⟨rfl, b2⟩)
  have hq2 := hid (stays b2 hq1.out)
  have hk2 := hid (stays b2 hk1.out)
  have hp2 := hid (stays b2 hp1.out)
  have hd2 := hid (stays b2 hd1.out)
  have hb2 := hid (b_call hb1.out b2)
  clear b2 hq1 hk1 hp1 hd1 hb1 x0 x1 x2 x3
  obtain ⟨x0, x1, x2, x3⟩ := box4f hq2.out
  obtain ⟨y0, y1, y2, -⟩ := box3f hk2.out
  by_cases hz : z = 0
  · subst hz
    by_cases hph : ph = 1
    · subst hph
      have hd := hid m3.out
      clear m1 m2 m3 hch
      have m3 := hid hd.out
      clear hd
      have m1 := hid (mst_nil (bs := bs) (gy := gy))
      have m2 := hid (fun d => mst_none (bs := bs) (gy := gy) (d := d))
      have m3' := hid (fun d x => mst_mark (bs := bs) (gy := gy) (d := d) (x := x))
      have m4 := hid (fun d x => mst_new (bs := bs) (gy := gy) (d := d) (x := x))
      have hgs := hid (rt_sizes hG.out)
      have hgb := hid (rt_bound hG.out)
      go_wp2_with fail
      ((with_reducible refine (hcp.out w2 (hR.out.mono EBlob.stable hb2.out) (hE.out.mono EEntry.stable hb2.out)).mono ?_); rintro e w3 ⟨v3, u3, rfl, o3', oe3', b3⟩)
      have o3 : Hid (OBlob w3 w2.heap.size v3 bs) := hid o3'
      have oe3 : Hid (OEntry w3 w2.heap.size u3 es) := hid oe3'
      have hq3 := hid (stays b3 hq2.out)
      have hk3 := hid (stays b3 hk2.out)
      have hp3 := hid (stays b3 hp2.out)
      have hd3 := hid (stays b3 hd2.out)
      have hb3 := hid (b_call hb2.out b3)
      have hw23 := b3.size
      obtain ⟨va, vc, rfl⟩ := OX.lenOf o3'
      obtain ⟨ua, uc, rfl⟩ := OX.lenOf oe3'
      clear hcp o3' oe3' b3 x0 x1 x2 x3 y0 y1 y2 hq2 hk2 hp2 hd2
      go_upto_region 7 with fail
      have hq4 := hid (alloc_keep (o := Obj.cells #[.slice va bs.length vc, .slice ua es.length uc, .int .i64 r, .int .i64 t] 29) hq3.out)
      have hk4 := hid (alloc_keep (o := Obj.cells #[.slice va bs.length vc, .slice ua es.length uc, .int .i64 r, .int .i64 t] 29) hk3.out)
      have hp4 := hid (alloc_keep (o := Obj.cells #[.slice va bs.length vc, .slice ua es.length uc, .int .i64 r, .int .i64 t] 29) hp3.out)
      have hd4 := hid (alloc_keep (o := Obj.cells #[.slice va bs.length vc, .slice ua es.length uc, .int .i64 r, .int .i64 t] 29) hd3.out)
      have hb4 := hid (b_alloc hb3.out (Obj.cells #[.slice va bs.length vc, .slice ua es.length uc, .int .i64 r, .int .i64 t] 29))
      have ho4 := hid (heap_alloc_new w3 (Obj.cells #[.slice va bs.length vc, .slice ua es.length uc, .int .i64 r, .int .i64 t] 29))
      have o4 := hid (OBlob.alloc o3.out (Obj.cells #[.slice va bs.length vc, .slice ua es.length uc, .int .i64 r, .int .i64 t] 29))
      have oe4 := hid (OEntry.alloc oe3.out (Obj.cells #[.slice va bs.length vc, .slice ua es.length uc, .int .i64 r, .int .i64 t] 29))
      have hl4 : w3.heap.size < (w3.alloc (Obj.cells #[.slice va bs.length vc, .slice ua es.length uc, .int .i64 r, .int .i64 t] 29)).heap.size := by simp
      generalize w3.alloc (Obj.cells #[.slice va bs.length vc, .slice ua es.length uc, .int .i64 r, .int .i64 t] 29) = w4 at *
      have hs5 : w.heap.size + 3 < w3.heap.size := heap_lt hd3.out
      clear hq3 hk3 hp3 hd3 hb3 o3 oe3
      have hln : w2.heap.size ≤ w3.heap.size := hw23
      have hld := heap_lt hd4.out
      have hb2s := hb2.out.size
      have rb4 := hid (o4.out.toR hre hf1.out)
      have re4 := hid (oe4.out.toR hre2 hf2.out)
      cases hgy : gy[0]? with
      | none =>
        have hd := hid (show mkOut 0 1 bs es r t gy = ⟨0, ⟨bs, es, r, t⟩, ⟨2, [], ⟨#[]⟩⟩⟩ by rw [m3.out, m1.out hgy])
        generalize mkOut 0 1 bs es r t gy = o9 at *
        have hn0 : gy.length = 0 := by
          rcases Nat.eq_zero_or_pos gy.length with h0 | h0
          · exact h0
          · rw [List.getElem?_eq_getElem h0] at hgy; cases hgy
        have hn1 : decide ((gy.length : Int) = 0) = true := decide_eq_true (by omega)
        have hn2 : ((gy.length : Int) == 0) = true := by rw [hn0]; rfl
        clear m1 m2 m3 m3' m4 hgy hn0
        obtain ⟨y0, y1, y2, -⟩ := box3f hk4.out
        obtain ⟨x0, x1, x2, x3⟩ := box4f ho4.out
        obtain ⟨p0, p1, p2, p3⟩ := box4f hp4.out
        obtain ⟨d0, d1, d2, -⟩ := box3f hd4.out
        have g0 := frozen_heap hp4.out 0
        have g1 := frozen_heap hp4.out 1
        have g2 := frozen_heap hp4.out 2
        have g3 := frozen_heap hp4.out 3
        have k0 := frozen_heap hd4.out 0
        have k1 := frozen_heap hd4.out 1
        have k2 := frozen_heap hd4.out 2
        go_wp2_with fail
        have hbox := (⟨_, _, _, _, _, _, _, _, hp4.out⟩ : ∃ a n c a' n' c' r t, w4.heap[w.heap.size + 1 + 1]? = some (.cells #[.slice a n c, .slice a' n' c', .int .i64 r, .int .i64 t] 29 (0, 0)))
        have hdx := box4_other (q := w.heap.size + 1 + 1) (u0 := .slice va bs.length vc) (u1 := .slice ua es.length uc) (u2 := .int .i64 r) (u3 := .int .i64 t) hd4.out (by omega)
        have rl9 := (rb4.out.box4 EBlob.writes hbox va bs.length vc ua es.length uc r t).box3 EBlob.writesC ⟨_, _, _, _, _, hdx⟩ 2 none 0 0 ⟨#[]⟩
        have re9 := (re4.out.box4 EEntry.writes hbox va bs.length vc ua es.length uc r t).box3 EEntry.writesC ⟨_, _, _, _, _, hdx⟩ 2 none 0 0 ⟨#[]⟩
        unfold World.box4 World.box3 at rl9 re9
        have hp9 := box3_other (q := w.heap.size + 1 + 1 + 1) (u0 := .int .i64 2) (u1 := .slice none 0 0) (u2 := .string ⟨#[]⟩) (box4_same (u0 := .slice va bs.length vc) (u1 := .slice ua es.length uc) (u2 := .int .i64 r) (u3 := .int .i64 t) hp4.out) (by omega)
        have hd9 := box3_same (u0 := .int .i64 2) (u1 := .slice none 0 0) (u2 := .string ⟨#[]⟩) (box4_other (q := w.heap.size + 1 + 1) (u0 := .slice va bs.length vc) (u1 := .slice ua es.length uc) (u2 := .int .i64 r) (u3 := .int .i64 t) hd4.out (by omega))
        have hb9 := b_box3 (b_box4 hb4.out (q := w.heap.size + 1 + 1) (by omega) (.slice va bs.length vc) (.slice ua es.length uc) (.int .i64 r) (.int .i64 t)) (q := w.heap.size + 1 + 1 + 1) (by omega) (.int .i64 2) (.slice none 0 0) (.string ⟨#[]⟩)
        obtain ⟨m0, m1, m2, m3⟩ := box4f hp9
        obtain ⟨n0, n1, n2, -⟩ := box3f hd9
        unfold World.box4 World.box3 at m0 m1 m2 m3 n0 n1 n2 hb9
        (try simp only [Exit.inBlock, Exit.then])
        refine bodyPost_ret (by simp [results, Tryz.results128, go_sem, m0, m1, m2, m3, n0, n1, n2]; try rfl) rfl ?_
        exact coO_ok hd.out rl9 re9 RS.nil OS.nil hb9
      | some d =>
        have hn0 : 0 < gy.length := by
          rcases Nat.eq_zero_or_pos gy.length with h0 | h0
          · rw [List.getElem?_eq_none (by omega)] at hgy; cases hgy
          · exact h0
        have hn2 : ((gy.length : Int) == 0) = false := beq_eq_false_iff_ne.2 (by omega)
        have hn3 : decide ((gy.length : Int) = 0) = false := decide_eq_false (by omega)
        have hgyn : (0 : Int) < (gy.length : Int) := by omega
        have hg1 : (1 : Int) ≤ (gy.length : Int) := by omega
        have rg4 := hG.out.mono EStr.stable hb4.out
        obtain ⟨gb, go, rfl, hgbl, he4, hsd⟩ := rt_at rg4 hgy
        rw [Nat.zero_mul, Nat.add_zero] at he4
        have hglc : gy.length ≤ gc := by obtain ⟨_, _, hh, h1, _⟩ := hG.out; simp only [Value.slice.injEq] at hh; omega
        obtain ⟨A, hA⟩ : ∃ A, (if gc = 1 then (some ⟨gb, go, none⟩ : Option Addr) else some ⟨gb, go + 1, none⟩) = A := ⟨_, rfl⟩
        have hfr := RS.from rg4 1 (by omega)
        rw [show (if gc = 1 then (some ⟨gb, go, none⟩ : Option Addr) else (some (⟨gb, go, none⟩ : Addr)).map (·.add (1 * 1))) = A by rw [← hA]; simp [Addr.add_lit]] at hfr
        have hfr4 := hid hfr
        clear hfr rg4
        have hdl : (gy.drop 1).length = gy.length - 1 := by rw [List.length_drop]
        have hcs := drop_sizes hgs.out 1
        obtain ⟨rest, hrest⟩ : ∃ rest, rest = gy.drop 1 := ⟨_, rfl⟩
        rw [← hrest] at hdl hcs hfr4
        replace hrest := hid hrest
        replace hcs := hid hcs
        obtain ⟨i0, ii0, hz0, hz1, hz2⟩ := info_parts info_str
        have ba := b_alloc (Below.refl w4.heap.size w4) (Obj.cells #[] 9)
        replace he4 := hid he4
        obtain ⟨y0, y1, y2, -⟩ := box3f hk4.out
        have lk4 := heap_lt hk4.out
        have lq4 := heap_lt hq4.out
        go_wp2_with (at_builtin; go_must (refine wpL_append flat_str rfl (.tmp 31) (.tmp 34) 30 rfl 9 i0 _ Tryz.underlying30 ii0 hz0 hz1 hz2 rfl w4.heap.size _ [] rfl (os_empty' _ _ _ _ (by simp) (by simp)) _ rest rfl (hfr4.out.mono EStr.stable ba) ?c1 ?c2 ?c3 ?_))
        case c1 => simp; omega
        case c2 => simp [maxLen]; have := hgb.out; omega
        case c3 => simp
        intro v5 w5 o5 g5
        (try rw [List.nil_append] at o5)
        have b5 := ba.grown g5 (by simp) (fun k hk => by simp [Value.ownBlock] at hk; omega)
        obtain ⟨na, nc, rfl, -⟩ := id (OS.len_le o5)
        rw [hdl] at o5
        have hw45 := b5.size
        have hq5 := hid (stays b5 hq4.out)
        have hk5 := hid (stays b5 hk4.out)
        have hp5 := hid (stays b5 hp4.out)
        have hd5 := hid (stays b5 hd4.out)
        have ho5 := hid (stays b5 ho4.out)
        have hb5 := hid (b_call hb4.out b5)
        have o5b := hid (OBlob.after o4.out b5)
        have oe5 := hid (OEntry.after oe4.out b5)
        have og5 := hid (OS.mono o5 (show w.heap.size ≤ w4.heap.size by omega))
        have he5 := hid (cell_stays b5 hgbl he4.out)
        have hgbl5 : gb < w5.heap.size := by omega
        have og5w := hid o5
        clear y0 y1 y2 ba g5 o5 b5 hq4 hk4 hp4 hd4 ho4 hb4 o4 oe4 he4 hfr4 rb4 re4 hA
        go_upto_region 10 with fail
        have hq6 := hid (alloc_keep (o := Obj.cells #[.int .i64 1, .slice na (gy.length - 1) nc, .string ⟨#[]⟩] 32) hq5.out)
        have hk6 := hid (alloc_keep (o := Obj.cells #[.int .i64 1, .slice na (gy.length - 1) nc, .string ⟨#[]⟩] 32) hk5.out)
        have hp6 := hid (alloc_keep (o := Obj.cells #[.int .i64 1, .slice na (gy.length - 1) nc, .string ⟨#[]⟩] 32) hp5.out)
        have hd6 := hid (alloc_keep (o := Obj.cells #[.int .i64 1, .slice na (gy.length - 1) nc, .string ⟨#[]⟩] 32) hd5.out)
        have ho6 := hid (alloc_keep (o := Obj.cells #[.int .i64 1, .slice na (gy.length - 1) nc, .string ⟨#[]⟩] 32) ho5.out)
        have hb6 := hid (b_alloc hb5.out (Obj.cells #[.int .i64 1, .slice na (gy.length - 1) nc, .string ⟨#[]⟩] 32))
        have hn6 := hid (heap_alloc_new w5 (Obj.cells #[.int .i64 1, .slice na (gy.length - 1) nc, .string ⟨#[]⟩] 32))
        have o6 := hid (OBlob.alloc o5b.out (Obj.cells #[.int .i64 1, .slice na (gy.length - 1) nc, .string ⟨#[]⟩] 32))
        have oe6 := hid (OEntry.alloc oe5.out (Obj.cells #[.int .i64 1, .slice na (gy.length - 1) nc, .string ⟨#[]⟩] 32))
        have og6 := hid (OS.alloc og5.out (Obj.cells #[.int .i64 1, .slice na (gy.length - 1) nc, .string ⟨#[]⟩] 32))
        have og6w := hid (OS.alloc og5w.out (Obj.cells #[.int .i64 1, .slice na (gy.length - 1) nc, .string ⟨#[]⟩] 32))
        have he6 := hid (cell_stays (b_alloc (Below.refl _ _) (Obj.cells #[.int .i64 1, .slice na (gy.length - 1) nc, .string ⟨#[]⟩] 32)) hgbl5 he5.out)
        have hl6 : w5.heap.size < (w5.alloc (Obj.cells #[.int .i64 1, .slice na (gy.length - 1) nc, .string ⟨#[]⟩] 32)).heap.size := by simp
        generalize w5.alloc (Obj.cells #[.int .i64 1, .slice na (gy.length - 1) nc, .string ⟨#[]⟩] 32) = w6 at *
        clear hq5 hk5 hp5 hd5 ho5 hb5 o5b oe5 og5 he5 og5w
        have rR6 := hid (hR.out.mono EBlob.stable hb6.out)
        obtain ⟨x0, x1, x2, x3⟩ := box4f hq6.out
        obtain ⟨y0, y1, y2, -⟩ := box3f hk6.out
        have hS := And.intro x0 (And.intro y1 he6.out)
        go_region_held3 (fun w' => w'.cell? ⟨w.heap.size, 0, none⟩ = some (.slice a bs.length c) ∧ w'.cell? ⟨w.heap.size + 1, 1, none⟩ = some (.slice (some ⟨gb, go, none⟩) gy.length gc) ∧ w'.cell? ⟨gb, go, none⟩ = some (.string d))
          (first | exact hS | go_keep | fail)
          ((first
            | ((with_reducible refine (ref_BlobAt _ bs d w6.drew (rR6.out.mono EBlob.stable (Below.refl _ w6).drew)).mono ?_)
               rintro e w7 ⟨rfl, rfl⟩)
            | fail))
        clear hS x0 x1 x2 x3 y0 y1 y2
        have hq7 := hid (heap_drewn hq6.out)
        have hk7 := hid (heap_drewn hk6.out)
        have hp7 := hid (heap_drewn hp6.out)
        have hd7 := hid (heap_drewn hd6.out)
        have ho7 := hid (heap_drewn ho6.out)
        have hn7 := hid (heap_drewn hn6.out)
        have hb7 := hid hb6.out.drew
        have o7 := hid (show OBlob w6.drew _ _ _ from o6.out)
        have oe7 := hid (show OEntry w6.drew _ _ _ from oe6.out)
        have og7 := hid (OS.drew og6.out)
        have og7w := hid (OS.drew og6w.out)
        have rR7 := hid (rR6.out.mono EBlob.stable (Below.refl _ w6).drew)
        have hl7 : w6.heap.size = w6.drew.heap.size := rfl
        replace hl7 := Nat.le_of_eq hl7
        generalize w6.drew = w7 at *
        clear hq6 hk6 hp6 hd6 ho6 hn6 hb6 o6 oe6 og6 og6w rR6 he6
        have rb7 := hid (o7.out.toR hre hf1.out)
        have re7 := hid (oe7.out.toR hre2 hf2.out)
        have hcl : (gy.length - 1) * 16 ≤ 140737488351232 := by have := hgb.out; omega
        have hclr : rest.length * 16 ≤ 140737488351232 := by rw [hdl]; exact hcl
        obtain ⟨x0, x1, x2, x3⟩ := box4f hq7.out
        by_cases hin : atKey (fun x : Blob => x.digest) d bs < bs.length
        · have hx : bs[atKey (fun x : Blob => x.digest) d bs]? = some bs[atKey (fun x : Blob => x.digest) d bs] := List.getElem?_eq_getElem hin
          replace m3' := hid (fun x => m3'.out d x hgy)
          replace m4 := hid (fun x => m4.out d x hgy)
          clear m1 m2
          generalize bs[atKey (fun x : Blob => x.digest) d bs] = x at hx
          generalize atKey (fun x : Blob => x.digest) d bs = i at *
          have d1 : decide ((i : Int) < (bs.length : Int)) = true := decide_eq_true (by omega)
          have d2 : decide (i < bs.length) = true := decide_eq_true hin
          have hi0 : (0 : Int) ≤ (i : Int) := by omega
          have hi1 : (i : Int) < (bs.length : Int) := by omega
          obtain ⟨bb, off, rfl, hbb, pv, b0, b1, b2', b3', hpv, -⟩ := rs_at rR7.out hx
          cases hm : x.mark with
          | true =>
            have hd := hid (show mkOut 0 1 bs es r t gy = ⟨0, ⟨bs, es, r, t⟩, ⟨1, rest, ⟨#[]⟩⟩⟩ by rw [m3.out, m3'.out x hx hm, hrest.out])
            generalize mkOut 0 1 bs es r t gy = o9 at *
            clear m3 m3' m4 hgy hx
            rw [hm] at b3'
            go_wp2_with fail
            have hnS := ho7.out
            have hnC := hn7.out
            have ne1 : w3.heap.size ≠ w.heap.size + 1 + 1 := by omega
            have ne2 : w3.heap.size ≠ w.heap.size + 1 + 1 + 1 := by omega
            have ne3 : w5.heap.size ≠ w.heap.size + 1 + 1 := by omega
            have ne4 : w5.heap.size ≠ w.heap.size + 1 + 1 + 1 := by omega
            obtain ⟨y0, y1, y2, y3⟩ := box4f hp7.out
            obtain ⟨z0, z1, z2, -⟩ := box3f hd7.out
            have g0 := frozen_heap hp7.out 0
            have g1 := frozen_heap hp7.out 1
            have g2 := frozen_heap hp7.out 2
            have g3 := frozen_heap hp7.out 3
            have kf0 := frozen_heap hd7.out 0
            have kf1 := frozen_heap hd7.out 1
            have kf2 := frozen_heap hd7.out 2
            have hS := box4f hnS
            have hC := box3f hnC
            go_wp2_with fail
            go_region_held3 (fun w' => w'.cell? ⟨w3.heap.size, 0, none⟩ = some (.slice va bs.length vc) ∧ w'.cell? ⟨w3.heap.size, 1, none⟩ = some (.slice ua es.length uc) ∧ w'.cell? ⟨w3.heap.size, 2, none⟩ = some (.int .i64 r) ∧ w'.cell? ⟨w3.heap.size, 3, none⟩ = some (.int .i64 t) ∧ w'.cell? ⟨w5.heap.size, 0, none⟩ = some (.int .i64 1) ∧ w'.cell? ⟨w5.heap.size, 1, none⟩ = some (.slice na (gy.length - 1) nc) ∧ w'.cell? ⟨w5.heap.size, 2, none⟩ = some (.string ⟨#[]⟩))
              (first
                | with_reducible exact ⟨hS.1, hS.2.1, hS.2.2.1, hS.2.2.2, hC.1, hC.2.1, hC.2.2.1⟩
                | (have h1 := box4f (heap_drewn (box4_other (q := w.heap.size + 1 + 1) (u0 := .slice va bs.length vc) (u1 := .slice ua es.length uc) (u2 := .int .i64 r) (u3 := .int .i64 t) hnS ne1))
                   have h2 := box3f (heap_drewn (box4_other (q := w.heap.size + 1 + 1) (u0 := .slice va bs.length vc) (u1 := .slice ua es.length uc) (u2 := .int .i64 r) (u3 := .int .i64 t) hnC ne3))
                   unfold World.box4 at h1 h2
                   (try unfold World.box3 at h1 h2)
                   with_reducible exact ⟨h1.1, h1.2.1, h1.2.2.1, h1.2.2.2, h2.1, h2.2.1, h2.2.2.1⟩)
                | (have h1 := box4f (heap_drewn (box3_other (q := w.heap.size + 1 + 1 + 1) (u0 := .int .i64 1) (u1 := .slice na (gy.length - 1) nc) (u2 := .string ⟨#[]⟩) (box4_other (q := w.heap.size + 1 + 1) (u0 := .slice va bs.length vc) (u1 := .slice ua es.length uc) (u2 := .int .i64 r) (u3 := .int .i64 t) hnS ne1) ne2))
                   have h2 := box3f (heap_drewn (box3_other (q := w.heap.size + 1 + 1 + 1) (u0 := .int .i64 1) (u1 := .slice na (gy.length - 1) nc) (u2 := .string ⟨#[]⟩) (box4_other (q := w.heap.size + 1 + 1) (u0 := .slice va bs.length vc) (u1 := .slice ua es.length uc) (u2 := .int .i64 r) (u3 := .int .i64 t) hnC ne3) ne4))
                   unfold World.box4 at h1 h2
                   (try unfold World.box3 at h1 h2)
                   with_reducible exact ⟨h1.1, h1.2.1, h1.2.2.1, h1.2.2.2, h2.1, h2.2.1, h2.2.2.1⟩)
                | go_keep
                | fail)
              (fail)
            go_wp2_with fail
            have hbox := (⟨_, _, _, _, _, _, _, _, hp7.out⟩ : ∃ a n c a' n' c' r t, w7.heap[w.heap.size + 1 + 1]? = some (.cells #[.slice a n c, .slice a' n' c', .int .i64 r, .int .i64 t] 29 (0, 0)))
            have hdx := box4_other (q := w.heap.size + 1 + 1) (u0 := .slice va bs.length vc) (u1 := .slice ua es.length uc) (u2 := .int .i64 r) (u3 := .int .i64 t) hd7.out (by omega)
            have rl9 := ((rb7.out.box4 EBlob.writes hbox va bs.length vc ua es.length uc r t).box3 EBlob.writesC ⟨_, _, _, _, _, hdx⟩ 1 na (gy.length - 1) nc ⟨#[]⟩).mono EBlob.stable (Below.refl _ _).drew
            have re9 := ((re7.out.box4 EEntry.writes hbox va bs.length vc ua es.length uc r t).box3 EEntry.writesC ⟨_, _, _, _, _, hdx⟩ 1 na (gy.length - 1) nc ⟨#[]⟩).mono EEntry.stable (Below.refl _ _).drew
            unfold World.box4 World.box3 at rl9 re9
            have os9 := OS.drew (OS.boxS3 (u0 := .int .i64 1) (u1 := .slice na (gy.length - 1) nc) (u2 := .string ⟨#[]⟩) (OS.boxS4 (u0 := .slice va bs.length vc) (u1 := .slice ua es.length uc) (u2 := .int .i64 r) (u3 := .int .i64 t) og7.out hp7.out (by decide)) hdx (by decide))
            have rt9 := reads_str os9 hclr hcs.out
            unfold World.box4 World.box3 at os9 rt9
            have hp9 := heap_drewn (box3_other (q := w.heap.size + 1 + 1 + 1) (u0 := .int .i64 1) (u1 := .slice na (gy.length - 1) nc) (u2 := .string ⟨#[]⟩) (box4_same (u0 := .slice va bs.length vc) (u1 := .slice ua es.length uc) (u2 := .int .i64 r) (u3 := .int .i64 t) hp7.out) (by omega))
            have hd9 := heap_drewn (box3_same (u0 := .int .i64 1) (u1 := .slice na (gy.length - 1) nc) (u2 := .string ⟨#[]⟩) (box4_other (q := w.heap.size + 1 + 1) (u0 := .slice va bs.length vc) (u1 := .slice ua es.length uc) (u2 := .int .i64 r) (u3 := .int .i64 t) hd7.out (by omega)))
            have hb9 := (b_box3 (b_box4 hb7.out (q := w.heap.size + 1 + 1) (by omega) (.slice va bs.length vc) (.slice ua es.length uc) (.int .i64 r) (.int .i64 t)) (q := w.heap.size + 1 + 1 + 1) (by omega) (.int .i64 1) (.slice na (gy.length - 1) nc) (.string ⟨#[]⟩)).drew
            obtain ⟨m0, m1, m2, m3⟩ := box4f hp9
            obtain ⟨n0, n1, n2, -⟩ := box3f hd9
            unfold World.box4 World.box3 at m0 m1 m2 m3 n0 n1 n2 hb9
            (try simp only [Exit.inBlock, Exit.then])
            refine bodyPost_ret (by simp [results, Tryz.results128, go_sem, m0, m1, m2, m3, n0, n1, n2]; try rfl) rfl ?_
            exact coO_ok hd.out rl9 re9 rt9 os9 hb9
          | false =>
            have hd := hid (show mkOut 0 1 bs es r t gy = ⟨0, ⟨bs.set i { x with mark := true }, es, r, t⟩, ⟨1, addedL rest (digsOf x), ⟨#[]⟩⟩⟩ by rw [m3.out, m4.out x hx hm, hrest.out])
            generalize mkOut 0 1 bs es r t gy = o9 at *
            clear m3 m3' m4 hgy
            rw [hm] at b3'
            have hlen : (bs.set i { x with mark := true }).length = bs.length := List.length_set
            have hf8 := hid (mark_fit hf1.out hx)
            obtain ⟨gg, cap, hv, hgB, hgl2, ⟨uu, hcu⟩, hfz⟩ := OX.spot o7.out (i := i) (o := 3) hin (by decide)
            simp only [Value.slice.injEq, true_and] at hv
            obtain ⟨rfl, rfl⟩ := hv
            obtain ⟨cs9, T9, fr9, hg9, rfl⟩ := obt o7.out rfl
            have o8 := hid (OBlob.mark true o7.out hx)
            have oe8 := hid (OEntry.beside (o := i * 4 + 3) (u := .bool true) oe7.out o7.out)
            have hq8 := hid (box_other (q := gg) (o := i * 4 + 3) (u := .bool true) hq7.out (ne_type hg9 hq7.out (by decide)))
            have hk8 := hid (box_other (q := gg) (o := i * 4 + 3) (u := .bool true) hk7.out (ne_type hg9 hk7.out (by decide)))
            have hp8 := hid (box_other (q := gg) (o := i * 4 + 3) (u := .bool true) hp7.out (ne_type hg9 hp7.out (by decide)))
            have hd8 := hid (box_other (q := gg) (o := i * 4 + 3) (u := .bool true) hd7.out (ne_type hg9 hd7.out (by decide)))
            have ho8 := hid (box_other (q := gg) (o := i * 4 + 3) (u := .bool true) ho7.out (ne_type hg9 ho7.out (by decide)))
            have hn8 := hid (box_other (q := gg) (o := i * 4 + 3) (u := .bool true) hn7.out (ne_type hg9 hn7.out (by decide)))
            have og8 := hid (OS.other (o := i * 4 + 3) (u := .bool true) og7.out hg9 (by decide))
            have hgw : w.heap.size ≤ gg := by omega
            have hb8 := hid (hb7.out.setCell (p := ⟨gg, i * 4 + 3, none⟩) hgw (.bool true))
            obtain ⟨xo0, xo1, xo2, xo3⟩ := box4f ho7.out
            go_upto_region 13 with fail
            have hsw : (w7.setCell ⟨gg, i * 4 + 3, none⟩ (.bool true)).heap.size = w7.heap.size := by simp [World.setCell]
            replace hsw := Nat.le_of_eq hsw.symm
            clear xo0 xo1 xo2 xo3 x0 x1 x2 x3 b0 b1 b2' b3' hpv hcu hfz hg9 rb7 re7 o7 oe7 og7 og7w
            generalize w7.setCell ⟨gg, i * 4 + 3, none⟩ (.bool true) = w8 at *
            clear hq7 hk7 hp7 hd7 ho7 hn7 hb7 rR7
            have rR8 := hid (hR.out.mono EBlob.stable hb8.out)
            have rb8 := hid (o8.out.toR (by rw [hlen]; exact hre) hf8.out)
            have re8 := hid (oe8.out.toR hre2 hf2.out)
            have rg8 := hid (reads_str og8.out hclr hcs.out)
            clear o8 oe8
            obtain ⟨bb1, off1, hab, hbb1, pv1, b0, b1, b2', b3', hpv, -⟩ := rs_at rR8.out hx
            simp only [Option.some.injEq, Addr.mk.injEq, and_true] at hab
            obtain ⟨rfl, rfl⟩ := hab
            rw [hm] at b3'
            obtain ⟨da, dc, rfl, -⟩ := id hpv
            replace hpv := hid hpv
            have hPI := fun W h => ref_PartsInD x (.slice da x.data.length dc) W h
            simp only [hm] at hPI
            replace hPI := hid hPI
            have hds := digs_small x
            have hAd := hid (fun a b W (h : RT W a rest) (g : RT W b (digsOf x)) => ref_MarkAdded a b rest (digsOf x) W h g (by rw [hdl]; have := hgb.out; omega) (fun s hs => (List.mem_append.1 hs).elim (hcs.out s) (hds.2 s)))
            unfold AddPost at hAd
            generalize addedL rest (digsOf x) = AL at *
            have hnx : w4.heap.size ≤ w5.heap.size := hw45
            go_cut [9] from 37 (fun s9 wx => BpMid w w4 w3.heap.size (bs.set i { x with mark := true }) es r t 1 AL ⟨#[]⟩ s9 wx)
            case first =>
              obtain ⟨q0, q1, q2, q3⟩ := box4f hq8.out
              obtain ⟨n0, n1, n2, -⟩ := box3f hn8.out
              have lq8 := heap_lt hq8.out
              have ln8 := heap_lt hn8.out
              go_region_with ((first
                | ((with_reducible refine (hPI.out _ (hpv.out.mono EU8.stable (by first | exact Below.refl _ _ | exact (Below.refl _ w8).drew | fail))).mono ?_)
                   rintro e wA ⟨vA, rfl, oA', bA⟩
                   have hbA : Below w8.heap.size w8 wA := b_call (by first | exact Below.refl _ _ | exact (Below.refl _ w8).drew | fail) bA
                   have hnA := (hbA.block _ ln8).trans hn8.out
                   obtain ⟨nA0, nA1, nA2, -⟩ := box3f hnA
                   have lnA := heap_lt hnA
                   have oA : OS 9 1 cStr wA _ vA (digsOf x) := oA'
                   have rA := reads_str oA (by omega) hds.2
                   have hsA := hbA.size)
                | ((with_reducible refine (hAd.out _ _ _ (rg8.out.mono EStr.stable (by first | exact hbA | exact hbA.drew | fail)) (by first | exact rA | exact rA.mono EStr.stable (Below.refl _ _).drew)).mono ?_)
                   rintro e wB ⟨vB, rfl, rB, oB', bB⟩
                   have hbB : Below w8.heap.size w8 wB := b_call (by first | exact hbA | exact hbA.drew | fail) bB
                   have hnB := (hbB.block _ ln8).trans hn8.out
                   obtain ⟨nB0, nB1, nB2, fB0, fB1, fB2⟩ := box3f hnB
                   have lnB := heap_lt hnB
                   have hsB := hbB.size
                   have oB : OS 9 1 cStr wB w.heap.size vB AL := OS.mono oB' (by have := hb8.out.size; first | omega | (simp; omega))
                   obtain ⟨aB, cB, rfl, -⟩ := id rB
                   have hfin := hid (BpMid.fin1 (w := w) (wb := w4) (pl := ⟨#[]⟩) (q := w3.heap.size) (B2 := bs.set i { x with mark := true }) (E := es) (r1 := r) (t1 := t) (G2 := AL) (a9 := aB) (c9 := cB) (show wB.heap[w3.heap.size]? = some (.cells #[.slice (some ⟨gg, 0, none⟩) (bs.set i { x with mark := true }).length vc, .slice ua es.length uc, .int .i64 r, .int .i64 t] 29 (0, 0)) by rw [hlen]; exact (hbB.block _ (heap_lt ho8.out)).trans ho8.out) hnB
                     ((hbB.block _ (heap_lt hp8.out)).trans hp8.out) ((hbB.block _ (heap_lt hd8.out)).trans hd8.out) (by omega) (by omega) (rt_bound rB) (rt_sizes rB) (show RBl wB (.slice (some ⟨gg, 0, none⟩) (bs.set i { x with mark := true }).length vc) _ by rw [hlen]; exact rb8.out.mono EBlob.stable hbB) (re8.out.mono EEntry.stable hbB) oB (b_call hb8.out hbB)))
                | fail))
              all_goals
                (go_wp2_with fail
                 go_meet
                 with_reducible exact hfin.out)
            case rest =>
              obtain ⟨q14, a7, c7, a8, c8, a9, c9, rfl, hq14, ho9, hn9, hp9, hd9, bnd, szs, rb9, re9', og9, hb9'⟩ := hcut
              have hl14 := heap_lt hn9
              have hlo9 := heap_lt ho9
              have hq14' : w.heap.size + 3 < q14 := by omega
              replace ho9 := hid ho9
              replace hn9 := hid hn9
              have hp9' := hid hp9
              have hd9' := hid hd9
              replace bnd := hid bnd
              replace szs := hid szs
              replace rb9 := hid rb9
              replace re9' := hid re9'
              replace og9 := hid og9
              have hb99 := hid hb9'
              clear hp9 hd9 hb9'
              rw [hlen] at ho9 rb9
              obtain ⟨x0, x1, x2, x3⟩ := box4f ho9.out
              obtain ⟨e0, e1', e2, -⟩ := box3f hn9.out
              have hnS := ho9.out
              have hnC := hn9.out
              have ne1 : w3.heap.size ≠ w.heap.size + 1 + 1 := by omega
              have ne2 : w3.heap.size ≠ w.heap.size + 1 + 1 + 1 := by omega
              have ne3 : q14 ≠ w.heap.size + 1 + 1 := by omega
              have ne4 : q14 ≠ w.heap.size + 1 + 1 + 1 := by omega
              obtain ⟨y0, y1, y2, y3⟩ := box4f hp9'.out
              obtain ⟨z0, z1, z2, -⟩ := box3f hd9'.out
              have g0 := frozen_heap hp9'.out 0
              have g1 := frozen_heap hp9'.out 1
              have g2 := frozen_heap hp9'.out 2
              have g3 := frozen_heap hp9'.out 3
              have kf0 := frozen_heap hd9'.out 0
              have kf1 := frozen_heap hd9'.out 1
              have kf2 := frozen_heap hd9'.out 2
              have hS := box4f hnS
              have hC := box3f hnC
              go_wp2_with fail
              go_region_held3 (fun w' => w'.cell? ⟨w3.heap.size, 0, none⟩ = some (.slice a7 bs.length c7) ∧ w'.cell? ⟨w3.heap.size, 1, none⟩ = some (.slice a8 es.length c8) ∧ w'.cell? ⟨w3.heap.size, 2, none⟩ = some (.int .i64 r) ∧ w'.cell? ⟨w3.heap.size, 3, none⟩ = some (.int .i64 t) ∧ w'.cell? ⟨q14, 0, none⟩ = some (.int .i64 1) ∧ w'.cell? ⟨q14, 1, none⟩ = some (.slice a9 AL.length c9) ∧ w'.cell? ⟨q14, 2, none⟩ = some (.string ⟨#[]⟩))
                (first
                  | with_reducible exact ⟨hS.1, hS.2.1, hS.2.2.1, hS.2.2.2, hC.1, hC.2.1, hC.2.2.1⟩
                  | (have h1 := box4f (heap_drewn (box4_other (q := w.heap.size + 1 + 1) (u0 := .slice a7 bs.length c7) (u1 := .slice a8 es.length c8) (u2 := .int .i64 r) (u3 := .int .i64 t) hnS ne1))
                     have h2 := box3f (heap_drewn (box4_other (q := w.heap.size + 1 + 1) (u0 := .slice a7 bs.length c7) (u1 := .slice a8 es.length c8) (u2 := .int .i64 r) (u3 := .int .i64 t) hnC ne3))
                     unfold World.box4 at h1 h2
                     (try unfold World.box3 at h1 h2)
                     with_reducible exact ⟨h1.1, h1.2.1, h1.2.2.1, h1.2.2.2, h2.1, h2.2.1, h2.2.2.1⟩)
                  | (have h1 := box4f (heap_drewn (box3_other (q := w.heap.size + 1 + 1 + 1) (u0 := .int .i64 1) (u1 := .slice a9 AL.length c9) (u2 := .string ⟨#[]⟩) (box4_other (q := w.heap.size + 1 + 1) (u0 := .slice a7 bs.length c7) (u1 := .slice a8 es.length c8) (u2 := .int .i64 r) (u3 := .int .i64 t) hnS ne1) ne2))
                     have h2 := box3f (heap_drewn (box3_other (q := w.heap.size + 1 + 1 + 1) (u0 := .int .i64 1) (u1 := .slice a9 AL.length c9) (u2 := .string ⟨#[]⟩) (box4_other (q := w.heap.size + 1 + 1) (u0 := .slice a7 bs.length c7) (u1 := .slice a8 es.length c8) (u2 := .int .i64 r) (u3 := .int .i64 t) hnC ne3) ne4))
                     unfold World.box4 at h1 h2
                     (try unfold World.box3 at h1 h2)
                     with_reducible exact ⟨h1.1, h1.2.1, h1.2.2.1, h1.2.2.2, h2.1, h2.2.1, h2.2.2.1⟩)
                  | go_keep
                  | fail)
                (fail)
              go_wp2_with fail
              have hbox := (⟨_, _, _, _, _, _, _, _, hp9'.out⟩ : ∃ a n c a' n' c' r t, wc.heap[w.heap.size + 1 + 1]? = some (.cells #[.slice a n c, .slice a' n' c', .int .i64 r, .int .i64 t] 29 (0, 0)))
              have hdx := box4_other (q := w.heap.size + 1 + 1) (u0 := .slice a7 bs.length c7) (u1 := .slice a8 es.length c8) (u2 := .int .i64 r) (u3 := .int .i64 t) hd9'.out (by omega)
              have rl9 := ((rb9.out.box4 EBlob.writes hbox a7 bs.length c7 a8 es.length c8 r t).box3 EBlob.writesC ⟨_, _, _, _, _, hdx⟩ 1 a9 AL.length c9 ⟨#[]⟩).mono EBlob.stable (Below.refl _ _).drew
              have re9 := ((re9'.out.box4 EEntry.writes hbox a7 bs.length c7 a8 es.length c8 r t).box3 EEntry.writesC ⟨_, _, _, _, _, hdx⟩ 1 a9 AL.length c9 ⟨#[]⟩).mono EEntry.stable (Below.refl _ _).drew
              unfold World.box4 World.box3 at rl9 re9
              have os9 := OS.drew (OS.boxS3 (u0 := .int .i64 1) (u1 := .slice a9 AL.length c9) (u2 := .string ⟨#[]⟩) (OS.boxS4 (u0 := .slice a7 bs.length c7) (u1 := .slice a8 es.length c8) (u2 := .int .i64 r) (u3 := .int .i64 t) og9.out hp9'.out (by decide)) hdx (by decide))
              have rt9 := reads_str os9 bnd.out szs.out
              unfold World.box4 World.box3 at os9 rt9
              have hp9 := heap_drewn (box3_other (q := w.heap.size + 1 + 1 + 1) (u0 := .int .i64 1) (u1 := .slice a9 AL.length c9) (u2 := .string ⟨#[]⟩) (box4_same (u0 := .slice a7 bs.length c7) (u1 := .slice a8 es.length c8) (u2 := .int .i64 r) (u3 := .int .i64 t) hp9'.out) (by omega))
              have hd9 := heap_drewn (box3_same (u0 := .int .i64 1) (u1 := .slice a9 AL.length c9) (u2 := .string ⟨#[]⟩) (box4_other (q := w.heap.size + 1 + 1) (u0 := .slice a7 bs.length c7) (u1 := .slice a8 es.length c8) (u2 := .int .i64 r) (u3 := .int .i64 t) hd9'.out (by omega)))
              have hb9 := (b_box3 (b_box4 hb99.out (q := w.heap.size + 1 + 1) (by omega) (.slice a7 bs.length c7) (.slice a8 es.length c8) (.int .i64 r) (.int .i64 t)) (q := w.heap.size + 1 + 1 + 1) (by omega) (.int .i64 1) (.slice a9 AL.length c9) (.string ⟨#[]⟩)).drew
              obtain ⟨m0, m1, m2, m3⟩ := box4f hp9
              obtain ⟨n0, n1, n2, -⟩ := box3f hd9
              unfold World.box4 World.box3 at m0 m1 m2 m3 n0 n1 n2 hb9
              (try simp only [Exit.inBlock, Exit.then])
              refine bodyPost_ret (by simp [results, Tryz.results128, go_sem, m0, m1, m2, m3, n0, n1, n2]; try rfl) rfl ?_
              exact coO_ok hd.out rl9 re9 rt9 os9 hb9
        · have hd := hid (show mkOut 0 1 bs es r t gy = ⟨0, ⟨bs, es, r, t⟩, ⟨1, rest, ⟨#[]⟩⟩⟩ by rw [m3.out, m2.out d hgy (List.getElem?_eq_none (by omega)), hrest.out])
          generalize mkOut 0 1 bs es r t gy = o9 at *
          generalize atKey (fun x : Blob => x.digest) d bs = i at *
          have d1 : decide ((i : Int) < (bs.length : Int)) = false := decide_eq_false (by omega)
          have d2 : decide (i < bs.length) = false := decide_eq_false hin
          clear m1 m2 m3 m3' m4 hgy hin
          go_wp2_with fail
          have hnS := ho7.out
          have hnC := hn7.out
          have ne1 : w3.heap.size ≠ w.heap.size + 1 + 1 := by omega
          have ne2 : w3.heap.size ≠ w.heap.size + 1 + 1 + 1 := by omega
          have ne3 : w5.heap.size ≠ w.heap.size + 1 + 1 := by omega
          have ne4 : w5.heap.size ≠ w.heap.size + 1 + 1 + 1 := by omega
          obtain ⟨y0, y1, y2, y3⟩ := box4f hp7.out
          obtain ⟨z0, z1, z2, -⟩ := box3f hd7.out
          have g0 := frozen_heap hp7.out 0
          have g1 := frozen_heap hp7.out 1
          have g2 := frozen_heap hp7.out 2
          have g3 := frozen_heap hp7.out 3
          have kf0 := frozen_heap hd7.out 0
          have kf1 := frozen_heap hd7.out 1
          have kf2 := frozen_heap hd7.out 2
          have hS := box4f hnS
          have hC := box3f hnC
          go_wp2_with fail
          go_region_held3 (fun w' => w'.cell? ⟨w3.heap.size, 0, none⟩ = some (.slice va bs.length vc) ∧ w'.cell? ⟨w3.heap.size, 1, none⟩ = some (.slice ua es.length uc) ∧ w'.cell? ⟨w3.heap.size, 2, none⟩ = some (.int .i64 r) ∧ w'.cell? ⟨w3.heap.size, 3, none⟩ = some (.int .i64 t) ∧ w'.cell? ⟨w5.heap.size, 0, none⟩ = some (.int .i64 1) ∧ w'.cell? ⟨w5.heap.size, 1, none⟩ = some (.slice na (gy.length - 1) nc) ∧ w'.cell? ⟨w5.heap.size, 2, none⟩ = some (.string ⟨#[]⟩))
            (first
              | with_reducible exact ⟨hS.1, hS.2.1, hS.2.2.1, hS.2.2.2, hC.1, hC.2.1, hC.2.2.1⟩
              | (have h1 := box4f (heap_drewn (box4_other (q := w.heap.size + 1 + 1) (u0 := .slice va bs.length vc) (u1 := .slice ua es.length uc) (u2 := .int .i64 r) (u3 := .int .i64 t) hnS ne1))
                 have h2 := box3f (heap_drewn (box4_other (q := w.heap.size + 1 + 1) (u0 := .slice va bs.length vc) (u1 := .slice ua es.length uc) (u2 := .int .i64 r) (u3 := .int .i64 t) hnC ne3))
                 unfold World.box4 at h1 h2
                 (try unfold World.box3 at h1 h2)
                 with_reducible exact ⟨h1.1, h1.2.1, h1.2.2.1, h1.2.2.2, h2.1, h2.2.1, h2.2.2.1⟩)
              | (have h1 := box4f (heap_drewn (box3_other (q := w.heap.size + 1 + 1 + 1) (u0 := .int .i64 1) (u1 := .slice na (gy.length - 1) nc) (u2 := .string ⟨#[]⟩) (box4_other (q := w.heap.size + 1 + 1) (u0 := .slice va bs.length vc) (u1 := .slice ua es.length uc) (u2 := .int .i64 r) (u3 := .int .i64 t) hnS ne1) ne2))
                 have h2 := box3f (heap_drewn (box3_other (q := w.heap.size + 1 + 1 + 1) (u0 := .int .i64 1) (u1 := .slice na (gy.length - 1) nc) (u2 := .string ⟨#[]⟩) (box4_other (q := w.heap.size + 1 + 1) (u0 := .slice va bs.length vc) (u1 := .slice ua es.length uc) (u2 := .int .i64 r) (u3 := .int .i64 t) hnC ne3) ne4))
                 unfold World.box4 at h1 h2
                 (try unfold World.box3 at h1 h2)
                 with_reducible exact ⟨h1.1, h1.2.1, h1.2.2.1, h1.2.2.2, h2.1, h2.2.1, h2.2.2.1⟩)
              | go_keep
              | fail)
            (fail)
          go_wp2_with fail
          have hbox := (⟨_, _, _, _, _, _, _, _, hp7.out⟩ : ∃ a n c a' n' c' r t, w7.heap[w.heap.size + 1 + 1]? = some (.cells #[.slice a n c, .slice a' n' c', .int .i64 r, .int .i64 t] 29 (0, 0)))
          have hdx := box4_other (q := w.heap.size + 1 + 1) (u0 := .slice va bs.length vc) (u1 := .slice ua es.length uc) (u2 := .int .i64 r) (u3 := .int .i64 t) hd7.out (by omega)
          have rl9 := ((rb7.out.box4 EBlob.writes hbox va bs.length vc ua es.length uc r t).box3 EBlob.writesC ⟨_, _, _, _, _, hdx⟩ 1 na (gy.length - 1) nc ⟨#[]⟩).mono EBlob.stable (Below.refl _ _).drew
          have re9 := ((re7.out.box4 EEntry.writes hbox va bs.length vc ua es.length uc r t).box3 EEntry.writesC ⟨_, _, _, _, _, hdx⟩ 1 na (gy.length - 1) nc ⟨#[]⟩).mono EEntry.stable (Below.refl _ _).drew
          unfold World.box4 World.box3 at rl9 re9
          have os9 := OS.drew (OS.boxS3 (u0 := .int .i64 1) (u1 := .slice na (gy.length - 1) nc) (u2 := .string ⟨#[]⟩) (OS.boxS4 (u0 := .slice va bs.length vc) (u1 := .slice ua es.length uc) (u2 := .int .i64 r) (u3 := .int .i64 t) og7.out hp7.out (by decide)) hdx (by decide))
          have rt9 := reads_str os9 hclr hcs.out
          unfold World.box4 World.box3 at os9 rt9
          have hp9 := heap_drewn (box3_other (q := w.heap.size + 1 + 1 + 1) (u0 := .int .i64 1) (u1 := .slice na (gy.length - 1) nc) (u2 := .string ⟨#[]⟩) (box4_same (u0 := .slice va bs.length vc) (u1 := .slice ua es.length uc) (u2 := .int .i64 r) (u3 := .int .i64 t) hp7.out) (by omega))
          have hd9 := heap_drewn (box3_same (u0 := .int .i64 1) (u1 := .slice na (gy.length - 1) nc) (u2 := .string ⟨#[]⟩) (box4_other (q := w.heap.size + 1 + 1) (u0 := .slice va bs.length vc) (u1 := .slice ua es.length uc) (u2 := .int .i64 r) (u3 := .int .i64 t) hd7.out (by omega)))
          have hb9 := (b_box3 (b_box4 hb7.out (q := w.heap.size + 1 + 1) (by omega) (.slice va bs.length vc) (.slice ua es.length uc) (.int .i64 r) (.int .i64 t)) (q := w.heap.size + 1 + 1 + 1) (by omega) (.int .i64 1) (.slice na (gy.length - 1) nc) (.string ⟨#[]⟩)).drew
          obtain ⟨m0, m1, m2, m3⟩ := box4f hp9
          obtain ⟨n0, n1, n2, -⟩ := box3f hd9
          unfold World.box4 World.box3 at m0 m1 m2 m3 n0 n1 n2 hb9
          (try simp only [Exit.inBlock, Exit.then])
          refine bodyPost_ret (by simp [results, Tryz.results128, go_sem, m0, m1, m2, m3, n0, n1, n2]; try rfl) rfl ?_
          exact coO_ok hd.out rl9 re9 rt9 os9 hb9
    · have q1 : (ph != 1) = true := by simp [hph]
      have q2 : (ph == 1) = false := by simp [hph]
      have hd := hid (m2.out hph)
      clear m1 m2 m3 hch hcp
      obtain ⟨p0, p1, p2, p3⟩ := box4f hp2.out
      obtain ⟨d0, d1, d2, -⟩ := box3f hd2.out
      have g0 := frozen_heap hp2.out 0
      have g1 := frozen_heap hp2.out 1
      have g2 := frozen_heap hp2.out 2
      have g3 := frozen_heap hp2.out 3
      have k0 := frozen_heap hd2.out 0
      have k1 := frozen_heap hd2.out 1
      have k2 := frozen_heap hd2.out 2
      go_wp2_with fail
      have hd8 := box4_other (q := w.heap.size + 1 + 1) (u0 := .slice none 0 0) (u1 := .slice none 0 0) (u2 := .int .i64 0) (u3 := .int .i64 0) hd2.out (by omega)
      have hp9 := box3_other (q := w.heap.size + 1 + 1 + 1) (u0 := .int .i64 0) (u1 := .slice none 0 0) (u2 := .string ⟨#[]⟩) (box4_same (u0 := .slice none 0 0) (u1 := .slice none 0 0) (u2 := .int .i64 0) (u3 := .int .i64 0) hp2.out) (by omega)
      have hd9 := box3_same (u0 := .int .i64 0) (u1 := .slice none 0 0) (u2 := .string ⟨#[]⟩) hd8
      have hb9 := bB_box3 (bB_box4 hb2.out (q := w.heap.size + 1 + 1) (by omega) (.slice none 0 0) (.slice none 0 0) (.int .i64 0) (.int .i64 0)) (q := w.heap.size + 1 + 1 + 1) (by omega) (.int .i64 0) (.slice none 0 0) (.string ⟨#[]⟩)
      obtain ⟨m0, m1, m2, m3⟩ := box4f hp9
      obtain ⟨n0, n1, n2, -⟩ := box3f hd9
      unfold World.box4 World.box3 at m0 m1 m2 m3 n0 n1 n2 hb9
      (try simp only [Exit.inBlock, Exit.then])
      refine bodyPost_ret (by simp [results, Tryz.results128, go_sem, m0, m1, m2, m3, n0, n1, n2]; try rfl) rfl ?_
      exact coO_no hd.out hb9
  · have ht : (z != 0) = true := by simp [hz]
    have hd := hid (m1.out hz)
    replace hz := hid hz
    clear m1 m2 m3 hch hcp
    obtain ⟨p0, p1, p2, p3⟩ := box4f hp2.out
    obtain ⟨d0, d1, d2, -⟩ := box3f hd2.out
    have g0 := frozen_heap hp2.out 0
    have g1 := frozen_heap hp2.out 1
    have g2 := frozen_heap hp2.out 2
    have g3 := frozen_heap hp2.out 3
    have k0 := frozen_heap hd2.out 0
    have k1 := frozen_heap hd2.out 1
    have k2 := frozen_heap hd2.out 2
    go_wp2_with fail
    have hd8 := box4_other (q := w.heap.size + 1 + 1) (u0 := .slice none 0 0) (u1 := .slice none 0 0) (u2 := .int .i64 0) (u3 := .int .i64 0) hd2.out (by omega)
    have hp9 := box3_other (q := w.heap.size + 1 + 1 + 1) (u0 := .int .i64 0) (u1 := .slice none 0 0) (u2 := .string ⟨#[]⟩) (box4_same (u0 := .slice none 0 0) (u1 := .slice none 0 0) (u2 := .int .i64 0) (u3 := .int .i64 0) hp2.out) (by omega)
    have hd9 := box3_same (u0 := .int .i64 0) (u1 := .slice none 0 0) (u2 := .string ⟨#[]⟩) hd8
    have hb9 := bB_box3 (bB_box4 hb2.out (q := w.heap.size + 1 + 1) (by omega) (.slice none 0 0) (.slice none 0 0) (.int .i64 0) (.int .i64 0)) (q := w.heap.size + 1 + 1 + 1) (by omega) (.int .i64 0) (.slice none 0 0) (.string ⟨#[]⟩)
    obtain ⟨m0, m1, m2, m3⟩ := box4f hp9
    obtain ⟨n0, n1, n2, -⟩ := box3f hd9
    unfold World.box4 World.box3 at m0 m1 m2 m3 n0 n1 n2 hb9
    (try simp only [Exit.inBlock, Exit.then])
    refine bodyPost_ret (by simp [results, Tryz.results128, go_sem, m0, m1, m2, m3, n0, n1, n2]; try rfl) rfl ?_
    exact coO_no hd.out hb9
end Go.Proofs.YtpcnhldlfmdlhaaGreat
