/-
  order.Decode: what it answers. Printed by gen_od.py.
-/
import Derived.Test.YtojebioolflbkaaOdL
import Derived.Deep.RegionHeld3
import Derived.Deep.DeepCutAuto
import Derived.StillTactics
namespace Go.Proofs.Ytojebioolflbkaa
open Go.RowKit

set_option maxRecDepth 100000 in
theorem order_no (e : Int) (w : World) : Calls Try.prog 38 #[.int .i64 e] w fun x w' => x = .returned (.tuple #[.agg #[.int .i64 0, .int .i64 0, .string ⟨#[]⟩, .slice none 0 0, .slice none 0 0], .int .i64 e]) ∧ Below w.heap.size w w' := by
  go_enter Try.func38, Try.ntmps38
  go_wp2_with fail
  go_returns
  exact ⟨rfl, b_alloc (Below.refl _ _) _⟩
set_option maxRecDepth 100000 in
set_option maxHeartbeats 4000000 in
theorem order_DecodeA (v : Value) (b : List UInt8) (w : World) (h : RB w v b) (hpart : hasN (readNum b).1 = false) : Calls Try.prog 10 #[v] w (OdRes (decOrd b) w) := by
  have hR := hid h
  have hbl : b.length ≤ 140737488351232 := by obtain ⟨_, _, _, _, _, hre, _⟩ := h; omega
  have f1 := hid fun w (g : RB w v b) => (wire_ReadNumber v b w g).mono (fun e w' => num_post hbl)
  unfold NumPost at f1
  obtain ⟨X, hX⟩ : ∃ X, X = decOrd b := ⟨_, rfl⟩
  rw [← hX]
  have zb := hid fun n r e (h3 : readNum b = (n, r, e)) (he : e ≠ 0) => dec_bad hX h3 he
  have zn := hid fun k r (h3 : readNum b = (k, r, 0)) (hk : isKind k = false) => dec_none hX h3 hk
  have zk := hid fun k r (h3 : readNum b = (k, r, 0)) (hk : isKind k = true) => dec_kind hX h3 hk
  have hle := rn_rest_le b
  generalize hrn : readNum b = t at *
  obtain ⟨k, r, e⟩ := t
  simp only at f1 hle hpart
  replace hle : r.length ≤ 140737488351232 := by omega
  clear hrn hX h
  by_cases he : e = 0
  · subst he
    have hof := hid fun w => order_of k w
    by_cases hk : isKind k = true
    · have hX := hid (zk.out k r rfl hk)
      clear zb zn zk
      rcases kind_fields hk with ⟨h1, h2, h3, h4⟩ | ⟨h1, h2, h3, h4⟩ | ⟨h1, h2, h3, h4⟩ | ⟨h1, h2, h3, h4⟩ | ⟨h1, h2, h3, h4⟩ | ⟨h1, h2, h3, h4⟩
      · -- b
        clear hpart
        rw [h1, h2, h3, h4, hk] at hof
        replace hX := hid (odN_no hX.out h1)
        replace hX := hid (odD_no hX.out h2)
        have f3 := hid fun v w (g : RB w v r) => wire_ReadText v r w g
        unfold TextPost at f3
        have zb3 := hid fun s r' e (h : readText r = (s, r', e)) (he : e ≠ 0) => odB_bad hX.out h3 h he
        have zo3 := hid fun s r' (h : readText r = (s, r', 0)) => odB_ok hX.out h3 h
        have zs3 := hid fun s r' (h : readText r = (s, r', 0)) => readText_size h
        generalize hrt : readText r = t at *
        obtain ⟨s, r4, e4⟩ := t
        simp only at f3
        clear hrt hX
        go_enter Try.func10, Try.ntmps10
        go_wp2_with fail
        ((with_reducible refine (f1.out _ (hR.out.mono EU8.stable (b_alloc (Below.refl w.heap.size w) (Obj.cells #[.int .i64 0, .int .i64 0, .string ⟨#[]⟩, .slice none 0 0, .slice none 0 0] 31)))).mono ?_); rintro e1 w1 ⟨v1, rfl, r1, b1⟩)
        have hq_p_1 := hid (stays b1 (heap_alloc_new w (Obj.cells #[.int .i64 0, .int .i64 0, .string ⟨#[]⟩, .slice none 0 0, .slice none 0 0] 31)))
        have hb1 := hid (b_call (b_alloc (Below.refl w.heap.size w) (Obj.cells #[.int .i64 0, .int .i64 0, .string ⟨#[]⟩, .slice none 0 0, .slice none 0 0] 31)) b1)
        have r_r_1 := hid r1
        clear r1 b1
        obtain ⟨a1, c1, rfl, -⟩ := id r_r_1.out
        go_wp2_with fail
        ((with_reducible refine (hof.out _).mono ?_); rintro e2 w2 ⟨rfl, b2⟩)
        have hq_p_2 := hid (stays b2 hq_p_1.out)
        have hb2 := hid (b_call hb1.out b2)
        have r_r_2 := hid (r_r_1.out.mono EU8.stable (b_call (Below.refl w1.heap.size w1) b2))
        clear hq_p_1 hb1 r_r_1 b2
        go_wp2_with fail
        have hpA := hid (((heap_alloc_old (w2.alloc (Obj.cells #[.bool false, .bool false, .bool true, .bool false] 67)) (Obj.cells #[.int .i64 k, .int .i64 0, .string ⟨#[]⟩, .slice none 0 0, .slice none 0 0] 31) (heap_lt ((heap_alloc_old w2 (Obj.cells #[.bool false, .bool false, .bool true, .bool false] 67) (heap_lt hq_p_2.out)).trans hq_p_2.out))).trans ((heap_alloc_old w2 (Obj.cells #[.bool false, .bool false, .bool true, .bool false] 67) (heap_lt hq_p_2.out)).trans hq_p_2.out)))
        have hfA := hid (((heap_alloc_old (w2.alloc (Obj.cells #[.bool false, .bool false, .bool true, .bool false] 67)) (Obj.cells #[.int .i64 k, .int .i64 0, .string ⟨#[]⟩, .slice none 0 0, .slice none 0 0] 31) (heap_lt (heap_put w2 (Obj.cells #[.bool false, .bool false, .bool true, .bool false] 67) (w2.heap.size) (by simp)))).trans (heap_put w2 (Obj.cells #[.bool false, .bool false, .bool true, .bool false] 67) (w2.heap.size) (by simp))))
        have hoA := hid ((heap_put (w2.alloc (Obj.cells #[.bool false, .bool false, .bool true, .bool false] 67)) (Obj.cells #[.int .i64 k, .int .i64 0, .string ⟨#[]⟩, .slice none 0 0, .slice none 0 0] 31) (w2.heap.size + 1) (by simp)))
        have hbA := hid ((b_alloc (b_alloc hb2.out (Obj.cells #[.bool false, .bool false, .bool true, .bool false] 67)) (Obj.cells #[.int .i64 k, .int .i64 0, .string ⟨#[]⟩, .slice none 0 0, .slice none 0 0] 31)))
        have hrA := hid (r_r_2.out.mono EU8.stable (b_alloc (b_alloc (Below.refl w2.heap.size w2) (Obj.cells #[.bool false, .bool false, .bool true, .bool false] 67)) (Obj.cells #[.int .i64 k, .int .i64 0, .string ⟨#[]⟩, .slice none 0 0, .slice none 0 0] 31)))
        have hs2 : w.heap.size < w2.heap.size := heap_lt hq_p_2.out
        clear hq_p_2 r_r_2 hb2
        generalize ((w2.alloc (Obj.cells #[.bool false, .bool false, .bool true, .bool false] 67)).alloc (Obj.cells #[.int .i64 k, .int .i64 0, .string ⟨#[]⟩, .slice none 0 0, .slice none 0 0] 31)) = wa at *
        ((with_reducible refine (f3.out _ _ hrA.out).mono ?_); rintro e3 w3 ⟨v4, rfl, r3, b3⟩)
        have hpB := hid (stays b3 hpA.out)
        have hfB := hid (stays b3 hfA.out)
        have hoB := hid (stays b3 hoA.out)
        have hbB := hid (b_call hbA.out b3)
        clear hpA hfA hoA hbA
        replace r3 := hid r3
        clear hrA b3 f3
        by_cases he4 : e4 = 0
        · subst he4
          have hX := hid (zo3.out s r4 rfl)
          have hs3 := (zs3.out s r4 rfl).1
          have hle4 := (zs3.out s r4 rfl).2
          clear zb3 zo3 zs3
          have hcv := Lib.run_convert_string_bytes (P := Try.prog) w3 9 28 5 s Try.underlying9 Try.underlying28 Try.underlying5
          have hrd := conv_reads w3 5 s (by omega)
          have hcb := conv_below w3 5 s
          generalize grownCap w3 s.size 0 5 = gc at *
          generalize Lib.bytesWorld w3 5 s = w5 at *
          have hle5 : r4.length ≤ 140737488351232 := by omega
          have hpD := hid (stays hcb hpB.out)
          have hfD := hid (stays hcb hfB.out)
          have hoD := hid (stays hcb hoB.out)
          have hbD := hid (b_call hbB.out hcb)
          clear hpB hfB hoB hbB
          have hrD := hid (r3.out.mono EU8.stable hcb)
          replace hrd := hid hrd
          clear r3 hcb
          replace hX := hid (odP_no hX.out h4)
          by_cases hr0 : 0 < r4.length
          · replace hX := hid (odR_bad hX.out hr0)
            have qr : decide (0 < (r4.length : Int)) = true := decide_eq_true (by omega)
            obtain ⟨c0, c1, c2, c3⟩ := box4f hfD.out
            obtain ⟨o0, o1, o2, o3, o4⟩ := box5f hoD.out
            have q3 := frozen_heap hoD.out 3
            obtain ⟨av, cv, rfl, -⟩ := id hrD.out
            go_wp2_with fail
            clear c0 c1 c2 c3 o0 o1 o2 o3 o4 q3
            have hdF := hid (RB.setO (p := w2.heap.size + 1) (q := 3) (u := .slice (some ⟨w3.heap.size, 0, none⟩) s.size gc) hrd.out ⟨_, _, _, _, _, _, _, _, _, _, hoD.out⟩)
            have hpF := hid (box_other (q := w2.heap.size + 1) (o := 3) (u := .slice (some ⟨w3.heap.size, 0, none⟩) s.size gc) hpD.out (by omega))
            have hfF := hid (box_other (q := w2.heap.size + 1) (o := 3) (u := .slice (some ⟨w3.heap.size, 0, none⟩) s.size gc) hfD.out (by omega))
            have hoF := hid (box5_3 (u := .slice (some ⟨w3.heap.size, 0, none⟩) s.size gc) hoD.out)
            have hbF := hid (b_set hbD.out (p := ⟨w2.heap.size + 1, 3, none⟩) (show w.heap.size ≤ w2.heap.size + 1 by omega) (.slice (some ⟨w3.heap.size, 0, none⟩) s.size gc))
            have hrF := hid (RB.setO (p := w2.heap.size + 1) (q := 3) (u := .slice (some ⟨w3.heap.size, 0, none⟩) s.size gc) hrD.out ⟨_, _, _, _, _, _, _, _, _, _, hoD.out⟩)
            clear hpD hfD hoD hbD hrD
            generalize w5.setCell ⟨w2.heap.size + 1, 3, none⟩ (.slice (some ⟨w3.heap.size, 0, none⟩) s.size gc) = w6 at *
            ((with_reducible refine (order_no (3) _).mono ?_); rintro eN wN ⟨rfl, bN⟩)
            have hpN := hid (stays bN hpF.out)
            have hbN := hid (b_call hbF.out bN)
            clear bN
            obtain ⟨m0, m1, m2, m3, m4⟩ := box5f hpN.out
            have n0 := frozen_heap hpN.out 0
            have n1 := frozen_heap hpN.out 1
            have n2 := frozen_heap hpN.out 2
            have n3 := frozen_heap hpN.out 3
            have n4 := frozen_heap hpN.out 4
            go_wp2_with fail
            have hq9 := box5_same (u0 := .int .i64 0) (u1 := .int .i64 0) (u2 := .string ⟨#[]⟩) (u3 := .slice none 0 0) (u4 := .slice none 0 0) hpN.out
            have hb9 := b_box5 hbN.out (q := w.heap.size) (Nat.le_refl _) (.int .i64 0) (.int .i64 0) (.string ⟨#[]⟩) (.slice none 0 0) (.slice none 0 0)
            obtain ⟨k0, k1, k2, k3, k4⟩ := box5f hq9
            unfold World.box5 at k0 k1 k2 k3 k4 hb9
            (try simp only [Exit.inBlock, Exit.then])
            refine bodyPost_ret (by simp [results, Try.results10, go_sem, k0, k1, k2, k3, k4]; try rfl) rfl ?_
            exact od_no hX.out hb9
          · replace hX := hid (odR_ok hX.out hr0)
            have qr : decide (0 < (r4.length : Int)) = false := decide_eq_false (by omega)
            obtain ⟨c0, c1, c2, c3⟩ := box4f hfD.out
            obtain ⟨o0, o1, o2, o3, o4⟩ := box5f hoD.out
            have q3 := frozen_heap hoD.out 3
            obtain ⟨av, cv, rfl, -⟩ := id hrD.out
            go_wp2_with fail
            clear c0 c1 c2 c3 o0 o1 o2 o3 o4 q3
            have hdF := hid (RB.setO (p := w2.heap.size + 1) (q := 3) (u := .slice (some ⟨w3.heap.size, 0, none⟩) s.size gc) hrd.out ⟨_, _, _, _, _, _, _, _, _, _, hoD.out⟩)
            have hpF := hid (box_other (q := w2.heap.size + 1) (o := 3) (u := .slice (some ⟨w3.heap.size, 0, none⟩) s.size gc) hpD.out (by omega))
            have hfF := hid (box_other (q := w2.heap.size + 1) (o := 3) (u := .slice (some ⟨w3.heap.size, 0, none⟩) s.size gc) hfD.out (by omega))
            have hoF := hid (box5_3 (u := .slice (some ⟨w3.heap.size, 0, none⟩) s.size gc) hoD.out)
            have hbF := hid (b_set hbD.out (p := ⟨w2.heap.size + 1, 3, none⟩) (show w.heap.size ≤ w2.heap.size + 1 by omega) (.slice (some ⟨w3.heap.size, 0, none⟩) s.size gc))
            have hrF := hid (RB.setO (p := w2.heap.size + 1) (q := 3) (u := .slice (some ⟨w3.heap.size, 0, none⟩) s.size gc) hrD.out ⟨_, _, _, _, _, _, _, _, _, _, hoD.out⟩)
            clear hpD hfD hoD hbD hrD
            generalize w5.setCell ⟨w2.heap.size + 1, 3, none⟩ (.slice (some ⟨w3.heap.size, 0, none⟩) s.size gc) = w6 at *
            have fz : Hid (∀ w, RB w (.slice (some ⟨w3.heap.size, 0, none⟩) s.size gc) s.data.toList → RP w (.slice none 0 0) [] → Calls Try.prog 44 #[.agg #[.int .i64 k, .int .i64 0, .string ⟨#[]⟩, .slice (some ⟨w3.heap.size, 0, none⟩) s.size gc, .slice none 0 0]] w fun e w' => e = .returned (.int .i64 (ordFault ⟨k, 0, ⟨#[]⟩, s.data.toList, []⟩)) ∧ Below w.heap.size w w') := hid fun w g1 g2 => order_Check ⟨k, 0, ⟨#[]⟩, s.data.toList, []⟩ (.slice (some ⟨w3.heap.size, 0, none⟩) s.size gc) (.slice none 0 0) w g1 g2 no_len
            have zb9 := hid fun z (h : ordFault ⟨k, 0, ⟨#[]⟩, s.data.toList, []⟩ = z) (he : z ≠ 0) => odC_bad hX.out h he
            have zo9 := hid fun (h : ordFault ⟨k, 0, ⟨#[]⟩, s.data.toList, []⟩ = 0) => odC_ok hX.out h
            generalize hof9 : ordFault ⟨k, 0, ⟨#[]⟩, s.data.toList, []⟩ = z at *
            clear hX hof9
            obtain ⟨c0, c1, c2, c3⟩ := box4f hfF.out
            obtain ⟨o0, o1, o2, o3, o4⟩ := box5f hoF.out
            ((with_reducible refine (fz.out _ hdF.out RS.nil).mono ?_); rintro e9 w10 ⟨rfl, b10⟩)
            clear c0 c1 c2 c3 o0 o1 o2 o3 o4
            have hpK := hid (stays b10 hpF.out)
            have hfK := hid (stays b10 hfF.out)
            have hoK := hid (stays b10 hoF.out)
            have hbK := hid (b_call hbF.out b10)
            have hdK := hid (hdF.out.mono EU8.stable b10)
            clear hpF hfF hoF hbF hdF
            clear b10 fz
            by_cases hz : z = 0
            · subst hz
              have hX := hid (zo9.out rfl)
              clear zb9 zo9
              obtain ⟨c0, c1, c2, c3⟩ := box4f hfK.out
              obtain ⟨o0, o1, o2, o3, o4⟩ := box5f hoK.out
              obtain ⟨m0, m1, m2, m3, m4⟩ := box5f hpK.out
              have n0 := frozen_heap hpK.out 0
              have n1 := frozen_heap hpK.out 1
              have n2 := frozen_heap hpK.out 2
              have n3 := frozen_heap hpK.out 3
              have n4 := frozen_heap hpK.out 4
              go_wp2_with fail
              have rd9 := RB.box5 (k' := k) (n' := 0) (d' := ⟨#[]⟩) (b := some ⟨w3.heap.size, 0, none⟩) (i := s.size) (j := gc) (b' := none) (i' := 0) (j' := 0) hdK.out hpK.out
              unfold World.box5 at rd9
              have hq9 := box5_same (u0 := .int .i64 k) (u1 := .int .i64 0) (u2 := .string ⟨#[]⟩) (u3 := .slice (some ⟨w3.heap.size, 0, none⟩) s.size gc) (u4 := .slice none 0 0) hpK.out
              have hb9 := b_box5 hbK.out (q := w.heap.size) (Nat.le_refl _) (.int .i64 k) (.int .i64 0) (.string ⟨#[]⟩) (.slice (some ⟨w3.heap.size, 0, none⟩) s.size gc) (.slice none 0 0)
              obtain ⟨k0, k1, k2, k3, k4⟩ := box5f hq9
              unfold World.box5 at k0 k1 k2 k3 k4 hb9
              (try simp only [Exit.inBlock, Exit.then])
              refine bodyPost_ret (by simp [results, Try.results10, go_sem, k0, k1, k2, k3, k4]; try rfl) rfl ?_
              exact od_ok hX.out rd9 (RS.nil) hb9
            · have hX := hid (zb9.out z rfl hz)
              have tz : (z != 0) = true := by simp [hz]
              clear zb9 zo9
              replace hz := hid hz
              go_wp2_with fail
              ((with_reducible refine (order_no (z) _).mono ?_); rintro eN wN ⟨rfl, bN⟩)
              have hpN := hid (stays bN hpK.out)
              have hbN := hid (b_call hbK.out bN)
              clear bN
              obtain ⟨m0, m1, m2, m3, m4⟩ := box5f hpN.out
              have n0 := frozen_heap hpN.out 0
              have n1 := frozen_heap hpN.out 1
              have n2 := frozen_heap hpN.out 2
              have n3 := frozen_heap hpN.out 3
              have n4 := frozen_heap hpN.out 4
              go_wp2_with fail
              have hq9 := box5_same (u0 := .int .i64 0) (u1 := .int .i64 0) (u2 := .string ⟨#[]⟩) (u3 := .slice none 0 0) (u4 := .slice none 0 0) hpN.out
              have hb9 := b_box5 hbN.out (q := w.heap.size) (Nat.le_refl _) (.int .i64 0) (.int .i64 0) (.string ⟨#[]⟩) (.slice none 0 0) (.slice none 0 0)
              obtain ⟨k0, k1, k2, k3, k4⟩ := box5f hq9
              unfold World.box5 at k0 k1 k2 k3 k4 hb9
              (try simp only [Exit.inBlock, Exit.then])
              refine bodyPost_ret (by simp [results, Try.results10, go_sem, k0, k1, k2, k3, k4]; try rfl) rfl ?_
              exact od_no hX.out hb9
        · have hX := hid (zb3.out s r4 e4 rfl he4)
          have t4 : (e4 != 0) = true := by simp [he4]
          clear zb3 zo3 zs3
          replace he4 := hid he4
          go_wp2_with fail
          ((with_reducible refine (order_no (e4) _).mono ?_); rintro eN wN ⟨rfl, bN⟩)
          have hpN := hid (stays bN hpB.out)
          have hbN := hid (b_call hbB.out bN)
          clear bN
          obtain ⟨m0, m1, m2, m3, m4⟩ := box5f hpN.out
          have n0 := frozen_heap hpN.out 0
          have n1 := frozen_heap hpN.out 1
          have n2 := frozen_heap hpN.out 2
          have n3 := frozen_heap hpN.out 3
          have n4 := frozen_heap hpN.out 4
          go_wp2_with fail
          have hq9 := box5_same (u0 := .int .i64 0) (u1 := .int .i64 0) (u2 := .string ⟨#[]⟩) (u3 := .slice none 0 0) (u4 := .slice none 0 0) hpN.out
          have hb9 := b_box5 hbN.out (q := w.heap.size) (Nat.le_refl _) (.int .i64 0) (.int .i64 0) (.string ⟨#[]⟩) (.slice none 0 0) (.slice none 0 0)
          obtain ⟨k0, k1, k2, k3, k4⟩ := box5f hq9
          unfold World.box5 at k0 k1 k2 k3 k4 hb9
          (try simp only [Exit.inBlock, Exit.then])
          refine bodyPost_ret (by simp [results, Try.results10, go_sem, k0, k1, k2, k3, k4]; try rfl) rfl ?_
          exact od_no hX.out hb9
      · -- d
        clear hpart
        rw [h1, h2, h3, h4, hk] at hof
        replace hX := hid (odN_no hX.out h1)
        by_cases hl32 : r.length < 32
        · replace hX := hid (odD_bad hX.out h2 hl32)
          have q32 : decide ((r.length : Int) < 32) = true := by simp; omega
          go_enter Try.func10, Try.ntmps10
          go_wp2_with fail
          ((with_reducible refine (f1.out _ (hR.out.mono EU8.stable (b_alloc (Below.refl w.heap.size w) (Obj.cells #[.int .i64 0, .int .i64 0, .string ⟨#[]⟩, .slice none 0 0, .slice none 0 0] 31)))).mono ?_); rintro e1 w1 ⟨v1, rfl, r1, b1⟩)
          have hq_p_1 := hid (stays b1 (heap_alloc_new w (Obj.cells #[.int .i64 0, .int .i64 0, .string ⟨#[]⟩, .slice none 0 0, .slice none 0 0] 31)))
          have hb1 := hid (b_call (b_alloc (Below.refl w.heap.size w) (Obj.cells #[.int .i64 0, .int .i64 0, .string ⟨#[]⟩, .slice none 0 0, .slice none 0 0] 31)) b1)
          have r_r_1 := hid r1
          clear r1 b1
          obtain ⟨a1, c1, rfl, -⟩ := id r_r_1.out
          go_wp2_with fail
          ((with_reducible refine (hof.out _).mono ?_); rintro e2 w2 ⟨rfl, b2⟩)
          have hq_p_2 := hid (stays b2 hq_p_1.out)
          have hb2 := hid (b_call hb1.out b2)
          have r_r_2 := hid (r_r_1.out.mono EU8.stable (b_call (Below.refl w1.heap.size w1) b2))
          clear hq_p_1 hb1 r_r_1 b2
          go_wp2_with fail
          have hpA := hid (((heap_alloc_old (w2.alloc (Obj.cells #[.bool false, .bool true, .bool false, .bool false] 67)) (Obj.cells #[.int .i64 k, .int .i64 0, .string ⟨#[]⟩, .slice none 0 0, .slice none 0 0] 31) (heap_lt ((heap_alloc_old w2 (Obj.cells #[.bool false, .bool true, .bool false, .bool false] 67) (heap_lt hq_p_2.out)).trans hq_p_2.out))).trans ((heap_alloc_old w2 (Obj.cells #[.bool false, .bool true, .bool false, .bool false] 67) (heap_lt hq_p_2.out)).trans hq_p_2.out)))
          have hfA := hid (((heap_alloc_old (w2.alloc (Obj.cells #[.bool false, .bool true, .bool false, .bool false] 67)) (Obj.cells #[.int .i64 k, .int .i64 0, .string ⟨#[]⟩, .slice none 0 0, .slice none 0 0] 31) (heap_lt (heap_put w2 (Obj.cells #[.bool false, .bool true, .bool false, .bool false] 67) (w2.heap.size) (by simp)))).trans (heap_put w2 (Obj.cells #[.bool false, .bool true, .bool false, .bool false] 67) (w2.heap.size) (by simp))))
          have hoA := hid ((heap_put (w2.alloc (Obj.cells #[.bool false, .bool true, .bool false, .bool false] 67)) (Obj.cells #[.int .i64 k, .int .i64 0, .string ⟨#[]⟩, .slice none 0 0, .slice none 0 0] 31) (w2.heap.size + 1) (by simp)))
          have hbA := hid ((b_alloc (b_alloc hb2.out (Obj.cells #[.bool false, .bool true, .bool false, .bool false] 67)) (Obj.cells #[.int .i64 k, .int .i64 0, .string ⟨#[]⟩, .slice none 0 0, .slice none 0 0] 31)))
          have hrA := hid (r_r_2.out.mono EU8.stable (b_alloc (b_alloc (Below.refl w2.heap.size w2) (Obj.cells #[.bool false, .bool true, .bool false, .bool false] 67)) (Obj.cells #[.int .i64 k, .int .i64 0, .string ⟨#[]⟩, .slice none 0 0, .slice none 0 0] 31)))
          have hs2 : w.heap.size < w2.heap.size := heap_lt hq_p_2.out
          clear hq_p_2 r_r_2 hb2
          generalize ((w2.alloc (Obj.cells #[.bool false, .bool true, .bool false, .bool false] 67)).alloc (Obj.cells #[.int .i64 k, .int .i64 0, .string ⟨#[]⟩, .slice none 0 0, .slice none 0 0] 31)) = wa at *
          ((with_reducible refine (order_no (8) _).mono ?_); rintro eN wN ⟨rfl, bN⟩)
          have hpN := hid (stays bN hpA.out)
          have hbN := hid (b_call hbA.out bN)
          clear bN
          obtain ⟨m0, m1, m2, m3, m4⟩ := box5f hpN.out
          have n0 := frozen_heap hpN.out 0
          have n1 := frozen_heap hpN.out 1
          have n2 := frozen_heap hpN.out 2
          have n3 := frozen_heap hpN.out 3
          have n4 := frozen_heap hpN.out 4
          go_wp2_with fail
          have hq9 := box5_same (u0 := .int .i64 0) (u1 := .int .i64 0) (u2 := .string ⟨#[]⟩) (u3 := .slice none 0 0) (u4 := .slice none 0 0) hpN.out
          have hb9 := b_box5 hbN.out (q := w.heap.size) (Nat.le_refl _) (.int .i64 0) (.int .i64 0) (.string ⟨#[]⟩) (.slice none 0 0) (.slice none 0 0)
          obtain ⟨k0, k1, k2, k3, k4⟩ := box5f hq9
          unfold World.box5 at k0 k1 k2 k3 k4 hb9
          (try simp only [Exit.inBlock, Exit.then])
          refine bodyPost_ret (by simp [results, Try.results10, go_sem, k0, k1, k2, k3, k4]; try rfl) rfl ?_
          exact od_no hX.out hb9
        · replace hX := hid (odD_ok hX.out h2 hl32)
          have q32 : decide ((r.length : Int) < 32) = false := by simp; omega
          go_enter Try.func10, Try.ntmps10
          go_wp2_with fail
          ((with_reducible refine (f1.out _ (hR.out.mono EU8.stable (b_alloc (Below.refl w.heap.size w) (Obj.cells #[.int .i64 0, .int .i64 0, .string ⟨#[]⟩, .slice none 0 0, .slice none 0 0] 31)))).mono ?_); rintro e1 w1 ⟨v1, rfl, r1, b1⟩)
          have hq_p_1 := hid (stays b1 (heap_alloc_new w (Obj.cells #[.int .i64 0, .int .i64 0, .string ⟨#[]⟩, .slice none 0 0, .slice none 0 0] 31)))
          have hb1 := hid (b_call (b_alloc (Below.refl w.heap.size w) (Obj.cells #[.int .i64 0, .int .i64 0, .string ⟨#[]⟩, .slice none 0 0, .slice none 0 0] 31)) b1)
          have r_r_1 := hid r1
          clear r1 b1
          obtain ⟨a1, c1, rfl, -⟩ := id r_r_1.out
          go_wp2_with fail
          ((with_reducible refine (hof.out _).mono ?_); rintro e2 w2 ⟨rfl, b2⟩)
          have hq_p_2 := hid (stays b2 hq_p_1.out)
          have hb2 := hid (b_call hb1.out b2)
          have r_r_2 := hid (r_r_1.out.mono EU8.stable (b_call (Below.refl w1.heap.size w1) b2))
          clear hq_p_1 hb1 r_r_1 b2
          go_upto_region 16 with fail
          have hpA := hid (((heap_alloc_old (w2.alloc (Obj.cells #[.bool false, .bool true, .bool false, .bool false] 67)) (Obj.cells #[.int .i64 k, .int .i64 0, .string ⟨#[]⟩, .slice none 0 0, .slice none 0 0] 31) (heap_lt ((heap_alloc_old w2 (Obj.cells #[.bool false, .bool true, .bool false, .bool false] 67) (heap_lt hq_p_2.out)).trans hq_p_2.out))).trans ((heap_alloc_old w2 (Obj.cells #[.bool false, .bool true, .bool false, .bool false] 67) (heap_lt hq_p_2.out)).trans hq_p_2.out)))
          have hfA := hid (((heap_alloc_old (w2.alloc (Obj.cells #[.bool false, .bool true, .bool false, .bool false] 67)) (Obj.cells #[.int .i64 k, .int .i64 0, .string ⟨#[]⟩, .slice none 0 0, .slice none 0 0] 31) (heap_lt (heap_put w2 (Obj.cells #[.bool false, .bool true, .bool false, .bool false] 67) (w2.heap.size) (by simp)))).trans (heap_put w2 (Obj.cells #[.bool false, .bool true, .bool false, .bool false] 67) (w2.heap.size) (by simp))))
          have hoA := hid ((heap_put (w2.alloc (Obj.cells #[.bool false, .bool true, .bool false, .bool false] 67)) (Obj.cells #[.int .i64 k, .int .i64 0, .string ⟨#[]⟩, .slice none 0 0, .slice none 0 0] 31) (w2.heap.size + 1) (by simp)))
          have hbA := hid ((b_alloc (b_alloc hb2.out (Obj.cells #[.bool false, .bool true, .bool false, .bool false] 67)) (Obj.cells #[.int .i64 k, .int .i64 0, .string ⟨#[]⟩, .slice none 0 0, .slice none 0 0] 31)))
          have hrA := hid (r_r_2.out.mono EU8.stable (b_alloc (b_alloc (Below.refl w2.heap.size w2) (Obj.cells #[.bool false, .bool true, .bool false, .bool false] 67)) (Obj.cells #[.int .i64 k, .int .i64 0, .string ⟨#[]⟩, .slice none 0 0, .slice none 0 0] 31)))
          have hs2 : w.heap.size < w2.heap.size := heap_lt hq_p_2.out
          clear hq_p_2 r_r_2 hb2
          generalize ((w2.alloc (Obj.cells #[.bool false, .bool true, .bool false, .bool false] 67)).alloc (Obj.cells #[.int .i64 k, .int .i64 0, .string ⟨#[]⟩, .slice none 0 0, .slice none 0 0] 31)) = wa at *
          obtain ⟨hlc, hcm, bb, off, rfl⟩ := rb_parts hrA.out (by omega)
          have hc32 : 32 ≤ c1 := by omega
          have hn32 : 32 ≤ r.length := by omega
          have hi32 : (32 : Int) ≤ (r.length : Int) := by omega
          have hj32 : (32 : Int) ≤ (c1 : Int) := by omega
          obtain ⟨A, hA⟩ : ∃ A, (if c1 = 32 then (some ⟨bb, off, none⟩ : Option Addr) else some ⟨bb, off + 32, none⟩) = A := ⟨_, rfl⟩
          have hA2 : (if c1 = 32 then (some ⟨bb, off, none⟩ : Option Addr) else (some (⟨bb, off, none⟩ : Addr)).map (·.add (32 * 1))) = A := by rw [← hA]; simp [Addr.add_lit]
          have hup := hid (RS.upto hrA.out 32 hn32)
          have hfr := behind_reads hrA.out 32 hn32
          rw [behind_slice, hA2] at hfr
          replace hfr := hid hfr
          clear hA2 hrA
          generalize hd32 : bstr (hexOf (r.take 32)) = d32 at *
          have fh := hid fun w (g : RB w (.slice (some ⟨bb, off, none⟩) 32 c1) (r.take 32)) => hex_Text _ _ w g (by rw [List.length_take]; omega)
          rw [hd32] at fh
          have hz32 : d32.size ≤ 140737488351232 := hd32 ▸ hex_le32 r
          clear hd32
          go_cut [6] (fun c6 wx => c6 = .slice A (r.length - 32) (c1 - 32) ∧ Hid (wx.heap[w.heap.size]? = some (.cells #[.int .i64 0, .int .i64 0, .string ⟨#[]⟩, .slice none 0 0, .slice none 0 0] 31 (0, 0))) ∧ Hid (wx.heap[w2.heap.size]? = some (.cells #[.bool false, .bool true, .bool false, .bool false] 67 (0, 0))) ∧ Hid (wx.heap[w2.heap.size + 1]? = some (.cells #[.int .i64 k, .int .i64 0, .string d32, .slice none 0 0, .slice none 0 0] 31 (0, 0))) ∧ Hid (RB wx (.slice A (r.length - 32) (c1 - 32)) (r.drop 32)) ∧ Hid (Below w.heap.size w wx))
          case first =>
            obtain ⟨c0, c1, c2, c3⟩ := box4f hfA.out
            obtain ⟨o0, o1, o2, o3, o4⟩ := box5f hoA.out
            have q2 := frozen_heap hoA.out 2
            have hon := hoA.out
            have hpn := hpA.out
            go_region_held3 (fun w' => True) (first | exact trivial | go_keep | fail)
              ((first
                | ((with_reducible refine (fh.out _ (hup.out.mono EU8.stable (Below.refl _ wa).drew)).mono ?_)
                   rintro e5 w5 ⟨rfl, b5'⟩
                   have b5 := b_call (Below.refl _ wa).drew b5'
                   have x5 := box5f (stays b5 hon)
                   have y5 := x5.2.2.1
                   have z5 := frozen_heap (stays b5 hon) 2)
                | fail))
            all_goals
              have hp5 := box_other (q := w2.heap.size + 1) (o := 2) (u := .string d32) (stays b5 hpn) (by omega)
              have hf5 := box_other (q := w2.heap.size + 1) (o := 2) (u := .string d32) (stays b5 hfA.out) (by omega)
              have ho5 := box5_2 (u := .string d32) (stays b5 hon)
              have hb5 := b_set (b_call hbA.out b5) (p := ⟨w2.heap.size + 1, 2, none⟩) (show w.heap.size ≤ w2.heap.size + 1 by omega) (.string d32)
              have hr5 := RB.setO (p := w2.heap.size + 1) (q := 2) (u := .string d32) (hfr.out.mono EU8.stable b5) ⟨_, _, _, _, _, _, _, _, _, _, stays b5 hon⟩
              (try go_wp2_with fail)
              go_meet
              exact ⟨rfl, hid hp5, hid hf5, hid ho5, hid hr5, hid hb5⟩
          case rest =>
            obtain ⟨rfl, hpE, hfE, hoE, hrE, hbE⟩ := hcut
            clear hpA hfA hoA hbA hfr hup fh
            have hle32 : (r.drop 32).length ≤ 140737488351232 := by rw [List.length_drop]; omega
            have hdrop : (r.drop 32).length = r.length - 32 := List.length_drop
            replace hX := hid (odB_no hX.out h3)
            replace hX := hid (odP_no hX.out h4)
            by_cases hr0 : 0 < (r.drop 32).length
            · replace hX := hid (odR_bad hX.out hr0)
              have qr : decide (0 < ((r.length - 32 : Nat) : Int)) = true := decide_eq_true (by omega)
              obtain ⟨c0, c1, c2, c3⟩ := box4f hfE.out
              obtain ⟨o0, o1, o2, o3, o4⟩ := box5f hoE.out
              go_wp2_with fail
              clear c0 c1 c2 c3 o0 o1 o2 o3 o4
              ((with_reducible refine (order_no (3) _).mono ?_); rintro eN wN ⟨rfl, bN⟩)
              have hpN := hid (stays bN hpE.out)
              have hbN := hid (b_call hbE.out bN)
              clear bN
              obtain ⟨m0, m1, m2, m3, m4⟩ := box5f hpN.out
              have n0 := frozen_heap hpN.out 0
              have n1 := frozen_heap hpN.out 1
              have n2 := frozen_heap hpN.out 2
              have n3 := frozen_heap hpN.out 3
              have n4 := frozen_heap hpN.out 4
              go_wp2_with fail
              have hq9 := box5_same (u0 := .int .i64 0) (u1 := .int .i64 0) (u2 := .string ⟨#[]⟩) (u3 := .slice none 0 0) (u4 := .slice none 0 0) hpN.out
              have hb9 := b_box5 hbN.out (q := w.heap.size) (Nat.le_refl _) (.int .i64 0) (.int .i64 0) (.string ⟨#[]⟩) (.slice none 0 0) (.slice none 0 0)
              obtain ⟨k0, k1, k2, k3, k4⟩ := box5f hq9
              unfold World.box5 at k0 k1 k2 k3 k4 hb9
              (try simp only [Exit.inBlock, Exit.then])
              refine bodyPost_ret (by simp [results, Try.results10, go_sem, k0, k1, k2, k3, k4]; try rfl) rfl ?_
              exact od_no hX.out hb9
            · replace hX := hid (odR_ok hX.out hr0)
              have qr : decide (0 < ((r.length - 32 : Nat) : Int)) = false := decide_eq_false (by omega)
              obtain ⟨c0, c1, c2, c3⟩ := box4f hfE.out
              obtain ⟨o0, o1, o2, o3, o4⟩ := box5f hoE.out
              go_wp2_with fail
              clear c0 c1 c2 c3 o0 o1 o2 o3 o4
              have fz : Hid (∀ w, RB w (.slice none 0 0) [] → RP w (.slice none 0 0) [] → Calls Try.prog 44 #[.agg #[.int .i64 k, .int .i64 0, .string d32, .slice none 0 0, .slice none 0 0]] w fun e w' => e = .returned (.int .i64 (ordFault ⟨k, 0, d32, [], []⟩)) ∧ Below w.heap.size w w') := hid fun w g1 g2 => order_Check ⟨k, 0, d32, [], []⟩ (.slice none 0 0) (.slice none 0 0) w g1 g2 hz32
              have zb9 := hid fun z (h : ordFault ⟨k, 0, d32, [], []⟩ = z) (he : z ≠ 0) => odC_bad hX.out h he
              have zo9 := hid fun (h : ordFault ⟨k, 0, d32, [], []⟩ = 0) => odC_ok hX.out h
              generalize hof9 : ordFault ⟨k, 0, d32, [], []⟩ = z at *
              clear hX hof9
              obtain ⟨c0, c1, c2, c3⟩ := box4f hfE.out
              obtain ⟨o0, o1, o2, o3, o4⟩ := box5f hoE.out
              ((with_reducible refine (fz.out _ RS.nil RS.nil).mono ?_); rintro e9 w10 ⟨rfl, b10⟩)
              clear c0 c1 c2 c3 o0 o1 o2 o3 o4
              have hpK := hid (stays b10 hpE.out)
              have hfK := hid (stays b10 hfE.out)
              have hoK := hid (stays b10 hoE.out)
              have hbK := hid (b_call hbE.out b10)
              clear hpE hfE hoE hbE
              clear b10 fz
              by_cases hz : z = 0
              · subst hz
                have hX := hid (zo9.out rfl)
                clear zb9 zo9
                obtain ⟨c0, c1, c2, c3⟩ := box4f hfK.out
                obtain ⟨o0, o1, o2, o3, o4⟩ := box5f hoK.out
                obtain ⟨m0, m1, m2, m3, m4⟩ := box5f hpK.out
                have n0 := frozen_heap hpK.out 0
                have n1 := frozen_heap hpK.out 1
                have n2 := frozen_heap hpK.out 2
                have n3 := frozen_heap hpK.out 3
                have n4 := frozen_heap hpK.out 4
                go_wp2_with fail
                have hq9 := box5_same (u0 := .int .i64 k) (u1 := .int .i64 0) (u2 := .string d32) (u3 := .slice none 0 0) (u4 := .slice none 0 0) hpK.out
                have hb9 := b_box5 hbK.out (q := w.heap.size) (Nat.le_refl _) (.int .i64 k) (.int .i64 0) (.string d32) (.slice none 0 0) (.slice none 0 0)
                obtain ⟨k0, k1, k2, k3, k4⟩ := box5f hq9
                unfold World.box5 at k0 k1 k2 k3 k4 hb9
                (try simp only [Exit.inBlock, Exit.then])
                refine bodyPost_ret (by simp [results, Try.results10, go_sem, k0, k1, k2, k3, k4]; try rfl) rfl ?_
                exact od_ok hX.out (RS.nil) (RS.nil) hb9
              · have hX := hid (zb9.out z rfl hz)
                have tz : (z != 0) = true := by simp [hz]
                clear zb9 zo9
                replace hz := hid hz
                go_wp2_with fail
                ((with_reducible refine (order_no (z) _).mono ?_); rintro eN wN ⟨rfl, bN⟩)
                have hpN := hid (stays bN hpK.out)
                have hbN := hid (b_call hbK.out bN)
                clear bN
                obtain ⟨m0, m1, m2, m3, m4⟩ := box5f hpN.out
                have n0 := frozen_heap hpN.out 0
                have n1 := frozen_heap hpN.out 1
                have n2 := frozen_heap hpN.out 2
                have n3 := frozen_heap hpN.out 3
                have n4 := frozen_heap hpN.out 4
                go_wp2_with fail
                have hq9 := box5_same (u0 := .int .i64 0) (u1 := .int .i64 0) (u2 := .string ⟨#[]⟩) (u3 := .slice none 0 0) (u4 := .slice none 0 0) hpN.out
                have hb9 := b_box5 hbN.out (q := w.heap.size) (Nat.le_refl _) (.int .i64 0) (.int .i64 0) (.string ⟨#[]⟩) (.slice none 0 0) (.slice none 0 0)
                obtain ⟨k0, k1, k2, k3, k4⟩ := box5f hq9
                unfold World.box5 at k0 k1 k2 k3 k4 hb9
                (try simp only [Exit.inBlock, Exit.then])
                refine bodyPost_ret (by simp [results, Try.results10, go_sem, k0, k1, k2, k3, k4]; try rfl) rfl ?_
                exact od_no hX.out hb9
      · -- dp
        clear hpart
        rw [h1, h2, h3, h4, hk] at hof
        replace hX := hid (odN_no hX.out h1)
        by_cases hl32 : r.length < 32
        · replace hX := hid (odD_bad hX.out h2 hl32)
          have q32 : decide ((r.length : Int) < 32) = true := by simp; omega
          go_enter Try.func10, Try.ntmps10
          go_wp2_with fail
          ((with_reducible refine (f1.out _ (hR.out.mono EU8.stable (b_alloc (Below.refl w.heap.size w) (Obj.cells #[.int .i64 0, .int .i64 0, .string ⟨#[]⟩, .slice none 0 0, .slice none 0 0] 31)))).mono ?_); rintro e1 w1 ⟨v1, rfl, r1, b1⟩)
          have hq_p_1 := hid (stays b1 (heap_alloc_new w (Obj.cells #[.int .i64 0, .int .i64 0, .string ⟨#[]⟩, .slice none 0 0, .slice none 0 0] 31)))
          have hb1 := hid (b_call (b_alloc (Below.refl w.heap.size w) (Obj.cells #[.int .i64 0, .int .i64 0, .string ⟨#[]⟩, .slice none 0 0, .slice none 0 0] 31)) b1)
          have r_r_1 := hid r1
          clear r1 b1
          obtain ⟨a1, c1, rfl, -⟩ := id r_r_1.out
          go_wp2_with fail
          ((with_reducible refine (hof.out _).mono ?_); rintro e2 w2 ⟨rfl, b2⟩)
          have hq_p_2 := hid (stays b2 hq_p_1.out)
          have hb2 := hid (b_call hb1.out b2)
          have r_r_2 := hid (r_r_1.out.mono EU8.stable (b_call (Below.refl w1.heap.size w1) b2))
          clear hq_p_1 hb1 r_r_1 b2
          go_wp2_with fail
          have hpA := hid (((heap_alloc_old (w2.alloc (Obj.cells #[.bool false, .bool true, .bool false, .bool true] 67)) (Obj.cells #[.int .i64 k, .int .i64 0, .string ⟨#[]⟩, .slice none 0 0, .slice none 0 0] 31) (heap_lt ((heap_alloc_old w2 (Obj.cells #[.bool false, .bool true, .bool false, .bool true] 67) (heap_lt hq_p_2.out)).trans hq_p_2.out))).trans ((heap_alloc_old w2 (Obj.cells #[.bool false, .bool true, .bool false, .bool true] 67) (heap_lt hq_p_2.out)).trans hq_p_2.out)))
          have hfA := hid (((heap_alloc_old (w2.alloc (Obj.cells #[.bool false, .bool true, .bool false, .bool true] 67)) (Obj.cells #[.int .i64 k, .int .i64 0, .string ⟨#[]⟩, .slice none 0 0, .slice none 0 0] 31) (heap_lt (heap_put w2 (Obj.cells #[.bool false, .bool true, .bool false, .bool true] 67) (w2.heap.size) (by simp)))).trans (heap_put w2 (Obj.cells #[.bool false, .bool true, .bool false, .bool true] 67) (w2.heap.size) (by simp))))
          have hoA := hid ((heap_put (w2.alloc (Obj.cells #[.bool false, .bool true, .bool false, .bool true] 67)) (Obj.cells #[.int .i64 k, .int .i64 0, .string ⟨#[]⟩, .slice none 0 0, .slice none 0 0] 31) (w2.heap.size + 1) (by simp)))
          have hbA := hid ((b_alloc (b_alloc hb2.out (Obj.cells #[.bool false, .bool true, .bool false, .bool true] 67)) (Obj.cells #[.int .i64 k, .int .i64 0, .string ⟨#[]⟩, .slice none 0 0, .slice none 0 0] 31)))
          have hrA := hid (r_r_2.out.mono EU8.stable (b_alloc (b_alloc (Below.refl w2.heap.size w2) (Obj.cells #[.bool false, .bool true, .bool false, .bool true] 67)) (Obj.cells #[.int .i64 k, .int .i64 0, .string ⟨#[]⟩, .slice none 0 0, .slice none 0 0] 31)))
          have hs2 : w.heap.size < w2.heap.size := heap_lt hq_p_2.out
          clear hq_p_2 r_r_2 hb2
          generalize ((w2.alloc (Obj.cells #[.bool false, .bool true, .bool false, .bool true] 67)).alloc (Obj.cells #[.int .i64 k, .int .i64 0, .string ⟨#[]⟩, .slice none 0 0, .slice none 0 0] 31)) = wa at *
          ((with_reducible refine (order_no (8) _).mono ?_); rintro eN wN ⟨rfl, bN⟩)
          have hpN := hid (stays bN hpA.out)
          have hbN := hid (b_call hbA.out bN)
          clear bN
          obtain ⟨m0, m1, m2, m3, m4⟩ := box5f hpN.out
          have n0 := frozen_heap hpN.out 0
          have n1 := frozen_heap hpN.out 1
          have n2 := frozen_heap hpN.out 2
          have n3 := frozen_heap hpN.out 3
          have n4 := frozen_heap hpN.out 4
          go_wp2_with fail
          have hq9 := box5_same (u0 := .int .i64 0) (u1 := .int .i64 0) (u2 := .string ⟨#[]⟩) (u3 := .slice none 0 0) (u4 := .slice none 0 0) hpN.out
          have hb9 := b_box5 hbN.out (q := w.heap.size) (Nat.le_refl _) (.int .i64 0) (.int .i64 0) (.string ⟨#[]⟩) (.slice none 0 0) (.slice none 0 0)
          obtain ⟨k0, k1, k2, k3, k4⟩ := box5f hq9
          unfold World.box5 at k0 k1 k2 k3 k4 hb9
          (try simp only [Exit.inBlock, Exit.then])
          refine bodyPost_ret (by simp [results, Try.results10, go_sem, k0, k1, k2, k3, k4]; try rfl) rfl ?_
          exact od_no hX.out hb9
        · replace hX := hid (odD_ok hX.out h2 hl32)
          have q32 : decide ((r.length : Int) < 32) = false := by simp; omega
          go_enter Try.func10, Try.ntmps10
          go_wp2_with fail
          ((with_reducible refine (f1.out _ (hR.out.mono EU8.stable (b_alloc (Below.refl w.heap.size w) (Obj.cells #[.int .i64 0, .int .i64 0, .string ⟨#[]⟩, .slice none 0 0, .slice none 0 0] 31)))).mono ?_); rintro e1 w1 ⟨v1, rfl, r1, b1⟩)
          have hq_p_1 := hid (stays b1 (heap_alloc_new w (Obj.cells #[.int .i64 0, .int .i64 0, .string ⟨#[]⟩, .slice none 0 0, .slice none 0 0] 31)))
          have hb1 := hid (b_call (b_alloc (Below.refl w.heap.size w) (Obj.cells #[.int .i64 0, .int .i64 0, .string ⟨#[]⟩, .slice none 0 0, .slice none 0 0] 31)) b1)
          have r_r_1 := hid r1
          clear r1 b1
          obtain ⟨a1, c1, rfl, -⟩ := id r_r_1.out
          go_wp2_with fail
          ((with_reducible refine (hof.out _).mono ?_); rintro e2 w2 ⟨rfl, b2⟩)
          have hq_p_2 := hid (stays b2 hq_p_1.out)
          have hb2 := hid (b_call hb1.out b2)
          have r_r_2 := hid (r_r_1.out.mono EU8.stable (b_call (Below.refl w1.heap.size w1) b2))
          clear hq_p_1 hb1 r_r_1 b2
          go_upto_region 16 with fail
          have hpA := hid (((heap_alloc_old (w2.alloc (Obj.cells #[.bool false, .bool true, .bool false, .bool true] 67)) (Obj.cells #[.int .i64 k, .int .i64 0, .string ⟨#[]⟩, .slice none 0 0, .slice none 0 0] 31) (heap_lt ((heap_alloc_old w2 (Obj.cells #[.bool false, .bool true, .bool false, .bool true] 67) (heap_lt hq_p_2.out)).trans hq_p_2.out))).trans ((heap_alloc_old w2 (Obj.cells #[.bool false, .bool true, .bool false, .bool true] 67) (heap_lt hq_p_2.out)).trans hq_p_2.out)))
          have hfA := hid (((heap_alloc_old (w2.alloc (Obj.cells #[.bool false, .bool true, .bool false, .bool true] 67)) (Obj.cells #[.int .i64 k, .int .i64 0, .string ⟨#[]⟩, .slice none 0 0, .slice none 0 0] 31) (heap_lt (heap_put w2 (Obj.cells #[.bool false, .bool true, .bool false, .bool true] 67) (w2.heap.size) (by simp)))).trans (heap_put w2 (Obj.cells #[.bool false, .bool true, .bool false, .bool true] 67) (w2.heap.size) (by simp))))
          have hoA := hid ((heap_put (w2.alloc (Obj.cells #[.bool false, .bool true, .bool false, .bool true] 67)) (Obj.cells #[.int .i64 k, .int .i64 0, .string ⟨#[]⟩, .slice none 0 0, .slice none 0 0] 31) (w2.heap.size + 1) (by simp)))
          have hbA := hid ((b_alloc (b_alloc hb2.out (Obj.cells #[.bool false, .bool true, .bool false, .bool true] 67)) (Obj.cells #[.int .i64 k, .int .i64 0, .string ⟨#[]⟩, .slice none 0 0, .slice none 0 0] 31)))
          have hrA := hid (r_r_2.out.mono EU8.stable (b_alloc (b_alloc (Below.refl w2.heap.size w2) (Obj.cells #[.bool false, .bool true, .bool false, .bool true] 67)) (Obj.cells #[.int .i64 k, .int .i64 0, .string ⟨#[]⟩, .slice none 0 0, .slice none 0 0] 31)))
          have hs2 : w.heap.size < w2.heap.size := heap_lt hq_p_2.out
          clear hq_p_2 r_r_2 hb2
          generalize ((w2.alloc (Obj.cells #[.bool false, .bool true, .bool false, .bool true] 67)).alloc (Obj.cells #[.int .i64 k, .int .i64 0, .string ⟨#[]⟩, .slice none 0 0, .slice none 0 0] 31)) = wa at *
          obtain ⟨hlc, hcm, bb, off, rfl⟩ := rb_parts hrA.out (by omega)
          have hc32 : 32 ≤ c1 := by omega
          have hn32 : 32 ≤ r.length := by omega
          have hi32 : (32 : Int) ≤ (r.length : Int) := by omega
          have hj32 : (32 : Int) ≤ (c1 : Int) := by omega
          obtain ⟨A, hA⟩ : ∃ A, (if c1 = 32 then (some ⟨bb, off, none⟩ : Option Addr) else some ⟨bb, off + 32, none⟩) = A := ⟨_, rfl⟩
          have hA2 : (if c1 = 32 then (some ⟨bb, off, none⟩ : Option Addr) else (some (⟨bb, off, none⟩ : Addr)).map (·.add (32 * 1))) = A := by rw [← hA]; simp [Addr.add_lit]
          have hup := hid (RS.upto hrA.out 32 hn32)
          have hfr := behind_reads hrA.out 32 hn32
          rw [behind_slice, hA2] at hfr
          replace hfr := hid hfr
          clear hA2 hrA
          generalize hd32 : bstr (hexOf (r.take 32)) = d32 at *
          have fh := hid fun w (g : RB w (.slice (some ⟨bb, off, none⟩) 32 c1) (r.take 32)) => hex_Text _ _ w g (by rw [List.length_take]; omega)
          rw [hd32] at fh
          have hz32 : d32.size ≤ 140737488351232 := hd32 ▸ hex_le32 r
          clear hd32
          go_cut [6] (fun c6 wx => c6 = .slice A (r.length - 32) (c1 - 32) ∧ Hid (wx.heap[w.heap.size]? = some (.cells #[.int .i64 0, .int .i64 0, .string ⟨#[]⟩, .slice none 0 0, .slice none 0 0] 31 (0, 0))) ∧ Hid (wx.heap[w2.heap.size]? = some (.cells #[.bool false, .bool true, .bool false, .bool true] 67 (0, 0))) ∧ Hid (wx.heap[w2.heap.size + 1]? = some (.cells #[.int .i64 k, .int .i64 0, .string d32, .slice none 0 0, .slice none 0 0] 31 (0, 0))) ∧ Hid (RB wx (.slice A (r.length - 32) (c1 - 32)) (r.drop 32)) ∧ Hid (Below w.heap.size w wx))
          case first =>
            obtain ⟨c0, c1, c2, c3⟩ := box4f hfA.out
            obtain ⟨o0, o1, o2, o3, o4⟩ := box5f hoA.out
            have q2 := frozen_heap hoA.out 2
            have hon := hoA.out
            have hpn := hpA.out
            go_region_held3 (fun w' => True) (first | exact trivial | go_keep | fail)
              ((first
                | ((with_reducible refine (fh.out _ (hup.out.mono EU8.stable (Below.refl _ wa).drew)).mono ?_)
                   rintro e5 w5 ⟨rfl, b5'⟩
                   have b5 := b_call (Below.refl _ wa).drew b5'
                   have x5 := box5f (stays b5 hon)
                   have y5 := x5.2.2.1
                   have z5 := frozen_heap (stays b5 hon) 2)
                | fail))
            all_goals
              have hp5 := box_other (q := w2.heap.size + 1) (o := 2) (u := .string d32) (stays b5 hpn) (by omega)
              have hf5 := box_other (q := w2.heap.size + 1) (o := 2) (u := .string d32) (stays b5 hfA.out) (by omega)
              have ho5 := box5_2 (u := .string d32) (stays b5 hon)
              have hb5 := b_set (b_call hbA.out b5) (p := ⟨w2.heap.size + 1, 2, none⟩) (show w.heap.size ≤ w2.heap.size + 1 by omega) (.string d32)
              have hr5 := RB.setO (p := w2.heap.size + 1) (q := 2) (u := .string d32) (hfr.out.mono EU8.stable b5) ⟨_, _, _, _, _, _, _, _, _, _, stays b5 hon⟩
              (try go_wp2_with fail)
              go_meet
              exact ⟨rfl, hid hp5, hid hf5, hid ho5, hid hr5, hid hb5⟩
          case rest =>
            obtain ⟨rfl, hpE, hfE, hoE, hrE, hbE⟩ := hcut
            clear hpA hfA hoA hbA hfr hup fh
            have hle32 : (r.drop 32).length ≤ 140737488351232 := by rw [List.length_drop]; omega
            have hdrop : (r.drop 32).length = r.length - 32 := List.length_drop
            replace hX := hid (odB_no hX.out h3)
            have f6 := hid fun v w (g : RB w v (r.drop 32)) => manifest_Decode v _ w g
            unfold DecPost at f6
            have zb6 := hid fun l e (h : decParts (r.drop 32) = (l, e)) (he : e ≠ 0) => odP_bad hX.out h4 h he
            have zo6 := hid fun l (h : decParts (r.drop 32) = (l, 0)) => odP_ok hX.out h4 h
            generalize hdp : decParts (r.drop 32) = t at *
            obtain ⟨l, e7⟩ := t
            simp only at f6
            clear hdp hX
            obtain ⟨c0, c1, c2, c3⟩ := box4f hfE.out
            obtain ⟨o0, o1, o2, o3, o4⟩ := box5f hoE.out
            go_wp2_with fail
            ((with_reducible refine (f6.out _ _ hrE.out).mono ?_); rintro e8 w8 ⟨v8, rfl, r8, b8⟩)
            clear c0 c1 c2 c3 o0 o1 o2 o3 o4
            have hpG := hid (stays b8 hpE.out)
            have hfG := hid (stays b8 hfE.out)
            have hoG := hid (stays b8 hoE.out)
            have hbG := hid (b_call hbE.out b8)
            clear hpE hfE hoE hbE
            obtain ⟨a8, c8, rfl, -⟩ := id r8
            replace r8 := hid r8
            clear hrE b8 f6
            by_cases he7 : e7 = 0
            · subst he7
              have hX := hid (zo6.out l rfl)
              clear zb6 zo6
              obtain ⟨c0, c1, c2, c3⟩ := box4f hfG.out
              obtain ⟨o0, o1, o2, o3, o4⟩ := box5f hoG.out
              have q4 := frozen_heap hoG.out 4
              go_wp2_with fail
              clear c0 c1 c2 c3 o0 o1 o2 o3 o4 q4
              have hlH := hid (RP.setO (p := w2.heap.size + 1) (q := 4) (u := .slice a8 l.length c8) r8.out ⟨_, _, _, _, _, _, _, _, _, _, hoG.out⟩)
              have hpH := hid (box_other (q := w2.heap.size + 1) (o := 4) (u := .slice a8 l.length c8) hpG.out (by omega))
              have hfH := hid (box_other (q := w2.heap.size + 1) (o := 4) (u := .slice a8 l.length c8) hfG.out (by omega))
              have hoH := hid (box5_4 (u := .slice a8 l.length c8) hoG.out)
              have hbH := hid (b_set hbG.out (p := ⟨w2.heap.size + 1, 4, none⟩) (show w.heap.size ≤ w2.heap.size + 1 by omega) (.slice a8 l.length c8))
              clear hpG hfG hoG hbG
              generalize w8.setCell ⟨w2.heap.size + 1, 4, none⟩ (.slice a8 l.length c8) = w9 at *
              have fz : Hid (∀ w, RB w (.slice none 0 0) [] → RP w (.slice a8 l.length c8) l → Calls Try.prog 44 #[.agg #[.int .i64 k, .int .i64 0, .string d32, .slice none 0 0, .slice a8 l.length c8]] w fun e w' => e = .returned (.int .i64 (ordFault ⟨k, 0, d32, [], l⟩)) ∧ Below w.heap.size w w') := hid fun w g1 g2 => order_Check ⟨k, 0, d32, [], l⟩ (.slice none 0 0) (.slice a8 l.length c8) w g1 g2 hz32
              have zb9 := hid fun z (h : ordFault ⟨k, 0, d32, [], l⟩ = z) (he : z ≠ 0) => odC_bad hX.out h he
              have zo9 := hid fun (h : ordFault ⟨k, 0, d32, [], l⟩ = 0) => odC_ok hX.out h
              generalize hof9 : ordFault ⟨k, 0, d32, [], l⟩ = z at *
              clear hX hof9
              obtain ⟨c0, c1, c2, c3⟩ := box4f hfH.out
              obtain ⟨o0, o1, o2, o3, o4⟩ := box5f hoH.out
              ((with_reducible refine (fz.out _ RS.nil hlH.out).mono ?_); rintro e9 w10 ⟨rfl, b10⟩)
              clear c0 c1 c2 c3 o0 o1 o2 o3 o4
              have hpK := hid (stays b10 hpH.out)
              have hfK := hid (stays b10 hfH.out)
              have hoK := hid (stays b10 hoH.out)
              have hbK := hid (b_call hbH.out b10)
              have hlK := hid (hlH.out.mono EPart.stable b10)
              clear hpH hfH hoH hbH hlH
              clear b10 fz
              by_cases hz : z = 0
              · subst hz
                have hX := hid (zo9.out rfl)
                clear zb9 zo9
                obtain ⟨c0, c1, c2, c3⟩ := box4f hfK.out
                obtain ⟨o0, o1, o2, o3, o4⟩ := box5f hoK.out
                obtain ⟨m0, m1, m2, m3, m4⟩ := box5f hpK.out
                have n0 := frozen_heap hpK.out 0
                have n1 := frozen_heap hpK.out 1
                have n2 := frozen_heap hpK.out 2
                have n3 := frozen_heap hpK.out 3
                have n4 := frozen_heap hpK.out 4
                go_wp2_with fail
                have rp9 := RP.box5 (k' := k) (n' := 0) (d' := d32) (b := none) (i := 0) (j := 0) (b' := a8) (i' := l.length) (j' := c8) hlK.out hpK.out
                unfold World.box5 at rp9
                have hq9 := box5_same (u0 := .int .i64 k) (u1 := .int .i64 0) (u2 := .string d32) (u3 := .slice none 0 0) (u4 := .slice a8 l.length c8) hpK.out
                have hb9 := b_box5 hbK.out (q := w.heap.size) (Nat.le_refl _) (.int .i64 k) (.int .i64 0) (.string d32) (.slice none 0 0) (.slice a8 l.length c8)
                obtain ⟨k0, k1, k2, k3, k4⟩ := box5f hq9
                unfold World.box5 at k0 k1 k2 k3 k4 hb9
                (try simp only [Exit.inBlock, Exit.then])
                refine bodyPost_ret (by simp [results, Try.results10, go_sem, k0, k1, k2, k3, k4]; try rfl) rfl ?_
                exact od_ok hX.out (RS.nil) rp9 hb9
              · have hX := hid (zb9.out z rfl hz)
                have tz : (z != 0) = true := by simp [hz]
                clear zb9 zo9
                replace hz := hid hz
                go_wp2_with fail
                ((with_reducible refine (order_no (z) _).mono ?_); rintro eN wN ⟨rfl, bN⟩)
                have hpN := hid (stays bN hpK.out)
                have hbN := hid (b_call hbK.out bN)
                clear bN
                obtain ⟨m0, m1, m2, m3, m4⟩ := box5f hpN.out
                have n0 := frozen_heap hpN.out 0
                have n1 := frozen_heap hpN.out 1
                have n2 := frozen_heap hpN.out 2
                have n3 := frozen_heap hpN.out 3
                have n4 := frozen_heap hpN.out 4
                go_wp2_with fail
                have hq9 := box5_same (u0 := .int .i64 0) (u1 := .int .i64 0) (u2 := .string ⟨#[]⟩) (u3 := .slice none 0 0) (u4 := .slice none 0 0) hpN.out
                have hb9 := b_box5 hbN.out (q := w.heap.size) (Nat.le_refl _) (.int .i64 0) (.int .i64 0) (.string ⟨#[]⟩) (.slice none 0 0) (.slice none 0 0)
                obtain ⟨k0, k1, k2, k3, k4⟩ := box5f hq9
                unfold World.box5 at k0 k1 k2 k3 k4 hb9
                (try simp only [Exit.inBlock, Exit.then])
                refine bodyPost_ret (by simp [results, Try.results10, go_sem, k0, k1, k2, k3, k4]; try rfl) rfl ?_
                exact od_no hX.out hb9
            · have hX := hid (zb6.out l e7 rfl he7)
              have t7 : (e7 != 0) = true := by simp [he7]
              clear zb6 zo6
              replace he7 := hid he7
              obtain ⟨c0, c1, c2, c3⟩ := box4f hfG.out
              obtain ⟨o0, o1, o2, o3, o4⟩ := box5f hoG.out
              have q4 := frozen_heap hoG.out 4
              go_wp2_with fail
              clear c0 c1 c2 c3 o0 o1 o2 o3 o4 q4
              have hlH := hid (RP.setO (p := w2.heap.size + 1) (q := 4) (u := .slice a8 l.length c8) r8.out ⟨_, _, _, _, _, _, _, _, _, _, hoG.out⟩)
              have hpH := hid (box_other (q := w2.heap.size + 1) (o := 4) (u := .slice a8 l.length c8) hpG.out (by omega))
              have hfH := hid (box_other (q := w2.heap.size + 1) (o := 4) (u := .slice a8 l.length c8) hfG.out (by omega))
              have hoH := hid (box5_4 (u := .slice a8 l.length c8) hoG.out)
              have hbH := hid (b_set hbG.out (p := ⟨w2.heap.size + 1, 4, none⟩) (show w.heap.size ≤ w2.heap.size + 1 by omega) (.slice a8 l.length c8))
              clear hpG hfG hoG hbG
              generalize w8.setCell ⟨w2.heap.size + 1, 4, none⟩ (.slice a8 l.length c8) = w9 at *
              ((with_reducible refine (order_no (e7) _).mono ?_); rintro eN wN ⟨rfl, bN⟩)
              have hpN := hid (stays bN hpH.out)
              have hbN := hid (b_call hbH.out bN)
              clear bN
              obtain ⟨m0, m1, m2, m3, m4⟩ := box5f hpN.out
              have n0 := frozen_heap hpN.out 0
              have n1 := frozen_heap hpN.out 1
              have n2 := frozen_heap hpN.out 2
              have n3 := frozen_heap hpN.out 3
              have n4 := frozen_heap hpN.out 4
              go_wp2_with fail
              have hq9 := box5_same (u0 := .int .i64 0) (u1 := .int .i64 0) (u2 := .string ⟨#[]⟩) (u3 := .slice none 0 0) (u4 := .slice none 0 0) hpN.out
              have hb9 := b_box5 hbN.out (q := w.heap.size) (Nat.le_refl _) (.int .i64 0) (.int .i64 0) (.string ⟨#[]⟩) (.slice none 0 0) (.slice none 0 0)
              obtain ⟨k0, k1, k2, k3, k4⟩ := box5f hq9
              unfold World.box5 at k0 k1 k2 k3 k4 hb9
              (try simp only [Exit.inBlock, Exit.then])
              refine bodyPost_ret (by simp [results, Try.results10, go_sem, k0, k1, k2, k3, k4]; try rfl) rfl ?_
              exact od_no hX.out hb9
      · -- n
        rw [hpart] at h1
        cases h1
      · -- -
        clear hpart
        rw [h1, h2, h3, h4, hk] at hof
        replace hX := hid (odN_no hX.out h1)
        replace hX := hid (odD_no hX.out h2)
        replace hX := hid (odB_no hX.out h3)
        replace hX := hid (odP_no hX.out h4)
        by_cases hr0 : 0 < r.length
        · replace hX := hid (odR_bad hX.out hr0)
          have qr : decide (0 < (r.length : Int)) = true := decide_eq_true (by omega)
          go_enter Try.func10, Try.ntmps10
          go_wp2_with fail
          ((with_reducible refine (f1.out _ (hR.out.mono EU8.stable (b_alloc (Below.refl w.heap.size w) (Obj.cells #[.int .i64 0, .int .i64 0, .string ⟨#[]⟩, .slice none 0 0, .slice none 0 0] 31)))).mono ?_); rintro e1 w1 ⟨v1, rfl, r1, b1⟩)
          have hq_p_1 := hid (stays b1 (heap_alloc_new w (Obj.cells #[.int .i64 0, .int .i64 0, .string ⟨#[]⟩, .slice none 0 0, .slice none 0 0] 31)))
          have hb1 := hid (b_call (b_alloc (Below.refl w.heap.size w) (Obj.cells #[.int .i64 0, .int .i64 0, .string ⟨#[]⟩, .slice none 0 0, .slice none 0 0] 31)) b1)
          have r_r_1 := hid r1
          clear r1 b1
          obtain ⟨a1, c1, rfl, -⟩ := id r_r_1.out
          go_wp2_with fail
          ((with_reducible refine (hof.out _).mono ?_); rintro e2 w2 ⟨rfl, b2⟩)
          have hq_p_2 := hid (stays b2 hq_p_1.out)
          have hb2 := hid (b_call hb1.out b2)
          have r_r_2 := hid (r_r_1.out.mono EU8.stable (b_call (Below.refl w1.heap.size w1) b2))
          clear hq_p_1 hb1 r_r_1 b2
          go_wp2_with fail
          have hpA := hid (((heap_alloc_old (w2.alloc (Obj.cells #[.bool false, .bool false, .bool false, .bool false] 67)) (Obj.cells #[.int .i64 k, .int .i64 0, .string ⟨#[]⟩, .slice none 0 0, .slice none 0 0] 31) (heap_lt ((heap_alloc_old w2 (Obj.cells #[.bool false, .bool false, .bool false, .bool false] 67) (heap_lt hq_p_2.out)).trans hq_p_2.out))).trans ((heap_alloc_old w2 (Obj.cells #[.bool false, .bool false, .bool false, .bool false] 67) (heap_lt hq_p_2.out)).trans hq_p_2.out)))
          have hfA := hid (((heap_alloc_old (w2.alloc (Obj.cells #[.bool false, .bool false, .bool false, .bool false] 67)) (Obj.cells #[.int .i64 k, .int .i64 0, .string ⟨#[]⟩, .slice none 0 0, .slice none 0 0] 31) (heap_lt (heap_put w2 (Obj.cells #[.bool false, .bool false, .bool false, .bool false] 67) (w2.heap.size) (by simp)))).trans (heap_put w2 (Obj.cells #[.bool false, .bool false, .bool false, .bool false] 67) (w2.heap.size) (by simp))))
          have hoA := hid ((heap_put (w2.alloc (Obj.cells #[.bool false, .bool false, .bool false, .bool false] 67)) (Obj.cells #[.int .i64 k, .int .i64 0, .string ⟨#[]⟩, .slice none 0 0, .slice none 0 0] 31) (w2.heap.size + 1) (by simp)))
          have hbA := hid ((b_alloc (b_alloc hb2.out (Obj.cells #[.bool false, .bool false, .bool false, .bool false] 67)) (Obj.cells #[.int .i64 k, .int .i64 0, .string ⟨#[]⟩, .slice none 0 0, .slice none 0 0] 31)))
          have hrA := hid (r_r_2.out.mono EU8.stable (b_alloc (b_alloc (Below.refl w2.heap.size w2) (Obj.cells #[.bool false, .bool false, .bool false, .bool false] 67)) (Obj.cells #[.int .i64 k, .int .i64 0, .string ⟨#[]⟩, .slice none 0 0, .slice none 0 0] 31)))
          have hs2 : w.heap.size < w2.heap.size := heap_lt hq_p_2.out
          clear hq_p_2 r_r_2 hb2
          generalize ((w2.alloc (Obj.cells #[.bool false, .bool false, .bool false, .bool false] 67)).alloc (Obj.cells #[.int .i64 k, .int .i64 0, .string ⟨#[]⟩, .slice none 0 0, .slice none 0 0] 31)) = wa at *
          ((with_reducible refine (order_no (3) _).mono ?_); rintro eN wN ⟨rfl, bN⟩)
          have hpN := hid (stays bN hpA.out)
          have hbN := hid (b_call hbA.out bN)
          clear bN
          obtain ⟨m0, m1, m2, m3, m4⟩ := box5f hpN.out
          have n0 := frozen_heap hpN.out 0
          have n1 := frozen_heap hpN.out 1
          have n2 := frozen_heap hpN.out 2
          have n3 := frozen_heap hpN.out 3
          have n4 := frozen_heap hpN.out 4
          go_wp2_with fail
          have hq9 := box5_same (u0 := .int .i64 0) (u1 := .int .i64 0) (u2 := .string ⟨#[]⟩) (u3 := .slice none 0 0) (u4 := .slice none 0 0) hpN.out
          have hb9 := b_box5 hbN.out (q := w.heap.size) (Nat.le_refl _) (.int .i64 0) (.int .i64 0) (.string ⟨#[]⟩) (.slice none 0 0) (.slice none 0 0)
          obtain ⟨k0, k1, k2, k3, k4⟩ := box5f hq9
          unfold World.box5 at k0 k1 k2 k3 k4 hb9
          (try simp only [Exit.inBlock, Exit.then])
          refine bodyPost_ret (by simp [results, Try.results10, go_sem, k0, k1, k2, k3, k4]; try rfl) rfl ?_
          exact od_no hX.out hb9
        · replace hX := hid (odR_ok hX.out hr0)
          have qr : decide (0 < (r.length : Int)) = false := decide_eq_false (by omega)
          go_enter Try.func10, Try.ntmps10
          go_wp2_with fail
          ((with_reducible refine (f1.out _ (hR.out.mono EU8.stable (b_alloc (Below.refl w.heap.size w) (Obj.cells #[.int .i64 0, .int .i64 0, .string ⟨#[]⟩, .slice none 0 0, .slice none 0 0] 31)))).mono ?_); rintro e1 w1 ⟨v1, rfl, r1, b1⟩)
          have hq_p_1 := hid (stays b1 (heap_alloc_new w (Obj.cells #[.int .i64 0, .int .i64 0, .string ⟨#[]⟩, .slice none 0 0, .slice none 0 0] 31)))
          have hb1 := hid (b_call (b_alloc (Below.refl w.heap.size w) (Obj.cells #[.int .i64 0, .int .i64 0, .string ⟨#[]⟩, .slice none 0 0, .slice none 0 0] 31)) b1)
          have r_r_1 := hid r1
          clear r1 b1
          obtain ⟨a1, c1, rfl, -⟩ := id r_r_1.out
          go_wp2_with fail
          ((with_reducible refine (hof.out _).mono ?_); rintro e2 w2 ⟨rfl, b2⟩)
          have hq_p_2 := hid (stays b2 hq_p_1.out)
          have hb2 := hid (b_call hb1.out b2)
          have r_r_2 := hid (r_r_1.out.mono EU8.stable (b_call (Below.refl w1.heap.size w1) b2))
          clear hq_p_1 hb1 r_r_1 b2
          go_wp2_with fail
          have hpA := hid (((heap_alloc_old (w2.alloc (Obj.cells #[.bool false, .bool false, .bool false, .bool false] 67)) (Obj.cells #[.int .i64 k, .int .i64 0, .string ⟨#[]⟩, .slice none 0 0, .slice none 0 0] 31) (heap_lt ((heap_alloc_old w2 (Obj.cells #[.bool false, .bool false, .bool false, .bool false] 67) (heap_lt hq_p_2.out)).trans hq_p_2.out))).trans ((heap_alloc_old w2 (Obj.cells #[.bool false, .bool false, .bool false, .bool false] 67) (heap_lt hq_p_2.out)).trans hq_p_2.out)))
          have hfA := hid (((heap_alloc_old (w2.alloc (Obj.cells #[.bool false, .bool false, .bool false, .bool false] 67)) (Obj.cells #[.int .i64 k, .int .i64 0, .string ⟨#[]⟩, .slice none 0 0, .slice none 0 0] 31) (heap_lt (heap_put w2 (Obj.cells #[.bool false, .bool false, .bool false, .bool false] 67) (w2.heap.size) (by simp)))).trans (heap_put w2 (Obj.cells #[.bool false, .bool false, .bool false, .bool false] 67) (w2.heap.size) (by simp))))
          have hoA := hid ((heap_put (w2.alloc (Obj.cells #[.bool false, .bool false, .bool false, .bool false] 67)) (Obj.cells #[.int .i64 k, .int .i64 0, .string ⟨#[]⟩, .slice none 0 0, .slice none 0 0] 31) (w2.heap.size + 1) (by simp)))
          have hbA := hid ((b_alloc (b_alloc hb2.out (Obj.cells #[.bool false, .bool false, .bool false, .bool false] 67)) (Obj.cells #[.int .i64 k, .int .i64 0, .string ⟨#[]⟩, .slice none 0 0, .slice none 0 0] 31)))
          have hrA := hid (r_r_2.out.mono EU8.stable (b_alloc (b_alloc (Below.refl w2.heap.size w2) (Obj.cells #[.bool false, .bool false, .bool false, .bool false] 67)) (Obj.cells #[.int .i64 k, .int .i64 0, .string ⟨#[]⟩, .slice none 0 0, .slice none 0 0] 31)))
          have hs2 : w.heap.size < w2.heap.size := heap_lt hq_p_2.out
          clear hq_p_2 r_r_2 hb2
          generalize ((w2.alloc (Obj.cells #[.bool false, .bool false, .bool false, .bool false] 67)).alloc (Obj.cells #[.int .i64 k, .int .i64 0, .string ⟨#[]⟩, .slice none 0 0, .slice none 0 0] 31)) = wa at *
          have fz : Hid (∀ w, RB w (.slice none 0 0) [] → RP w (.slice none 0 0) [] → Calls Try.prog 44 #[.agg #[.int .i64 k, .int .i64 0, .string ⟨#[]⟩, .slice none 0 0, .slice none 0 0]] w fun e w' => e = .returned (.int .i64 (ordFault ⟨k, 0, ⟨#[]⟩, [], []⟩)) ∧ Below w.heap.size w w') := hid fun w g1 g2 => order_Check ⟨k, 0, ⟨#[]⟩, [], []⟩ (.slice none 0 0) (.slice none 0 0) w g1 g2 no_len
          have zb9 := hid fun z (h : ordFault ⟨k, 0, ⟨#[]⟩, [], []⟩ = z) (he : z ≠ 0) => odC_bad hX.out h he
          have zo9 := hid fun (h : ordFault ⟨k, 0, ⟨#[]⟩, [], []⟩ = 0) => odC_ok hX.out h
          generalize hof9 : ordFault ⟨k, 0, ⟨#[]⟩, [], []⟩ = z at *
          clear hX hof9
          obtain ⟨c0, c1, c2, c3⟩ := box4f hfA.out
          obtain ⟨o0, o1, o2, o3, o4⟩ := box5f hoA.out
          ((with_reducible refine (fz.out _ RS.nil RS.nil).mono ?_); rintro e9 w10 ⟨rfl, b10⟩)
          clear c0 c1 c2 c3 o0 o1 o2 o3 o4
          have hpK := hid (stays b10 hpA.out)
          have hfK := hid (stays b10 hfA.out)
          have hoK := hid (stays b10 hoA.out)
          have hbK := hid (b_call hbA.out b10)
          clear hpA hfA hoA hbA
          clear b10 fz
          by_cases hz : z = 0
          · subst hz
            have hX := hid (zo9.out rfl)
            clear zb9 zo9
            obtain ⟨c0, c1, c2, c3⟩ := box4f hfK.out
            obtain ⟨o0, o1, o2, o3, o4⟩ := box5f hoK.out
            obtain ⟨m0, m1, m2, m3, m4⟩ := box5f hpK.out
            have n0 := frozen_heap hpK.out 0
            have n1 := frozen_heap hpK.out 1
            have n2 := frozen_heap hpK.out 2
            have n3 := frozen_heap hpK.out 3
            have n4 := frozen_heap hpK.out 4
            go_wp2_with fail
            have hq9 := box5_same (u0 := .int .i64 k) (u1 := .int .i64 0) (u2 := .string ⟨#[]⟩) (u3 := .slice none 0 0) (u4 := .slice none 0 0) hpK.out
            have hb9 := b_box5 hbK.out (q := w.heap.size) (Nat.le_refl _) (.int .i64 k) (.int .i64 0) (.string ⟨#[]⟩) (.slice none 0 0) (.slice none 0 0)
            obtain ⟨k0, k1, k2, k3, k4⟩ := box5f hq9
            unfold World.box5 at k0 k1 k2 k3 k4 hb9
            (try simp only [Exit.inBlock, Exit.then])
            refine bodyPost_ret (by simp [results, Try.results10, go_sem, k0, k1, k2, k3, k4]; try rfl) rfl ?_
            exact od_ok hX.out (RS.nil) (RS.nil) hb9
          · have hX := hid (zb9.out z rfl hz)
            have tz : (z != 0) = true := by simp [hz]
            clear zb9 zo9
            replace hz := hid hz
            go_wp2_with fail
            ((with_reducible refine (order_no (z) _).mono ?_); rintro eN wN ⟨rfl, bN⟩)
            have hpN := hid (stays bN hpK.out)
            have hbN := hid (b_call hbK.out bN)
            clear bN
            obtain ⟨m0, m1, m2, m3, m4⟩ := box5f hpN.out
            have n0 := frozen_heap hpN.out 0
            have n1 := frozen_heap hpN.out 1
            have n2 := frozen_heap hpN.out 2
            have n3 := frozen_heap hpN.out 3
            have n4 := frozen_heap hpN.out 4
            go_wp2_with fail
            have hq9 := box5_same (u0 := .int .i64 0) (u1 := .int .i64 0) (u2 := .string ⟨#[]⟩) (u3 := .slice none 0 0) (u4 := .slice none 0 0) hpN.out
            have hb9 := b_box5 hbN.out (q := w.heap.size) (Nat.le_refl _) (.int .i64 0) (.int .i64 0) (.string ⟨#[]⟩) (.slice none 0 0) (.slice none 0 0)
            obtain ⟨k0, k1, k2, k3, k4⟩ := box5f hq9
            unfold World.box5 at k0 k1 k2 k3 k4 hb9
            (try simp only [Exit.inBlock, Exit.then])
            refine bodyPost_ret (by simp [results, Try.results10, go_sem, k0, k1, k2, k3, k4]; try rfl) rfl ?_
            exact od_no hX.out hb9
      · -- nd
        rw [hpart] at h1
        cases h1
    · have hk2 : isKind k = false := by simpa using hk
      have hX := hid (zn.out k r rfl hk2)
      clear zb zn zk hk hpart
      rw [hk2] at hof
      go_enter Try.func10, Try.ntmps10
      go_wp2_with fail
      ((with_reducible refine (f1.out _ (hR.out.mono EU8.stable (b_alloc (Below.refl w.heap.size w) (Obj.cells #[.int .i64 0, .int .i64 0, .string ⟨#[]⟩, .slice none 0 0, .slice none 0 0] 31)))).mono ?_); rintro e1 w1 ⟨v1, rfl, r1, b1⟩)
      have hq_p_1 := hid (stays b1 (heap_alloc_new w (Obj.cells #[.int .i64 0, .int .i64 0, .string ⟨#[]⟩, .slice none 0 0, .slice none 0 0] 31)))
      have hb1 := hid (b_call (b_alloc (Below.refl w.heap.size w) (Obj.cells #[.int .i64 0, .int .i64 0, .string ⟨#[]⟩, .slice none 0 0, .slice none 0 0] 31)) b1)
      have r_r_1 := hid r1
      clear r1 b1
      obtain ⟨a1, c1, rfl, -⟩ := id r_r_1.out
      go_wp2_with fail
      ((with_reducible refine (hof.out _).mono ?_); rintro e2 w2 ⟨rfl, b2⟩)
      have hq_p_2 := hid (stays b2 hq_p_1.out)
      have hb2 := hid (b_call hb1.out b2)
      have r_r_2 := hid (r_r_1.out.mono EU8.stable (b_call (Below.refl w1.heap.size w1) b2))
      clear hq_p_1 hb1 r_r_1 b2
      go_wp2_with fail
      have hpA := hid (((heap_alloc_old w2 (Obj.cells #[.bool (hasN k), .bool (hasD k), .bool (hasB k), .bool (hasP k)] 67) (heap_lt hq_p_2.out)).trans hq_p_2.out))
      have hbA := hid ((b_alloc hb2.out (Obj.cells #[.bool (hasN k), .bool (hasD k), .bool (hasB k), .bool (hasP k)] 67)))
      clear hq_p_2
      generalize (w2.alloc (Obj.cells #[.bool (hasN k), .bool (hasD k), .bool (hasB k), .bool (hasP k)] 67)) = wa at *
      ((with_reducible refine (order_no (2) _).mono ?_); rintro eN wN ⟨rfl, bN⟩)
      have hpN := hid (stays bN hpA.out)
      have hbN := hid (b_call hbA.out bN)
      clear bN
      obtain ⟨m0, m1, m2, m3, m4⟩ := box5f hpN.out
      have n0 := frozen_heap hpN.out 0
      have n1 := frozen_heap hpN.out 1
      have n2 := frozen_heap hpN.out 2
      have n3 := frozen_heap hpN.out 3
      have n4 := frozen_heap hpN.out 4
      go_wp2_with fail
      have hq9 := box5_same (u0 := .int .i64 0) (u1 := .int .i64 0) (u2 := .string ⟨#[]⟩) (u3 := .slice none 0 0) (u4 := .slice none 0 0) hpN.out
      have hb9 := b_box5 hbN.out (q := w.heap.size) (Nat.le_refl _) (.int .i64 0) (.int .i64 0) (.string ⟨#[]⟩) (.slice none 0 0) (.slice none 0 0)
      obtain ⟨k0, k1, k2, k3, k4⟩ := box5f hq9
      unfold World.box5 at k0 k1 k2 k3 k4 hb9
      (try simp only [Exit.inBlock, Exit.then])
      refine bodyPost_ret (by simp [results, Try.results10, go_sem, k0, k1, k2, k3, k4]; try rfl) rfl ?_
      exact od_no hX.out hb9
  · have hX := hid (zb.out k r e rfl he)
    have t1 : (e != 0) = true := by simp [he]
    clear zb zn zk hpart
    replace he := hid he
    go_enter Try.func10, Try.ntmps10
    go_wp2_with fail
    ((with_reducible refine (f1.out _ (hR.out.mono EU8.stable (b_alloc (Below.refl w.heap.size w) (Obj.cells #[.int .i64 0, .int .i64 0, .string ⟨#[]⟩, .slice none 0 0, .slice none 0 0] 31)))).mono ?_); rintro e1 w1 ⟨v1, rfl, r1, b1⟩)
    have hq_p_1 := hid (stays b1 (heap_alloc_new w (Obj.cells #[.int .i64 0, .int .i64 0, .string ⟨#[]⟩, .slice none 0 0, .slice none 0 0] 31)))
    have hb1 := hid (b_call (b_alloc (Below.refl w.heap.size w) (Obj.cells #[.int .i64 0, .int .i64 0, .string ⟨#[]⟩, .slice none 0 0, .slice none 0 0] 31)) b1)
    have r_r_1 := hid r1
    clear r1 b1
    obtain ⟨a1, c1, rfl, -⟩ := id r_r_1.out
    go_wp2_with fail
    ((with_reducible refine (order_no (e) _).mono ?_); rintro eN wN ⟨rfl, bN⟩)
    have hpN := hid (stays bN hq_p_1.out)
    have hbN := hid (b_call hb1.out bN)
    clear bN
    obtain ⟨m0, m1, m2, m3, m4⟩ := box5f hpN.out
    have n0 := frozen_heap hpN.out 0
    have n1 := frozen_heap hpN.out 1
    have n2 := frozen_heap hpN.out 2
    have n3 := frozen_heap hpN.out 3
    have n4 := frozen_heap hpN.out 4
    go_wp2_with fail
    have hq9 := box5_same (u0 := .int .i64 0) (u1 := .int .i64 0) (u2 := .string ⟨#[]⟩) (u3 := .slice none 0 0) (u4 := .slice none 0 0) hpN.out
    have hb9 := b_box5 hbN.out (q := w.heap.size) (Nat.le_refl _) (.int .i64 0) (.int .i64 0) (.string ⟨#[]⟩) (.slice none 0 0) (.slice none 0 0)
    obtain ⟨k0, k1, k2, k3, k4⟩ := box5f hq9
    unfold World.box5 at k0 k1 k2 k3 k4 hb9
    (try simp only [Exit.inBlock, Exit.then])
    refine bodyPost_ret (by simp [results, Try.results10, go_sem, k0, k1, k2, k3, k4]; try rfl) rfl ?_
    exact od_no hX.out hb9
end Go.Proofs.Ytojebioolflbkaa
