/-
  order.Decode: what it answers, the kinds with a number. Printed by gen_od.py.
-/
import Derived.Test.YtojebioolflbkaaOdiA
namespace Go.Proofs.Ytojebioolflbkaa
open Go.RowKit
set_option maxRecDepth 100000 in
set_option maxHeartbeats 4000000 in
theorem order_DecodeB (v : Value) (b : List UInt8) (w : World) (h : RB w v b) (hpart : hasN (readNum b).1 = true) : Calls Try.prog 10 #[v] w (OdRes (decOrd b) w) := by
  have hR := hid h
  have hbl : b.length ≤ 140737488351232 := by obtain ⟨_, _, _, _, _, hre, _⟩ := h; omega
  have f1 := hid fun w (g : RB w v b) => (wire_ReadNumber v b w g).mono (fun e w' => num_post hbl)
  unfold NumPost at f1
  obtain ⟨X, hX⟩ : ∃ X, X = decOrd b := ⟨_, rfl⟩
  rw [← hX]
  have zb := hid fun n r e (h3 : readNum b = (n, r, e)) (he : e ≠ 0) => dec_bad hX h3 he
  have zn := hid fun k r (h3 : readNum b = (k, r, 0)) (hk : isKind k = false) => dec_none hX h3 hk
  have zk := hid fun k r (h3 : readNum b = (k, r, 0)) (hk : isKind k = true) => dec_kind hX h3 hk
  have hle := rn_rest_le b
  generalize hrn : readNum b = t at *
  obtain ⟨k, r, e⟩ := t
  simp only at f1 hle hpart
  replace hle : r.length ≤ 140737488351232 := by omega
  clear hrn hX h
  by_cases he : e = 0
  · subst he
    have hof := hid fun w => order_of k w
    by_cases hk : isKind k = true
    · have hX := hid (zk.out k r rfl hk)
      clear zb zn zk
      rcases kind_fields hk with ⟨h1, h2, h3, h4⟩ | ⟨h1, h2, h3, h4⟩ | ⟨h1, h2, h3, h4⟩ | ⟨h1, h2, h3, h4⟩ | ⟨h1, h2, h3, h4⟩ | ⟨h1, h2, h3, h4⟩
      · -- b
        rw [hpart] at h1
        cases h1
      · -- d
        rw [hpart] at h1
        cases h1
      · -- dp
        rw [hpart] at h1
        cases h1
      · -- n
        clear hpart
        rw [h1, h2, h3, h4, hk] at hof
        have f2 := hid fun v w (g : RB w v r) => (wire_ReadNumber v r w g).mono (fun e w' => num_post hle)
        unfold NumPost at f2
        have zb2 := hid fun n r' e (h3 : readNum r = (n, r', e)) (he : e ≠ 0) => odN_bad hX.out h1 h3 he
        have zo2 := hid fun n r' (h3 : readNum r = (n, r', 0)) => odN_ok hX.out h1 h3
        have hle2 := rn_rest_le r
        generalize hrn : readNum r = t at *
        obtain ⟨n, r2, e2⟩ := t
        simp only at f2 hle2
        replace hle2 : r2.length ≤ 140737488351232 := by omega
        clear hrn hX
        go_enter Try.func10, Try.ntmps10
        go_wp2_with fail
        ((with_reducible refine (f1.out _ (hR.out.mono EU8.stable (b_alloc (Below.refl w.heap.size w) (Obj.cells #[.int .i64 0, .int .i64 0, .string ⟨#[]⟩, .slice none 0 0, .slice none 0 0] 31)))).mono ?_); rintro e1 w1 ⟨v1, rfl, r1, b1⟩)
        have hq_p_1 := hid (stays b1 (heap_alloc_new w (Obj.cells #[.int .i64 0, .int .i64 0, .string ⟨#[]⟩, .slice none 0 0, .slice none 0 0] 31)))
        have hb1 := hid (b_call (b_alloc (Below.refl w.heap.size w) (Obj.cells #[.int .i64 0, .int .i64 0, .string ⟨#[]⟩, .slice none 0 0, .slice none 0 0] 31)) b1)
        have r_r_1 := hid r1
        clear r1 b1
        obtain ⟨a1, c1, rfl, -⟩ := id r_r_1.out
        go_wp2_with fail
        ((with_reducible refine (hof.out _).mono ?_); rintro e2 w2 ⟨rfl, b2⟩)
        have hq_p_2 := hid (stays b2 hq_p_1.out)
        have hb2 := hid (b_call hb1.out b2)
        have r_r_2 := hid (r_r_1.out.mono EU8.stable (b_call (Below.refl w1.heap.size w1) b2))
        clear hq_p_1 hb1 r_r_1 b2
        go_wp2_with fail
        have hpA := hid (((heap_alloc_old (w2.alloc (Obj.cells #[.bool true, .bool false, .bool false, .bool false] 67)) (Obj.cells #[.int .i64 k, .int .i64 0, .string ⟨#[]⟩, .slice none 0 0, .slice none 0 0] 31) (heap_lt ((heap_alloc_old w2 (Obj.cells #[.bool true, .bool false, .bool false, .bool false] 67) (heap_lt hq_p_2.out)).trans hq_p_2.out))).trans ((heap_alloc_old w2 (Obj.cells #[.bool true, .bool false, .bool false, .bool false] 67) (heap_lt hq_p_2.out)).trans hq_p_2.out)))
        have hfA := hid (((heap_alloc_old (w2.alloc (Obj.cells #[.bool true, .bool false, .bool false, .bool false] 67)) (Obj.cells #[.int .i64 k, .int .i64 0, .string ⟨#[]⟩, .slice none 0 0, .slice none 0 0] 31) (heap_lt (heap_put w2 (Obj.cells #[.bool true, .bool false, .bool false, .bool false] 67) (w2.heap.size) (by simp)))).trans (heap_put w2 (Obj.cells #[.bool true, .bool false, .bool false, .bool false] 67) (w2.heap.size) (by simp))))
        have hoA := hid ((heap_put (w2.alloc (Obj.cells #[.bool true, .bool false, .bool false, .bool false] 67)) (Obj.cells #[.int .i64 k, .int .i64 0, .string ⟨#[]⟩, .slice none 0 0, .slice none 0 0] 31) (w2.heap.size + 1) (by simp)))
        have hbA := hid ((b_alloc (b_alloc hb2.out (Obj.cells #[.bool true, .bool false, .bool false, .bool false] 67)) (Obj.cells #[.int .i64 k, .int .i64 0, .string ⟨#[]⟩, .slice none 0 0, .slice none 0 0] 31)))
        have hrA := hid (r_r_2.out.mono EU8.stable (b_alloc (b_alloc (Below.refl w2.heap.size w2) (Obj.cells #[.bool true, .bool false, .bool false, .bool false] 67)) (Obj.cells #[.int .i64 k, .int .i64 0, .string ⟨#[]⟩, .slice none 0 0, .slice none 0 0] 31)))
        have hs2 : w.heap.size < w2.heap.size := heap_lt hq_p_2.out
        clear hq_p_2 r_r_2 hb2
        generalize ((w2.alloc (Obj.cells #[.bool true, .bool false, .bool false, .bool false] 67)).alloc (Obj.cells #[.int .i64 k, .int .i64 0, .string ⟨#[]⟩, .slice none 0 0, .slice none 0 0] 31)) = wa at *
        ((with_reducible refine (f2.out _ _ hrA.out).mono ?_); rintro e3 w3 ⟨v2, rfl, r3, b3⟩)
        have hpB := hid (stays b3 hpA.out)
        have hfB := hid (stays b3 hfA.out)
        have hoB := hid (stays b3 hoA.out)
        have hbB := hid (b_call hbA.out b3)
        clear hpA hfA hoA hbA
        replace r3 := hid r3
        clear hrA b3 f2
        by_cases he2 : e2 = 0
        · subst he2
          have hX := hid (zo2.out n r2 rfl)
          clear zb2 zo2
          replace hX := hid (odD_no hX.out h2)
          replace hX := hid (odB_no hX.out h3)
          replace hX := hid (odP_no hX.out h4)
          by_cases hr0 : 0 < r2.length
          · replace hX := hid (odR_bad hX.out hr0)
            have qr : decide (0 < (r2.length : Int)) = true := decide_eq_true (by omega)
            obtain ⟨c0, c1, c2, c3⟩ := box4f hfB.out
            obtain ⟨o0, o1, o2, o3, o4⟩ := box5f hoB.out
            have q1 := frozen_heap hoB.out 1
            obtain ⟨av, cv, rfl, -⟩ := id r3.out
            go_wp2_with fail
            clear c0 c1 c2 c3 o0 o1 o2 o3 o4 q1
            have hpC := hid (box_other (q := w2.heap.size + 1) (o := 1) (u := .int .i64 n) hpB.out (by omega))
            have hfC := hid (box_other (q := w2.heap.size + 1) (o := 1) (u := .int .i64 n) hfB.out (by omega))
            have hoC := hid (box5_1 (u := .int .i64 n) hoB.out)
            have hbC := hid (b_set hbB.out (p := ⟨w2.heap.size + 1, 1, none⟩) (show w.heap.size ≤ w2.heap.size + 1 by omega) (.int .i64 n))
            have hrC := hid (RB.setO (p := w2.heap.size + 1) (q := 1) (u := .int .i64 n) r3.out ⟨_, _, _, _, _, _, _, _, _, _, hoB.out⟩)
            clear hpB hfB hoB hbB r3
            generalize w3.setCell ⟨w2.heap.size + 1, 1, none⟩ (.int .i64 n) = w4 at *
            ((with_reducible refine (order_no (3) _).mono ?_); rintro eN wN ⟨rfl, bN⟩)
            have hpN := hid (stays bN hpC.out)
            have hbN := hid (b_call hbC.out bN)
            clear bN
            obtain ⟨m0, m1, m2, m3, m4⟩ := box5f hpN.out
            have n0 := frozen_heap hpN.out 0
            have n1 := frozen_heap hpN.out 1
            have n2 := frozen_heap hpN.out 2
            have n3 := frozen_heap hpN.out 3
            have n4 := frozen_heap hpN.out 4
            go_wp2_with fail
            have hq9 := box5_same (u0 := .int .i64 0) (u1 := .int .i64 0) (u2 := .string ⟨#[]⟩) (u3 := .slice none 0 0) (u4 := .slice none 0 0) hpN.out
            have hb9 := b_box5 hbN.out (q := w.heap.size) (Nat.le_refl _) (.int .i64 0) (.int .i64 0) (.string ⟨#[]⟩) (.slice none 0 0) (.slice none 0 0)
            obtain ⟨k0, k1, k2, k3, k4⟩ := box5f hq9
            unfold World.box5 at k0 k1 k2 k3 k4 hb9
            (try simp only [Exit.inBlock, Exit.then])
            refine bodyPost_ret (by simp [results, Try.results10, go_sem, k0, k1, k2, k3, k4]; try rfl) rfl ?_
            exact od_no hX.out hb9
          · replace hX := hid (odR_ok hX.out hr0)
            have qr : decide (0 < (r2.length : Int)) = false := decide_eq_false (by omega)
            obtain ⟨c0, c1, c2, c3⟩ := box4f hfB.out
            obtain ⟨o0, o1, o2, o3, o4⟩ := box5f hoB.out
            have q1 := frozen_heap hoB.out 1
            obtain ⟨av, cv, rfl, -⟩ := id r3.out
            go_wp2_with fail
            clear c0 c1 c2 c3 o0 o1 o2 o3 o4 q1
            have hpC := hid (box_other (q := w2.heap.size + 1) (o := 1) (u := .int .i64 n) hpB.out (by omega))
            have hfC := hid (box_other (q := w2.heap.size + 1) (o := 1) (u := .int .i64 n) hfB.out (by omega))
            have hoC := hid (box5_1 (u := .int .i64 n) hoB.out)
            have hbC := hid (b_set hbB.out (p := ⟨w2.heap.size + 1, 1, none⟩) (show w.heap.size ≤ w2.heap.size + 1 by omega) (.int .i64 n))
            have hrC := hid (RB.setO (p := w2.heap.size + 1) (q := 1) (u := .int .i64 n) r3.out ⟨_, _, _, _, _, _, _, _, _, _, hoB.out⟩)
            clear hpB hfB hoB hbB r3
            generalize w3.setCell ⟨w2.heap.size + 1, 1, none⟩ (.int .i64 n) = w4 at *
            have fz : Hid (∀ w, RB w (.slice none 0 0) [] → RP w (.slice none 0 0) [] → Calls Try.prog 44 #[.agg #[.int .i64 k, .int .i64 n, .string ⟨#[]⟩, .slice none 0 0, .slice none 0 0]] w fun e w' => e = .returned (.int .i64 (ordFault ⟨k, n, ⟨#[]⟩, [], []⟩)) ∧ Below w.heap.size w w') := hid fun w g1 g2 => order_Check ⟨k, n, ⟨#[]⟩, [], []⟩ (.slice none 0 0) (.slice none 0 0) w g1 g2 no_len
            have zb9 := hid fun z (h : ordFault ⟨k, n, ⟨#[]⟩, [], []⟩ = z) (he : z ≠ 0) => odC_bad hX.out h he
            have zo9 := hid fun (h : ordFault ⟨k, n, ⟨#[]⟩, [], []⟩ = 0) => odC_ok hX.out h
            generalize hof9 : ordFault ⟨k, n, ⟨#[]⟩, [], []⟩ = z at *
            clear hX hof9
            obtain ⟨c0, c1, c2, c3⟩ := box4f hfC.out
            obtain ⟨o0, o1, o2, o3, o4⟩ := box5f hoC.out
            ((with_reducible refine (fz.out _ RS.nil RS.nil).mono ?_); rintro e9 w10 ⟨rfl, b10⟩)
            clear c0 c1 c2 c3 o0 o1 o2 o3 o4
            have hpK := hid (stays b10 hpC.out)
            have hfK := hid (stays b10 hfC.out)
            have hoK := hid (stays b10 hoC.out)
            have hbK := hid (b_call hbC.out b10)
            clear hpC hfC hoC hbC
            clear b10 fz
            by_cases hz : z = 0
            · subst hz
              have hX := hid (zo9.out rfl)
              clear zb9 zo9
              obtain ⟨c0, c1, c2, c3⟩ := box4f hfK.out
              obtain ⟨o0, o1, o2, o3, o4⟩ := box5f hoK.out
              obtain ⟨m0, m1, m2, m3, m4⟩ := box5f hpK.out
              have n0 := frozen_heap hpK.out 0
              have n1 := frozen_heap hpK.out 1
              have n2 := frozen_heap hpK.out 2
              have n3 := frozen_heap hpK.out 3
              have n4 := frozen_heap hpK.out 4
              go_wp2_with fail
              have hq9 := box5_same (u0 := .int .i64 k) (u1 := .int .i64 n) (u2 := .string ⟨#[]⟩) (u3 := .slice none 0 0) (u4 := .slice none 0 0) hpK.out
              have hb9 := b_box5 hbK.out (q := w.heap.size) (Nat.le_refl _) (.int .i64 k) (.int .i64 n) (.string ⟨#[]⟩) (.slice none 0 0) (.slice none 0 0)
              obtain ⟨k0, k1, k2, k3, k4⟩ := box5f hq9
              unfold World.box5 at k0 k1 k2 k3 k4 hb9
              (try simp only [Exit.inBlock, Exit.then])
              refine bodyPost_ret (by simp [results, Try.results10, go_sem, k0, k1, k2, k3, k4]; try rfl) rfl ?_
              exact od_ok hX.out (RS.nil) (RS.nil) hb9
            · have hX := hid (zb9.out z rfl hz)
              have tz : (z != 0) = true := by simp [hz]
              clear zb9 zo9
              replace hz := hid hz
              go_wp2_with fail
              ((with_reducible refine (order_no (z) _).mono ?_); rintro eN wN ⟨rfl, bN⟩)
              have hpN := hid (stays bN hpK.out)
              have hbN := hid (b_call hbK.out bN)
              clear bN
              obtain ⟨m0, m1, m2, m3, m4⟩ := box5f hpN.out
              have n0 := frozen_heap hpN.out 0
              have n1 := frozen_heap hpN.out 1
              have n2 := frozen_heap hpN.out 2
              have n3 := frozen_heap hpN.out 3
              have n4 := frozen_heap hpN.out 4
              go_wp2_with fail
              have hq9 := box5_same (u0 := .int .i64 0) (u1 := .int .i64 0) (u2 := .string ⟨#[]⟩) (u3 := .slice none 0 0) (u4 := .slice none 0 0) hpN.out
              have hb9 := b_box5 hbN.out (q := w.heap.size) (Nat.le_refl _) (.int .i64 0) (.int .i64 0) (.string ⟨#[]⟩) (.slice none 0 0) (.slice none 0 0)
              obtain ⟨k0, k1, k2, k3, k4⟩ := box5f hq9
              unfold World.box5 at k0 k1 k2 k3 k4 hb9
              (try simp only [Exit.inBlock, Exit.then])
              refine bodyPost_ret (by simp [results, Try.results10, go_sem, k0, k1, k2, k3, k4]; try rfl) rfl ?_
              exact od_no hX.out hb9
        · have hX := hid (zb2.out n r2 e2 rfl he2)
          have t2 : (e2 != 0) = true := by simp [he2]
          clear zb2 zo2
          replace he2 := hid he2
          obtain ⟨c0, c1, c2, c3⟩ := box4f hfB.out
          obtain ⟨o0, o1, o2, o3, o4⟩ := box5f hoB.out
          have q1 := frozen_heap hoB.out 1
          obtain ⟨av, cv, rfl, -⟩ := id r3.out
          go_wp2_with fail
          clear c0 c1 c2 c3 o0 o1 o2 o3 o4 q1
          have hpC := hid (box_other (q := w2.heap.size + 1) (o := 1) (u := .int .i64 n) hpB.out (by omega))
          have hfC := hid (box_other (q := w2.heap.size + 1) (o := 1) (u := .int .i64 n) hfB.out (by omega))
          have hoC := hid (box5_1 (u := .int .i64 n) hoB.out)
          have hbC := hid (b_set hbB.out (p := ⟨w2.heap.size + 1, 1, none⟩) (show w.heap.size ≤ w2.heap.size + 1 by omega) (.int .i64 n))
          have hrC := hid (RB.setO (p := w2.heap.size + 1) (q := 1) (u := .int .i64 n) r3.out ⟨_, _, _, _, _, _, _, _, _, _, hoB.out⟩)
          clear hpB hfB hoB hbB r3
          generalize w3.setCell ⟨w2.heap.size + 1, 1, none⟩ (.int .i64 n) = w4 at *
          ((with_reducible refine (order_no (e2) _).mono ?_); rintro eN wN ⟨rfl, bN⟩)
          have hpN := hid (stays bN hpC.out)
          have hbN := hid (b_call hbC.out bN)
          clear bN
          obtain ⟨m0, m1, m2, m3, m4⟩ := box5f hpN.out
          have n0 := frozen_heap hpN.out 0
          have n1 := frozen_heap hpN.out 1
          have n2 := frozen_heap hpN.out 2
          have n3 := frozen_heap hpN.out 3
          have n4 := frozen_heap hpN.out 4
          go_wp2_with fail
          have hq9 := box5_same (u0 := .int .i64 0) (u1 := .int .i64 0) (u2 := .string ⟨#[]⟩) (u3 := .slice none 0 0) (u4 := .slice none 0 0) hpN.out
          have hb9 := b_box5 hbN.out (q := w.heap.size) (Nat.le_refl _) (.int .i64 0) (.int .i64 0) (.string ⟨#[]⟩) (.slice none 0 0) (.slice none 0 0)
          obtain ⟨k0, k1, k2, k3, k4⟩ := box5f hq9
          unfold World.box5 at k0 k1 k2 k3 k4 hb9
          (try simp only [Exit.inBlock, Exit.then])
          refine bodyPost_ret (by simp [results, Try.results10, go_sem, k0, k1, k2, k3, k4]; try rfl) rfl ?_
          exact od_no hX.out hb9
      · -- -
        rw [hpart] at h1
        cases h1
      · -- nd
        clear hpart
        rw [h1, h2, h3, h4, hk] at hof
        have f2 := hid fun v w (g : RB w v r) => (wire_ReadNumber v r w g).mono (fun e w' => num_post hle)
        unfold NumPost at f2
        have zb2 := hid fun n r' e (h3 : readNum r = (n, r', e)) (he : e ≠ 0) => odN_bad hX.out h1 h3 he
        have zo2 := hid fun n r' (h3 : readNum r = (n, r', 0)) => odN_ok hX.out h1 h3
        have hle2 := rn_rest_le r
        generalize hrn : readNum r = t at *
        obtain ⟨n, r2, e2⟩ := t
        simp only at f2 hle2
        replace hle2 : r2.length ≤ 140737488351232 := by omega
        clear hrn hX
        go_enter Try.func10, Try.ntmps10
        go_wp2_with fail
        ((with_reducible refine (f1.out _ (hR.out.mono EU8.stable (b_alloc (Below.refl w.heap.size w) (Obj.cells #[.int .i64 0, .int .i64 0, .string ⟨#[]⟩, .slice none 0 0, .slice none 0 0] 31)))).mono ?_); rintro e1 w1 ⟨v1, rfl, r1, b1⟩)
        have hq_p_1 := hid (stays b1 (heap_alloc_new w (Obj.cells #[.int .i64 0, .int .i64 0, .string ⟨#[]⟩, .slice none 0 0, .slice none 0 0] 31)))
        have hb1 := hid (b_call (b_alloc (Below.refl w.heap.size w) (Obj.cells #[.int .i64 0, .int .i64 0, .string ⟨#[]⟩, .slice none 0 0, .slice none 0 0] 31)) b1)
        have r_r_1 := hid r1
        clear r1 b1
        obtain ⟨a1, c1, rfl, -⟩ := id r_r_1.out
        go_wp2_with fail
        ((with_reducible refine (hof.out _).mono ?_); rintro e2 w2 ⟨rfl, b2⟩)
        have hq_p_2 := hid (stays b2 hq_p_1.out)
        have hb2 := hid (b_call hb1.out b2)
        have r_r_2 := hid (r_r_1.out.mono EU8.stable (b_call (Below.refl w1.heap.size w1) b2))
        clear hq_p_1 hb1 r_r_1 b2
        go_wp2_with fail
        have hpA := hid (((heap_alloc_old (w2.alloc (Obj.cells #[.bool true, .bool true, .bool false, .bool false] 67)) (Obj.cells #[.int .i64 k, .int .i64 0, .string ⟨#[]⟩, .slice none 0 0, .slice none 0 0] 31) (heap_lt ((heap_alloc_old w2 (Obj.cells #[.bool true, .bool true, .bool false, .bool false] 67) (heap_lt hq_p_2.out)).trans hq_p_2.out))).trans ((heap_alloc_old w2 (Obj.cells #[.bool true, .bool true, .bool false, .bool false] 67) (heap_lt hq_p_2.out)).trans hq_p_2.out)))
        have hfA := hid (((heap_alloc_old (w2.alloc (Obj.cells #[.bool true, .bool true, .bool false, .bool false] 67)) (Obj.cells #[.int .i64 k, .int .i64 0, .string ⟨#[]⟩, .slice none 0 0, .slice none 0 0] 31) (heap_lt (heap_put w2 (Obj.cells #[.bool true, .bool true, .bool false, .bool false] 67) (w2.heap.size) (by simp)))).trans (heap_put w2 (Obj.cells #[.bool true, .bool true, .bool false, .bool false] 67) (w2.heap.size) (by simp))))
        have hoA := hid ((heap_put (w2.alloc (Obj.cells #[.bool true, .bool true, .bool false, .bool false] 67)) (Obj.cells #[.int .i64 k, .int .i64 0, .string ⟨#[]⟩, .slice none 0 0, .slice none 0 0] 31) (w2.heap.size + 1) (by simp)))
        have hbA := hid ((b_alloc (b_alloc hb2.out (Obj.cells #[.bool true, .bool true, .bool false, .bool false] 67)) (Obj.cells #[.int .i64 k, .int .i64 0, .string ⟨#[]⟩, .slice none 0 0, .slice none 0 0] 31)))
        have hrA := hid (r_r_2.out.mono EU8.stable (b_alloc (b_alloc (Below.refl w2.heap.size w2) (Obj.cells #[.bool true, .bool true, .bool false, .bool false] 67)) (Obj.cells #[.int .i64 k, .int .i64 0, .string ⟨#[]⟩, .slice none 0 0, .slice none 0 0] 31)))
        have hs2 : w.heap.size < w2.heap.size := heap_lt hq_p_2.out
        clear hq_p_2 r_r_2 hb2
        generalize ((w2.alloc (Obj.cells #[.bool true, .bool true, .bool false, .bool false] 67)).alloc (Obj.cells #[.int .i64 k, .int .i64 0, .string ⟨#[]⟩, .slice none 0 0, .slice none 0 0] 31)) = wa at *
        ((with_reducible refine (f2.out _ _ hrA.out).mono ?_); rintro e3 w3 ⟨v2, rfl, r3, b3⟩)
        have hpB := hid (stays b3 hpA.out)
        have hfB := hid (stays b3 hfA.out)
        have hoB := hid (stays b3 hoA.out)
        have hbB := hid (b_call hbA.out b3)
        clear hpA hfA hoA hbA
        replace r3 := hid r3
        clear hrA b3 f2
        by_cases he2 : e2 = 0
        · subst he2
          have hX := hid (zo2.out n r2 rfl)
          clear zb2 zo2
          by_cases hl32 : r2.length < 32
          · replace hX := hid (odD_bad hX.out h2 hl32)
            have q32 : decide ((r2.length : Int) < 32) = true := by simp; omega
            obtain ⟨c0, c1, c2, c3⟩ := box4f hfB.out
            obtain ⟨o0, o1, o2, o3, o4⟩ := box5f hoB.out
            have q1 := frozen_heap hoB.out 1
            obtain ⟨av, cv, rfl, -⟩ := id r3.out
            go_wp2_with fail
            clear c0 c1 c2 c3 o0 o1 o2 o3 o4 q1
            have hpC := hid (box_other (q := w2.heap.size + 1) (o := 1) (u := .int .i64 n) hpB.out (by omega))
            have hfC := hid (box_other (q := w2.heap.size + 1) (o := 1) (u := .int .i64 n) hfB.out (by omega))
            have hoC := hid (box5_1 (u := .int .i64 n) hoB.out)
            have hbC := hid (b_set hbB.out (p := ⟨w2.heap.size + 1, 1, none⟩) (show w.heap.size ≤ w2.heap.size + 1 by omega) (.int .i64 n))
            have hrC := hid (RB.setO (p := w2.heap.size + 1) (q := 1) (u := .int .i64 n) r3.out ⟨_, _, _, _, _, _, _, _, _, _, hoB.out⟩)
            clear hpB hfB hoB hbB r3
            generalize w3.setCell ⟨w2.heap.size + 1, 1, none⟩ (.int .i64 n) = w4 at *
            ((with_reducible refine (order_no (8) _).mono ?_); rintro eN wN ⟨rfl, bN⟩)
            have hpN := hid (stays bN hpC.out)
            have hbN := hid (b_call hbC.out bN)
            clear bN
            obtain ⟨m0, m1, m2, m3, m4⟩ := box5f hpN.out
            have n0 := frozen_heap hpN.out 0
            have n1 := frozen_heap hpN.out 1
            have n2 := frozen_heap hpN.out 2
            have n3 := frozen_heap hpN.out 3
            have n4 := frozen_heap hpN.out 4
            go_wp2_with fail
            have hq9 := box5_same (u0 := .int .i64 0) (u1 := .int .i64 0) (u2 := .string ⟨#[]⟩) (u3 := .slice none 0 0) (u4 := .slice none 0 0) hpN.out
            have hb9 := b_box5 hbN.out (q := w.heap.size) (Nat.le_refl _) (.int .i64 0) (.int .i64 0) (.string ⟨#[]⟩) (.slice none 0 0) (.slice none 0 0)
            obtain ⟨k0, k1, k2, k3, k4⟩ := box5f hq9
            unfold World.box5 at k0 k1 k2 k3 k4 hb9
            (try simp only [Exit.inBlock, Exit.then])
            refine bodyPost_ret (by simp [results, Try.results10, go_sem, k0, k1, k2, k3, k4]; try rfl) rfl ?_
            exact od_no hX.out hb9
          · replace hX := hid (odD_ok hX.out h2 hl32)
            have q32 : decide ((r2.length : Int) < 32) = false := by simp; omega
            obtain ⟨c0, c1, c2, c3⟩ := box4f hfB.out
            obtain ⟨o0, o1, o2, o3, o4⟩ := box5f hoB.out
            have q1 := frozen_heap hoB.out 1
            obtain ⟨av, cv, rfl, -⟩ := id r3.out
            go_upto_region 16 with fail
            clear c0 c1 c2 c3 o0 o1 o2 o3 o4 q1
            have hpC := hid (box_other (q := w2.heap.size + 1) (o := 1) (u := .int .i64 n) hpB.out (by omega))
            have hfC := hid (box_other (q := w2.heap.size + 1) (o := 1) (u := .int .i64 n) hfB.out (by omega))
            have hoC := hid (box5_1 (u := .int .i64 n) hoB.out)
            have hbC := hid (b_set hbB.out (p := ⟨w2.heap.size + 1, 1, none⟩) (show w.heap.size ≤ w2.heap.size + 1 by omega) (.int .i64 n))
            have hrC := hid (RB.setO (p := w2.heap.size + 1) (q := 1) (u := .int .i64 n) r3.out ⟨_, _, _, _, _, _, _, _, _, _, hoB.out⟩)
            clear hpB hfB hoB hbB r3
            generalize w3.setCell ⟨w2.heap.size + 1, 1, none⟩ (.int .i64 n) = w4 at *
            obtain ⟨hlc, hcm, bb, off, rfl⟩ := rb_parts hrC.out (by omega)
            have hc32 : 32 ≤ cv := by omega
            have hn32 : 32 ≤ r2.length := by omega
            have hi32 : (32 : Int) ≤ (r2.length : Int) := by omega
            have hj32 : (32 : Int) ≤ (cv : Int) := by omega
            obtain ⟨A, hA⟩ : ∃ A, (if cv = 32 then (some ⟨bb, off, none⟩ : Option Addr) else some ⟨bb, off + 32, none⟩) = A := ⟨_, rfl⟩
            have hA2 : (if cv = 32 then (some ⟨bb, off, none⟩ : Option Addr) else (some (⟨bb, off, none⟩ : Addr)).map (·.add (32 * 1))) = A := by rw [← hA]; simp [Addr.add_lit]
            have hup := hid (RS.upto hrC.out 32 hn32)
            have hfr := behind_reads hrC.out 32 hn32
            rw [behind_slice, hA2] at hfr
            replace hfr := hid hfr
            clear hA2 hrC
            generalize hd32 : bstr (hexOf (r2.take 32)) = d32 at *
            have fh := hid fun w (g : RB w (.slice (some ⟨bb, off, none⟩) 32 cv) (r2.take 32)) => hex_Text _ _ w g (by rw [List.length_take]; omega)
            rw [hd32] at fh
            have hz32 : d32.size ≤ 140737488351232 := hd32 ▸ hex_le32 r2
            clear hd32
            go_cut [6] (fun c6 wx => c6 = .slice A (r2.length - 32) (cv - 32) ∧ Hid (wx.heap[w.heap.size]? = some (.cells #[.int .i64 0, .int .i64 0, .string ⟨#[]⟩, .slice none 0 0, .slice none 0 0] 31 (0, 0))) ∧ Hid (wx.heap[w2.heap.size]? = some (.cells #[.bool true, .bool true, .bool false, .bool false] 67 (0, 0))) ∧ Hid (wx.heap[w2.heap.size + 1]? = some (.cells #[.int .i64 k, .int .i64 n, .string d32, .slice none 0 0, .slice none 0 0] 31 (0, 0))) ∧ Hid (RB wx (.slice A (r2.length - 32) (cv - 32)) (r2.drop 32)) ∧ Hid (Below w.heap.size w wx))
            case first =>
              obtain ⟨c0, c1, c2, c3⟩ := box4f hfC.out
              obtain ⟨o0, o1, o2, o3, o4⟩ := box5f hoC.out
              have q2 := frozen_heap hoC.out 2
              have hon := hoC.out
              have hpn := hpC.out
              go_region_held3 (fun w' => True) (first | exact trivial | go_keep | fail)
                ((first
                  | ((with_reducible refine (fh.out _ (hup.out.mono EU8.stable (Below.refl _ w4).drew)).mono ?_)
                     rintro e5 w5 ⟨rfl, b5'⟩
                     have b5 := b_call (Below.refl _ w4).drew b5'
                     have x5 := box5f (stays b5 hon)
                     have y5 := x5.2.2.1
                     have z5 := frozen_heap (stays b5 hon) 2)
                  | fail))
              all_goals
                have hp5 := box_other (q := w2.heap.size + 1) (o := 2) (u := .string d32) (stays b5 hpn) (by omega)
                have hf5 := box_other (q := w2.heap.size + 1) (o := 2) (u := .string d32) (stays b5 hfC.out) (by omega)
                have ho5 := box5_2 (u := .string d32) (stays b5 hon)
                have hb5 := b_set (b_call hbC.out b5) (p := ⟨w2.heap.size + 1, 2, none⟩) (show w.heap.size ≤ w2.heap.size + 1 by omega) (.string d32)
                have hr5 := RB.setO (p := w2.heap.size + 1) (q := 2) (u := .string d32) (hfr.out.mono EU8.stable b5) ⟨_, _, _, _, _, _, _, _, _, _, stays b5 hon⟩
                (try go_wp2_with fail)
                go_meet
                exact ⟨rfl, hid hp5, hid hf5, hid ho5, hid hr5, hid hb5⟩
            case rest =>
              obtain ⟨rfl, hpE, hfE, hoE, hrE, hbE⟩ := hcut
              clear hpC hfC hoC hbC hfr hup fh
              have hle32 : (r2.drop 32).length ≤ 140737488351232 := by rw [List.length_drop]; omega
              have hdrop : (r2.drop 32).length = r2.length - 32 := List.length_drop
              replace hX := hid (odB_no hX.out h3)
              replace hX := hid (odP_no hX.out h4)
              by_cases hr0 : 0 < (r2.drop 32).length
              · replace hX := hid (odR_bad hX.out hr0)
                have qr : decide (0 < ((r2.length - 32 : Nat) : Int)) = true := decide_eq_true (by omega)
                obtain ⟨c0, c1, c2, c3⟩ := box4f hfE.out
                obtain ⟨o0, o1, o2, o3, o4⟩ := box5f hoE.out
                go_wp2_with fail
                clear c0 c1 c2 c3 o0 o1 o2 o3 o4
                ((with_reducible refine (order_no (3) _).mono ?_); rintro eN wN ⟨rfl, bN⟩)
                have hpN := hid (stays bN hpE.out)
                have hbN := hid (b_call hbE.out bN)
                clear bN
                obtain ⟨m0, m1, m2, m3, m4⟩ := box5f hpN.out
                have n0 := frozen_heap hpN.out 0
                have n1 := frozen_heap hpN.out 1
                have n2 := frozen_heap hpN.out 2
                have n3 := frozen_heap hpN.out 3
                have n4 := frozen_heap hpN.out 4
                go_wp2_with fail
                have hq9 := box5_same (u0 := .int .i64 0) (u1 := .int .i64 0) (u2 := .string ⟨#[]⟩) (u3 := .slice none 0 0) (u4 := .slice none 0 0) hpN.out
                have hb9 := b_box5 hbN.out (q := w.heap.size) (Nat.le_refl _) (.int .i64 0) (.int .i64 0) (.string ⟨#[]⟩) (.slice none 0 0) (.slice none 0 0)
                obtain ⟨k0, k1, k2, k3, k4⟩ := box5f hq9
                unfold World.box5 at k0 k1 k2 k3 k4 hb9
                (try simp only [Exit.inBlock, Exit.then])
                refine bodyPost_ret (by simp [results, Try.results10, go_sem, k0, k1, k2, k3, k4]; try rfl) rfl ?_
                exact od_no hX.out hb9
              · replace hX := hid (odR_ok hX.out hr0)
                have qr : decide (0 < ((r2.length - 32 : Nat) : Int)) = false := decide_eq_false (by omega)
                obtain ⟨c0, c1, c2, c3⟩ := box4f hfE.out
                obtain ⟨o0, o1, o2, o3, o4⟩ := box5f hoE.out
                go_wp2_with fail
                clear c0 c1 c2 c3 o0 o1 o2 o3 o4
                have fz : Hid (∀ w, RB w (.slice none 0 0) [] → RP w (.slice none 0 0) [] → Calls Try.prog 44 #[.agg #[.int .i64 k, .int .i64 n, .string d32, .slice none 0 0, .slice none 0 0]] w fun e w' => e = .returned (.int .i64 (ordFault ⟨k, n, d32, [], []⟩)) ∧ Below w.heap.size w w') := hid fun w g1 g2 => order_Check ⟨k, n, d32, [], []⟩ (.slice none 0 0) (.slice none 0 0) w g1 g2 hz32
                have zb9 := hid fun z (h : ordFault ⟨k, n, d32, [], []⟩ = z) (he : z ≠ 0) => odC_bad hX.out h he
                have zo9 := hid fun (h : ordFault ⟨k, n, d32, [], []⟩ = 0) => odC_ok hX.out h
                generalize hof9 : ordFault ⟨k, n, d32, [], []⟩ = z at *
                clear hX hof9
                obtain ⟨c0, c1, c2, c3⟩ := box4f hfE.out
                obtain ⟨o0, o1, o2, o3, o4⟩ := box5f hoE.out
                ((with_reducible refine (fz.out _ RS.nil RS.nil).mono ?_); rintro e9 w10 ⟨rfl, b10⟩)
                clear c0 c1 c2 c3 o0 o1 o2 o3 o4
                have hpK := hid (stays b10 hpE.out)
                have hfK := hid (stays b10 hfE.out)
                have hoK := hid (stays b10 hoE.out)
                have hbK := hid (b_call hbE.out b10)
                clear hpE hfE hoE hbE
                clear b10 fz
                by_cases hz : z = 0
                · subst hz
                  have hX := hid (zo9.out rfl)
                  clear zb9 zo9
                  obtain ⟨c0, c1, c2, c3⟩ := box4f hfK.out
                  obtain ⟨o0, o1, o2, o3, o4⟩ := box5f hoK.out
                  obtain ⟨m0, m1, m2, m3, m4⟩ := box5f hpK.out
                  have n0 := frozen_heap hpK.out 0
                  have n1 := frozen_heap hpK.out 1
                  have n2 := frozen_heap hpK.out 2
                  have n3 := frozen_heap hpK.out 3
                  have n4 := frozen_heap hpK.out 4
                  go_wp2_with fail
                  have hq9 := box5_same (u0 := .int .i64 k) (u1 := .int .i64 n) (u2 := .string d32) (u3 := .slice none 0 0) (u4 := .slice none 0 0) hpK.out
                  have hb9 := b_box5 hbK.out (q := w.heap.size) (Nat.le_refl _) (.int .i64 k) (.int .i64 n) (.string d32) (.slice none 0 0) (.slice none 0 0)
                  obtain ⟨k0, k1, k2, k3, k4⟩ := box5f hq9
                  unfold World.box5 at k0 k1 k2 k3 k4 hb9
                  (try simp only [Exit.inBlock, Exit.then])
                  refine bodyPost_ret (by simp [results, Try.results10, go_sem, k0, k1, k2, k3, k4]; try rfl) rfl ?_
                  exact od_ok hX.out (RS.nil) (RS.nil) hb9
                · have hX := hid (zb9.out z rfl hz)
                  have tz : (z != 0) = true := by simp [hz]
                  clear zb9 zo9
                  replace hz := hid hz
                  go_wp2_with fail
                  ((with_reducible refine (order_no (z) _).mono ?_); rintro eN wN ⟨rfl, bN⟩)
                  have hpN := hid (stays bN hpK.out)
                  have hbN := hid (b_call hbK.out bN)
                  clear bN
                  obtain ⟨m0, m1, m2, m3, m4⟩ := box5f hpN.out
                  have n0 := frozen_heap hpN.out 0
                  have n1 := frozen_heap hpN.out 1
                  have n2 := frozen_heap hpN.out 2
                  have n3 := frozen_heap hpN.out 3
                  have n4 := frozen_heap hpN.out 4
                  go_wp2_with fail
                  have hq9 := box5_same (u0 := .int .i64 0) (u1 := .int .i64 0) (u2 := .string ⟨#[]⟩) (u3 := .slice none 0 0) (u4 := .slice none 0 0) hpN.out
                  have hb9 := b_box5 hbN.out (q := w.heap.size) (Nat.le_refl _) (.int .i64 0) (.int .i64 0) (.string ⟨#[]⟩) (.slice none 0 0) (.slice none 0 0)
                  obtain ⟨k0, k1, k2, k3, k4⟩ := box5f hq9
                  unfold World.box5 at k0 k1 k2 k3 k4 hb9
                  (try simp only [Exit.inBlock, Exit.then])
                  refine bodyPost_ret (by simp [results, Try.results10, go_sem, k0, k1, k2, k3, k4]; try rfl) rfl ?_
                  exact od_no hX.out hb9
        · have hX := hid (zb2.out n r2 e2 rfl he2)
          have t2 : (e2 != 0) = true := by simp [he2]
          clear zb2 zo2
          replace he2 := hid he2
          obtain ⟨c0, c1, c2, c3⟩ := box4f hfB.out
          obtain ⟨o0, o1, o2, o3, o4⟩ := box5f hoB.out
          have q1 := frozen_heap hoB.out 1
          obtain ⟨av, cv, rfl, -⟩ := id r3.out
          go_wp2_with fail
          clear c0 c1 c2 c3 o0 o1 o2 o3 o4 q1
          have hpC := hid (box_other (q := w2.heap.size + 1) (o := 1) (u := .int .i64 n) hpB.out (by omega))
          have hfC := hid (box_other (q := w2.heap.size + 1) (o := 1) (u := .int .i64 n) hfB.out (by omega))
          have hoC := hid (box5_1 (u := .int .i64 n) hoB.out)
          have hbC := hid (b_set hbB.out (p := ⟨w2.heap.size + 1, 1, none⟩) (show w.heap.size ≤ w2.heap.size + 1 by omega) (.int .i64 n))
          have hrC := hid (RB.setO (p := w2.heap.size + 1) (q := 1) (u := .int .i64 n) r3.out ⟨_, _, _, _, _, _, _, _, _, _, hoB.out⟩)
          clear hpB hfB hoB hbB r3
          generalize w3.setCell ⟨w2.heap.size + 1, 1, none⟩ (.int .i64 n) = w4 at *
          ((with_reducible refine (order_no (e2) _).mono ?_); rintro eN wN ⟨rfl, bN⟩)
          have hpN := hid (stays bN hpC.out)
          have hbN := hid (b_call hbC.out bN)
          clear bN
          obtain ⟨m0, m1, m2, m3, m4⟩ := box5f hpN.out
          have n0 := frozen_heap hpN.out 0
          have n1 := frozen_heap hpN.out 1
          have n2 := frozen_heap hpN.out 2
          have n3 := frozen_heap hpN.out 3
          have n4 := frozen_heap hpN.out 4
          go_wp2_with fail
          have hq9 := box5_same (u0 := .int .i64 0) (u1 := .int .i64 0) (u2 := .string ⟨#[]⟩) (u3 := .slice none 0 0) (u4 := .slice none 0 0) hpN.out
          have hb9 := b_box5 hbN.out (q := w.heap.size) (Nat.le_refl _) (.int .i64 0) (.int .i64 0) (.string ⟨#[]⟩) (.slice none 0 0) (.slice none 0 0)
          obtain ⟨k0, k1, k2, k3, k4⟩ := box5f hq9
          unfold World.box5 at k0 k1 k2 k3 k4 hb9
          (try simp only [Exit.inBlock, Exit.then])
          refine bodyPost_ret (by simp [results, Try.results10, go_sem, k0, k1, k2, k3, k4]; try rfl) rfl ?_
          exact od_no hX.out hb9
    · have hk2 : isKind k = false := by simpa using hk
      have hX := hid (zn.out k r rfl hk2)
      clear zb zn zk hk hpart
      rw [hk2] at hof
      go_enter Try.func10, Try.ntmps10
      go_wp2_with fail
      ((with_reducible refine (f1.out _ (hR.out.mono EU8.stable (b_alloc (Below.refl w.heap.size w) (Obj.cells #[.int .i64 0, .int .i64 0, .string ⟨#[]⟩, .slice none 0 0, .slice none 0 0] 31)))).mono ?_); rintro e1 w1 ⟨v1, rfl, r1, b1⟩)
      have hq_p_1 := hid (stays b1 (heap_alloc_new w (Obj.cells #[.int .i64 0, .int .i64 0, .string ⟨#[]⟩, .slice none 0 0, .slice none 0 0] 31)))
      have hb1 := hid (b_call (b_alloc (Below.refl w.heap.size w) (Obj.cells #[.int .i64 0, .int .i64 0, .string ⟨#[]⟩, .slice none 0 0, .slice none 0 0] 31)) b1)
      have r_r_1 := hid r1
      clear r1 b1
      obtain ⟨a1, c1, rfl, -⟩ := id r_r_1.out
      go_wp2_with fail
      ((with_reducible refine (hof.out _).mono ?_); rintro e2 w2 ⟨rfl, b2⟩)
      have hq_p_2 := hid (stays b2 hq_p_1.out)
      have hb2 := hid (b_call hb1.out b2)
      have r_r_2 := hid (r_r_1.out.mono EU8.stable (b_call (Below.refl w1.heap.size w1) b2))
      clear hq_p_1 hb1 r_r_1 b2
      go_wp2_with fail
      have hpA := hid (((heap_alloc_old w2 (Obj.cells #[.bool (hasN k), .bool (hasD k), .bool (hasB k), .bool (hasP k)] 67) (heap_lt hq_p_2.out)).trans hq_p_2.out))
      have hbA := hid ((b_alloc hb2.out (Obj.cells #[.bool (hasN k), .bool (hasD k), .bool (hasB k), .bool (hasP k)] 67)))
      clear hq_p_2
      generalize (w2.alloc (Obj.cells #[.bool (hasN k), .bool (hasD k), .bool (hasB k), .bool (hasP k)] 67)) = wa at *
      ((with_reducible refine (order_no (2) _).mono ?_); rintro eN wN ⟨rfl, bN⟩)
      have hpN := hid (stays bN hpA.out)
      have hbN := hid (b_call hbA.out bN)
      clear bN
      obtain ⟨m0, m1, m2, m3, m4⟩ := box5f hpN.out
      have n0 := frozen_heap hpN.out 0
      have n1 := frozen_heap hpN.out 1
      have n2 := frozen_heap hpN.out 2
      have n3 := frozen_heap hpN.out 3
      have n4 := frozen_heap hpN.out 4
      go_wp2_with fail
      have hq9 := box5_same (u0 := .int .i64 0) (u1 := .int .i64 0) (u2 := .string ⟨#[]⟩) (u3 := .slice none 0 0) (u4 := .slice none 0 0) hpN.out
      have hb9 := b_box5 hbN.out (q := w.heap.size) (Nat.le_refl _) (.int .i64 0) (.int .i64 0) (.string ⟨#[]⟩) (.slice none 0 0) (.slice none 0 0)
      obtain ⟨k0, k1, k2, k3, k4⟩ := box5f hq9
      unfold World.box5 at k0 k1 k2 k3 k4 hb9
      (try simp only [Exit.inBlock, Exit.then])
      refine bodyPost_ret (by simp [results, Try.results10, go_sem, k0, k1, k2, k3, k4]; try rfl) rfl ?_
      exact od_no hX.out hb9
  · have hX := hid (zb.out k r e rfl he)
    have t1 : (e != 0) = true := by simp [he]
    clear zb zn zk hpart
    replace he := hid he
    go_enter Try.func10, Try.ntmps10
    go_wp2_with fail
    ((with_reducible refine (f1.out _ (hR.out.mono EU8.stable (b_alloc (Below.refl w.heap.size w) (Obj.cells #[.int .i64 0, .int .i64 0, .string ⟨#[]⟩, .slice none 0 0, .slice none 0 0] 31)))).mono ?_); rintro e1 w1 ⟨v1, rfl, r1, b1⟩)
    have hq_p_1 := hid (stays b1 (heap_alloc_new w (Obj.cells #[.int .i64 0, .int .i64 0, .string ⟨#[]⟩, .slice none 0 0, .slice none 0 0] 31)))
    have hb1 := hid (b_call (b_alloc (Below.refl w.heap.size w) (Obj.cells #[.int .i64 0, .int .i64 0, .string ⟨#[]⟩, .slice none 0 0, .slice none 0 0] 31)) b1)
    have r_r_1 := hid r1
    clear r1 b1
    obtain ⟨a1, c1, rfl, -⟩ := id r_r_1.out
    go_wp2_with fail
    ((with_reducible refine (order_no (e) _).mono ?_); rintro eN wN ⟨rfl, bN⟩)
    have hpN := hid (stays bN hq_p_1.out)
    have hbN := hid (b_call hb1.out bN)
    clear bN
    obtain ⟨m0, m1, m2, m3, m4⟩ := box5f hpN.out
    have n0 := frozen_heap hpN.out 0
    have n1 := frozen_heap hpN.out 1
    have n2 := frozen_heap hpN.out 2
    have n3 := frozen_heap hpN.out 3
    have n4 := frozen_heap hpN.out 4
    go_wp2_with fail
    have hq9 := box5_same (u0 := .int .i64 0) (u1 := .int .i64 0) (u2 := .string ⟨#[]⟩) (u3 := .slice none 0 0) (u4 := .slice none 0 0) hpN.out
    have hb9 := b_box5 hbN.out (q := w.heap.size) (Nat.le_refl _) (.int .i64 0) (.int .i64 0) (.string ⟨#[]⟩) (.slice none 0 0) (.slice none 0 0)
    obtain ⟨k0, k1, k2, k3, k4⟩ := box5f hq9
    unfold World.box5 at k0 k1 k2 k3 k4 hb9
    (try simp only [Exit.inBlock, Exit.then])
    refine bodyPost_ret (by simp [results, Try.results10, go_sem, k0, k1, k2, k3, k4]; try rfl) rfl ?_
    exact od_no hX.out hb9
end Go.Proofs.Ytojebioolflbkaa
