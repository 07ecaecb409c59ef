/-
  The reference's OrderOf: what it answers. Printed by gen_od.py.
-/
import Derived.Test.YtojebioolflbkaaOdL
import Derived.Deep.RegionHeld3
import Derived.Deep.DeepCutAuto
import Derived.StillTactics
namespace Go.Proofs.Ytojebioolflbkaa
open Go.RowKit
set_option maxRecDepth 100000 in
set_option maxHeartbeats 4000000 in
theorem ref_OrderOfA (v : Value) (b : List UInt8) (w : World) (h : RB w v b) (hpart : hasN (readNum b).1 = false) : Calls Try.prog 11 #[v] w (OdRes (decOrd b) w) := by
  have hR := hid h
  have hbl : b.length ≤ 140737488351232 := by obtain ⟨_, _, _, _, _, hre, _⟩ := h; omega
  have f1 := hid fun w (g : RB w v b) => (ref_WireNumberOf v b w g).mono (fun e w' => num_post hbl)
  unfold NumPost at f1
  obtain ⟨X, hX⟩ : ∃ X, X = decOrd b := ⟨_, rfl⟩
  rw [← hX]
  have zb := hid fun n r e (h3 : readNum b = (n, r, e)) (he : e ≠ 0) => dec_bad hX h3 he
  have zn := hid fun k r (h3 : readNum b = (k, r, 0)) (hk : isKind k = false) => dec_none hX h3 hk
  have zk := hid fun k r (h3 : readNum b = (k, r, 0)) (hk : isKind k = true) => dec_kind hX h3 hk
  have hle := rn_rest_le b
  generalize hrn : readNum b = t at *
  obtain ⟨k, r, e⟩ := t
  simp only at f1 hle hpart
  replace hle : r.length ≤ 140737488351232 := by omega
  clear hrn hX h
  by_cases he : e = 0
  · subst he
    have hhas := hid fun w => ref_has k w
    have hwn := hid fun w => ref_with_n k w
    have hwd := hid fun w => ref_with_d k w
    have hwb := hid fun w => ref_with_b k w
    have hwp := hid fun w => ref_with_p k w
    by_cases hk : isKind k = true
    · have hX := hid (zk.out k r rfl hk)
      clear zb zn zk
      rcases kind_fields hk with ⟨h1, h2, h3, h4⟩ | ⟨h1, h2, h3, h4⟩ | ⟨h1, h2, h3, h4⟩ | ⟨h1, h2, h3, h4⟩ | ⟨h1, h2, h3, h4⟩ | ⟨h1, h2, h3, h4⟩
      · -- b
        clear hpart
        rw [h1] at hwn
        rw [h2] at hwd
        rw [h3] at hwb
        rw [h4] at hwp
        have hno := hasS_none k
        rw [hk, Bool.not_true] at hno
        clear hk
        generalize hasS k = hs at *
        go_enter Try.func11, Try.ntmps11
        go_wp2_with fail
        ((with_reducible refine (f1.out _ (hR.out.mono EU8.stable (b_alloc (Below.refl w.heap.size w) (Obj.cells #[.int .i64 0, .int .i64 0, .string ⟨#[]⟩, .slice none 0 0, .slice none 0 0] 31)))).mono ?_); rintro e1 w1 ⟨v1, rfl, r1, b1⟩)
        have hq_p_1 := hid (stays b1 (heap_alloc_new w (Obj.cells #[.int .i64 0, .int .i64 0, .string ⟨#[]⟩, .slice none 0 0, .slice none 0 0] 31)))
        have hb1 := hid (b_call (b_alloc (Below.refl w.heap.size w) (Obj.cells #[.int .i64 0, .int .i64 0, .string ⟨#[]⟩, .slice none 0 0, .slice none 0 0] 31)) b1)
        have r_r_1 := hid r1
        clear r1 b1
        obtain ⟨a1, c1, rfl, -⟩ := id r_r_1.out
        go_wp2_with fail
        ((with_reducible refine (hhas.out _).mono ?_); rintro e2 w2 ⟨rfl, b2⟩)
        have hq_p_2 := hid (stays b2 hq_p_1.out)
        have hb2 := hid (b_call hb1.out b2)
        have r_r_2 := hid (r_r_1.out.mono EU8.stable (b_call (Below.refl w1.heap.size w1) b2))
        clear hq_p_1 hb1 r_r_1 b2
        go_wp2_with fail
        have hpA := hid (((heap_alloc_old w2 (Obj.cells #[.int .i64 k, .int .i64 0, .string ⟨#[]⟩, .slice none 0 0, .slice none 0 0] 31) (heap_lt hq_p_2.out)).trans hq_p_2.out))
        have hoA := hid ((heap_alloc_new w2 (Obj.cells #[.int .i64 k, .int .i64 0, .string ⟨#[]⟩, .slice none 0 0, .slice none 0 0] 31)))
        have hbA := hid ((b_alloc hb2.out (Obj.cells #[.int .i64 k, .int .i64 0, .string ⟨#[]⟩, .slice none 0 0, .slice none 0 0] 31)))
        have hrA := hid (r_r_2.out.mono EU8.stable (b_alloc (Below.refl w2.heap.size w2) (Obj.cells #[.int .i64 k, .int .i64 0, .string ⟨#[]⟩, .slice none 0 0, .slice none 0 0] 31)))
        have hs2 : w.heap.size < w2.heap.size := heap_lt hq_p_2.out
        clear hq_p_2 r_r_2 hb2 hhas hno
        generalize (w2.alloc (Obj.cells #[.int .i64 k, .int .i64 0, .string ⟨#[]⟩, .slice none 0 0, .slice none 0 0] 31)) = wa at *
        ((with_reducible refine (hwn.out _).mono ?_); rintro ew1 wv1 ⟨rfl, bw1⟩)
        have hpw1 := hid (stays bw1 hpA.out)
        have how1 := hid (stays bw1 hoA.out)
        have hbw1 := hid (b_call hbA.out bw1)
        have hrw1 := hid (hrA.out.mono EU8.stable bw1)
        clear hpA hoA hbA hrA bw1
        clear hwn
        replace hX := hid (odN_no hX.out h1)
        go_wp2_with fail
        ((with_reducible refine (hwd.out _).mono ?_); rintro ew2 wv2 ⟨rfl, bw2⟩)
        have hpw2 := hid (stays bw2 hpw1.out)
        have how2 := hid (stays bw2 how1.out)
        have hbw2 := hid (b_call hbw1.out bw2)
        have hrw2 := hid (hrw1.out.mono EU8.stable bw2)
        clear hpw1 how1 hbw1 hrw1 bw2
        clear hwd
        replace hX := hid (odD_no hX.out h2)
        go_wp2_with fail
        ((with_reducible refine (hwb.out _).mono ?_); rintro ew3 wv3 ⟨rfl, bw3⟩)
        have hpw3 := hid (stays bw3 hpw2.out)
        have how3 := hid (stays bw3 how2.out)
        have hbw3 := hid (b_call hbw2.out bw3)
        have hrw3 := hid (hrw2.out.mono EU8.stable bw3)
        clear hpw2 how2 hbw2 hrw2 bw3
        clear hwb
        have f3 := hid fun v w (g : RB w v r) => ref_WireTextOf v r w g
        unfold TextPost at f3
        have zb3 := hid fun s r' e (h : readText r = (s, r', e)) (he : e ≠ 0) => odB_bad hX.out h3 h he
        have zo3 := hid fun s r' (h : readText r = (s, r', 0)) => odB_ok hX.out h3 h
        have zs3 := readText_any r
        generalize hrt : readText r = t at *
        obtain ⟨s, r4, e4⟩ := t
        simp only at f3 zs3
        clear hrt hX
        obtain ⟨hs3, hle4⟩ := zs3
        go_wp2_with fail
        ((with_reducible refine (f3.out _ _ hrw3.out).mono ?_); rintro e3 w3 ⟨v4, rfl, r3, b3⟩)
        clear hrw3
        obtain ⟨av, cv, rfl, -⟩ := id r3
        have hrB := hid r3
        clear f3 r3
        have hpB := hid (stays b3 hpw3.out)
        have hoB := hid (stays b3 how3.out)
        have hbB := hid (b_call hbw3.out b3)
        clear hpw3 how3 hbw3 b3
        have hcv := Lib.run_convert_string_bytes (P := Try.prog) w3 9 28 5 s Try.underlying9 Try.underlying28 Try.underlying5
        have hrd := conv_reads w3 5 s (by omega)
        have hcb := conv_below w3 5 s
        generalize grownCap w3 s.size 0 5 = gc at *
        generalize Lib.bytesWorld w3 5 s = w5 at *
        replace hrd := hid hrd
        have hpD := hid (stays hcb hpB.out)
        have hoD := hid (stays hcb hoB.out)
        have hbD := hid (b_call hbB.out hcb)
        have hrD := hid (hrB.out.mono EU8.stable hcb)
        clear hpB hoB hbB hrB hcb
        by_cases he4 : e4 = 0
        · subst he4
          have hX := hid (zo3.out s r4 rfl)
          clear zb3 zo3
          obtain ⟨o0, o1, o2, o3, o4⟩ := box5f hoD.out
          have q3 := frozen_heap hoD.out 3
          go_wp2_with fail
          clear o0 o1 o2 o3 o4 q3
          clear hcv
          have hdF := hid (RB.setO (p := w2.heap.size) (q := 3) (u := .slice (some ⟨w3.heap.size, 0, none⟩) s.size gc) hrd.out ⟨_, _, _, _, _, _, _, _, _, _, hoD.out⟩)
          clear hrd
          have hpF := hid (box_other (q := w2.heap.size) (o := 3) (u := .slice (some ⟨w3.heap.size, 0, none⟩) s.size gc) hpD.out (by omega))
          have hoF := hid (box5_3 (u := .slice (some ⟨w3.heap.size, 0, none⟩) s.size gc) hoD.out)
          have hbF := hid (b_set hbD.out (p := ⟨w2.heap.size, 3, none⟩) (show w.heap.size ≤ w2.heap.size by omega) (.slice (some ⟨w3.heap.size, 0, none⟩) s.size gc))
          have hrF := hid (RB.setO (p := w2.heap.size) (q := 3) (u := .slice (some ⟨w3.heap.size, 0, none⟩) s.size gc) hrD.out ⟨_, _, _, _, _, _, _, _, _, _, hoD.out⟩)
          clear hpD hoD hbD hrD
          generalize w5.setCell ⟨w2.heap.size, 3, none⟩ (.slice (some ⟨w3.heap.size, 0, none⟩) s.size gc) = w6 at *
          ((with_reducible refine (hwp.out _).mono ?_); rintro ew4 wv4 ⟨rfl, bw4⟩)
          have hpw4 := hid (stays bw4 hpF.out)
          have how4 := hid (stays bw4 hoF.out)
          have hbw4 := hid (b_call hbF.out bw4)
          have hrw4 := hid (hrF.out.mono EU8.stable bw4)
          have hdw4 := hid (hdF.out.mono EU8.stable bw4)
          clear hpF hoF hbF hrF hdF bw4
          clear hwp
          replace hX := hid (odP_no hX.out h4)
          by_cases hr0 : 0 < r4.length
          · replace hX := hid (odR_bad hX.out hr0)
            have qr : decide (0 < (r4.length : Int)) = true := decide_eq_true (by omega)
            obtain ⟨m0, m1, m2, m3, m4⟩ := box5f hpw4.out
            have n0 := frozen_heap hpw4.out 0
            have n1 := frozen_heap hpw4.out 1
            have n2 := frozen_heap hpw4.out 2
            have n3 := frozen_heap hpw4.out 3
            have n4 := frozen_heap hpw4.out 4
            go_wp2_with fail
            have hq9 := box5_same (u0 := .int .i64 0) (u1 := .int .i64 0) (u2 := .string ⟨#[]⟩) (u3 := .slice none 0 0) (u4 := .slice none 0 0) hpw4.out
            have hb9 := b_box5 hbw4.out (q := w.heap.size) (Nat.le_refl _) (.int .i64 0) (.int .i64 0) (.string ⟨#[]⟩) (.slice none 0 0) (.slice none 0 0)
            obtain ⟨k0, k1, k2, k3, k4⟩ := box5f hq9
            unfold World.box5 at k0 k1 k2 k3 k4 hb9
            (try simp only [Exit.inBlock, Exit.then])
            refine bodyPost_ret (by simp [results, Try.results11, go_sem, k0, k1, k2, k3, k4]; try rfl) rfl ?_
            exact od_no hX.out hb9
          · replace hX := hid (odR_ok hX.out hr0)
            have qr : decide (0 < (r4.length : Int)) = false := decide_eq_false (by omega)
            have fz : Hid (∀ w, RB w (.slice (some ⟨w3.heap.size, 0, none⟩) s.size gc) s.data.toList → RP w (.slice none 0 0) [] → Calls Try.prog 51 #[.agg #[.int .i64 k, .int .i64 0, .string ⟨#[]⟩, .slice (some ⟨w3.heap.size, 0, none⟩) s.size gc, .slice none 0 0]] w fun e w' => e = .returned (.int .i64 (ordFault ⟨k, 0, ⟨#[]⟩, s.data.toList, []⟩)) ∧ Below w.heap.size w w') := hid fun w g1 g2 => ref_OrderFault ⟨k, 0, ⟨#[]⟩, s.data.toList, []⟩ (.slice (some ⟨w3.heap.size, 0, none⟩) s.size gc) (.slice none 0 0) w g1 g2 no_len
            have zb9 := hid fun z (h : ordFault ⟨k, 0, ⟨#[]⟩, s.data.toList, []⟩ = z) (he : z ≠ 0) => odC_bad hX.out h he
            have zo9 := hid fun (h : ordFault ⟨k, 0, ⟨#[]⟩, s.data.toList, []⟩ = 0) => odC_ok hX.out h
            generalize hof9 : ordFault ⟨k, 0, ⟨#[]⟩, s.data.toList, []⟩ = z at *
            clear hX hof9
            obtain ⟨o0, o1, o2, o3, o4⟩ := box5f how4.out
            go_wp2_with fail
            clear o0 o1 o2 o3 o4
            ((with_reducible refine (fz.out _ hdw4.out RS.nil).mono ?_); rintro e9 w10 ⟨rfl, b10⟩)
            have hpK := hid (stays b10 hpw4.out)
            have hoK := hid (stays b10 how4.out)
            have hbK := hid (b_call hbw4.out b10)
            have hdK := hid (hdw4.out.mono EU8.stable b10)
            clear hpw4 how4 hbw4 hdw4 b10
            clear fz
            by_cases hz : z = 0
            · subst hz
              have hX := hid (zo9.out rfl)
              clear zb9 zo9
              obtain ⟨o0, o1, o2, o3, o4⟩ := box5f hoK.out
              obtain ⟨m0, m1, m2, m3, m4⟩ := box5f hpK.out
              have n0 := frozen_heap hpK.out 0
              have n1 := frozen_heap hpK.out 1
              have n2 := frozen_heap hpK.out 2
              have n3 := frozen_heap hpK.out 3
              have n4 := frozen_heap hpK.out 4
              go_wp2_with fail
              have rd9 := RB.box5 (k' := k) (n' := 0) (d' := ⟨#[]⟩) (b := some ⟨w3.heap.size, 0, none⟩) (i := s.size) (j := gc) (b' := none) (i' := 0) (j' := 0) hdK.out hpK.out
              unfold World.box5 at rd9
              have hq9 := box5_same (u0 := .int .i64 k) (u1 := .int .i64 0) (u2 := .string ⟨#[]⟩) (u3 := .slice (some ⟨w3.heap.size, 0, none⟩) s.size gc) (u4 := .slice none 0 0) hpK.out
              have hb9 := b_box5 hbK.out (q := w.heap.size) (Nat.le_refl _) (.int .i64 k) (.int .i64 0) (.string ⟨#[]⟩) (.slice (some ⟨w3.heap.size, 0, none⟩) s.size gc) (.slice none 0 0)
              obtain ⟨k0, k1, k2, k3, k4⟩ := box5f hq9
              unfold World.box5 at k0 k1 k2 k3 k4 hb9
              (try simp only [Exit.inBlock, Exit.then])
              refine bodyPost_ret (by simp [results, Try.results11, go_sem, k0, k1, k2, k3, k4]; try rfl) rfl ?_
              exact od_ok hX.out rd9 (RS.nil) hb9
            · have hX := hid (zb9.out z rfl hz)
              have tz : (z != 0) = true := by simp [hz]
              clear zb9 zo9
              replace hz := hid hz
              obtain ⟨m0, m1, m2, m3, m4⟩ := box5f hpK.out
              have n0 := frozen_heap hpK.out 0
              have n1 := frozen_heap hpK.out 1
              have n2 := frozen_heap hpK.out 2
              have n3 := frozen_heap hpK.out 3
              have n4 := frozen_heap hpK.out 4
              go_wp2_with fail
              have hq9 := box5_same (u0 := .int .i64 0) (u1 := .int .i64 0) (u2 := .string ⟨#[]⟩) (u3 := .slice none 0 0) (u4 := .slice none 0 0) hpK.out
              have hb9 := b_box5 hbK.out (q := w.heap.size) (Nat.le_refl _) (.int .i64 0) (.int .i64 0) (.string ⟨#[]⟩) (.slice none 0 0) (.slice none 0 0)
              obtain ⟨k0, k1, k2, k3, k4⟩ := box5f hq9
              unfold World.box5 at k0 k1 k2 k3 k4 hb9
              (try simp only [Exit.inBlock, Exit.then])
              refine bodyPost_ret (by simp [results, Try.results11, go_sem, k0, k1, k2, k3, k4]; try rfl) rfl ?_
              exact od_no hX.out hb9
        · have hX := hid (zb3.out s r4 e4 rfl he4)
          have t4 : (e4 != 0) = true := by simp [he4]
          have t4' : (e4 == 0) = false := by simp [he4]
          clear zb3 zo3 hwp
          replace he4 := hid he4
          obtain ⟨o0, o1, o2, o3, o4⟩ := box5f hoD.out
          have q3 := frozen_heap hoD.out 3
          obtain ⟨m0, m1, m2, m3, m4⟩ := box5f hpD.out
          have n0 := frozen_heap hpD.out 0
          have n1 := frozen_heap hpD.out 1
          have n2 := frozen_heap hpD.out 2
          have n3 := frozen_heap hpD.out 3
          have n4 := frozen_heap hpD.out 4
          have hpZ := hid (box_other (q := w2.heap.size) (o := 3) (u := .slice (some ⟨w3.heap.size, 0, none⟩) s.size gc) hpD.out (by omega))
          have hbZ := hid (b_set hbD.out (p := ⟨w2.heap.size, 3, none⟩) (show w.heap.size ≤ w2.heap.size by omega) (.slice (some ⟨w3.heap.size, 0, none⟩) s.size gc))
          go_wp2_with fail
          clear o0 o1 o2 o3 o4 q3 m0 m1 m2 m3 m4 n0 n1 n2 n3 n4
          have hq9 := box5_same (u0 := .int .i64 0) (u1 := .int .i64 0) (u2 := .string ⟨#[]⟩) (u3 := .slice none 0 0) (u4 := .slice none 0 0) hpZ.out
          have hb9 := b_box5 hbZ.out (q := w.heap.size) (Nat.le_refl _) (.int .i64 0) (.int .i64 0) (.string ⟨#[]⟩) (.slice none 0 0) (.slice none 0 0)
          obtain ⟨k0, k1, k2, k3, k4⟩ := box5f hq9
          unfold World.box5 at k0 k1 k2 k3 k4 hb9
          (try simp only [Exit.inBlock, Exit.then])
          refine bodyPost_ret (by simp [results, Try.results11, go_sem, k0, k1, k2, k3, k4]; try rfl) rfl ?_
          exact od_no hX.out hb9
      · -- d
        clear hpart
        rw [h1] at hwn
        rw [h2] at hwd
        rw [h3] at hwb
        rw [h4] at hwp
        have hno := hasS_none k
        rw [hk, Bool.not_true] at hno
        clear hk
        generalize hasS k = hs at *
        go_enter Try.func11, Try.ntmps11
        go_wp2_with fail
        ((with_reducible refine (f1.out _ (hR.out.mono EU8.stable (b_alloc (Below.refl w.heap.size w) (Obj.cells #[.int .i64 0, .int .i64 0, .string ⟨#[]⟩, .slice none 0 0, .slice none 0 0] 31)))).mono ?_); rintro e1 w1 ⟨v1, rfl, r1, b1⟩)
        have hq_p_1 := hid (stays b1 (heap_alloc_new w (Obj.cells #[.int .i64 0, .int .i64 0, .string ⟨#[]⟩, .slice none 0 0, .slice none 0 0] 31)))
        have hb1 := hid (b_call (b_alloc (Below.refl w.heap.size w) (Obj.cells #[.int .i64 0, .int .i64 0, .string ⟨#[]⟩, .slice none 0 0, .slice none 0 0] 31)) b1)
        have r_r_1 := hid r1
        clear r1 b1
        obtain ⟨a1, c1, rfl, -⟩ := id r_r_1.out
        go_wp2_with fail
        ((with_reducible refine (hhas.out _).mono ?_); rintro e2 w2 ⟨rfl, b2⟩)
        have hq_p_2 := hid (stays b2 hq_p_1.out)
        have hb2 := hid (b_call hb1.out b2)
        have r_r_2 := hid (r_r_1.out.mono EU8.stable (b_call (Below.refl w1.heap.size w1) b2))
        clear hq_p_1 hb1 r_r_1 b2
        go_wp2_with fail
        have hpA := hid (((heap_alloc_old w2 (Obj.cells #[.int .i64 k, .int .i64 0, .string ⟨#[]⟩, .slice none 0 0, .slice none 0 0] 31) (heap_lt hq_p_2.out)).trans hq_p_2.out))
        have hoA := hid ((heap_alloc_new w2 (Obj.cells #[.int .i64 k, .int .i64 0, .string ⟨#[]⟩, .slice none 0 0, .slice none 0 0] 31)))
        have hbA := hid ((b_alloc hb2.out (Obj.cells #[.int .i64 k, .int .i64 0, .string ⟨#[]⟩, .slice none 0 0, .slice none 0 0] 31)))
        have hrA := hid (r_r_2.out.mono EU8.stable (b_alloc (Below.refl w2.heap.size w2) (Obj.cells #[.int .i64 k, .int .i64 0, .string ⟨#[]⟩, .slice none 0 0, .slice none 0 0] 31)))
        have hs2 : w.heap.size < w2.heap.size := heap_lt hq_p_2.out
        clear hq_p_2 r_r_2 hb2 hhas hno
        generalize (w2.alloc (Obj.cells #[.int .i64 k, .int .i64 0, .string ⟨#[]⟩, .slice none 0 0, .slice none 0 0] 31)) = wa at *
        ((with_reducible refine (hwn.out _).mono ?_); rintro ew5 wv5 ⟨rfl, bw5⟩)
        have hpw5 := hid (stays bw5 hpA.out)
        have how5 := hid (stays bw5 hoA.out)
        have hbw5 := hid (b_call hbA.out bw5)
        have hrw5 := hid (hrA.out.mono EU8.stable bw5)
        clear hpA hoA hbA hrA bw5
        clear hwn
        replace hX := hid (odN_no hX.out h1)
        go_wp2_with fail
        ((with_reducible refine (hwd.out _).mono ?_); rintro ew6 wv6 ⟨rfl, bw6⟩)
        have hpw6 := hid (stays bw6 hpw5.out)
        have how6 := hid (stays bw6 how5.out)
        have hbw6 := hid (b_call hbw5.out bw6)
        have hrw6 := hid (hrw5.out.mono EU8.stable bw6)
        clear hpw5 how5 hbw5 hrw5 bw6
        clear hwd
        by_cases hl32 : r.length < 32
        · replace hX := hid (odD_bad hX.out h2 hl32)
          have q32 : decide ((r.length : Int) < 32) = true := by simp; omega
          clear hwb hwp
          obtain ⟨m0, m1, m2, m3, m4⟩ := box5f hpw6.out
          have n0 := frozen_heap hpw6.out 0
          have n1 := frozen_heap hpw6.out 1
          have n2 := frozen_heap hpw6.out 2
          have n3 := frozen_heap hpw6.out 3
          have n4 := frozen_heap hpw6.out 4
          go_wp2_with fail
          have hq9 := box5_same (u0 := .int .i64 0) (u1 := .int .i64 0) (u2 := .string ⟨#[]⟩) (u3 := .slice none 0 0) (u4 := .slice none 0 0) hpw6.out
          have hb9 := b_box5 hbw6.out (q := w.heap.size) (Nat.le_refl _) (.int .i64 0) (.int .i64 0) (.string ⟨#[]⟩) (.slice none 0 0) (.slice none 0 0)
          obtain ⟨k0, k1, k2, k3, k4⟩ := box5f hq9
          unfold World.box5 at k0 k1 k2 k3 k4 hb9
          (try simp only [Exit.inBlock, Exit.then])
          refine bodyPost_ret (by simp [results, Try.results11, go_sem, k0, k1, k2, k3, k4]; try rfl) rfl ?_
          exact od_no hX.out hb9
        · replace hX := hid (odD_ok hX.out h2 hl32)
          have q32 : decide ((r.length : Int) < 32) = false := by simp; omega
          obtain ⟨hlc, hcm, bb, off, rfl⟩ := rb_parts hrw6.out (by omega)
          have hc32 : 32 ≤ c1 := by omega
          have hn32 : 32 ≤ r.length := by omega
          have hi32 : (32 : Int) ≤ (r.length : Int) := by omega
          have hj32 : (32 : Int) ≤ (c1 : Int) := by omega
          obtain ⟨A, hA⟩ : ∃ A, (if c1 = 32 then (some ⟨bb, off, none⟩ : Option Addr) else some ⟨bb, off + 32, none⟩) = A := ⟨_, rfl⟩
          have hA2 : (if c1 = 32 then (some ⟨bb, off, none⟩ : Option Addr) else (some (⟨bb, off, none⟩ : Addr)).map (·.add (32 * 1))) = A := by rw [← hA]; simp [Addr.add_lit]
          have hup := hid (RS.upto hrw6.out 32 hn32)
          have hfr := behind_reads hrw6.out 32 hn32
          rw [behind_slice, hA2] at hfr
          replace hfr := hid hfr
          clear hA2 hrw6
          generalize hd32 : bstr (hexOf (r.take 32)) = d32 at *
          have fh := hid fun w (g : RB w (.slice (some ⟨bb, off, none⟩) 32 c1) (r.take 32)) => ref_HexText _ _ w g (by rw [List.length_take]; omega)
          rw [hd32] at fh
          have hz32 : d32.size ≤ 140737488351232 := hd32 ▸ hex_le32 r
          clear hd32
          go_wp2_with fail
          ((with_reducible refine (fh.out _ hup.out).mono ?_); rintro e5 w5 ⟨rfl, b5⟩)
          have hrD := hid (hfr.out.mono EU8.stable b5)
          have hpD := hid (stays b5 hpw6.out)
          have hoD := hid (stays b5 how6.out)
          have hbD := hid (b_call hbw6.out b5)
          clear hpw6 how6 hbw6 b5
          clear hup hfr fh
          obtain ⟨o0, o1, o2, o3, o4⟩ := box5f hoD.out
          have q2 := frozen_heap hoD.out 2
          go_wp2_with fail
          clear o0 o1 o2 o3 o4 q2
          have hpE := hid (box_other (q := w2.heap.size) (o := 2) (u := .string d32) hpD.out (by omega))
          have hoE := hid (box5_2 (u := .string d32) hoD.out)
          have hbE := hid (b_set hbD.out (p := ⟨w2.heap.size, 2, none⟩) (show w.heap.size ≤ w2.heap.size by omega) (.string d32))
          have hrE := hid (RB.setO (p := w2.heap.size) (q := 2) (u := .string d32) hrD.out ⟨_, _, _, _, _, _, _, _, _, _, hoD.out⟩)
          clear hpD hoD hbD hrD
          generalize w5.setCell ⟨w2.heap.size, 2, none⟩ (.string d32) = w6 at *
          clear hA
          ((with_reducible refine (hwb.out _).mono ?_); rintro ew7 wv7 ⟨rfl, bw7⟩)
          have hpw7 := hid (stays bw7 hpE.out)
          have how7 := hid (stays bw7 hoE.out)
          have hbw7 := hid (b_call hbE.out bw7)
          have hrw7 := hid (hrE.out.mono EU8.stable bw7)
          clear hpE hoE hbE hrE bw7
          clear hwb
          replace hX := hid (odB_no hX.out h3)
          go_wp2_with fail
          ((with_reducible refine (hwp.out _).mono ?_); rintro ew8 wv8 ⟨rfl, bw8⟩)
          have hpw8 := hid (stays bw8 hpw7.out)
          have how8 := hid (stays bw8 how7.out)
          have hbw8 := hid (b_call hbw7.out bw8)
          have hrw8 := hid (hrw7.out.mono EU8.stable bw8)
          clear hpw7 how7 hbw7 hrw7 bw8
          clear hwp
          replace hX := hid (odP_no hX.out h4)
          by_cases hr0 : 0 < (r.drop 32).length
          · replace hX := hid (odR_bad hX.out hr0)
            have hdrop : (r.drop 32).length = r.length - 32 := List.length_drop
            have qr : decide (0 < ((r.length - 32 : Nat) : Int)) = true := decide_eq_true (by omega)
            obtain ⟨m0, m1, m2, m3, m4⟩ := box5f hpw8.out
            have n0 := frozen_heap hpw8.out 0
            have n1 := frozen_heap hpw8.out 1
            have n2 := frozen_heap hpw8.out 2
            have n3 := frozen_heap hpw8.out 3
            have n4 := frozen_heap hpw8.out 4
            go_wp2_with fail
            have hq9 := box5_same (u0 := .int .i64 0) (u1 := .int .i64 0) (u2 := .string ⟨#[]⟩) (u3 := .slice none 0 0) (u4 := .slice none 0 0) hpw8.out
            have hb9 := b_box5 hbw8.out (q := w.heap.size) (Nat.le_refl _) (.int .i64 0) (.int .i64 0) (.string ⟨#[]⟩) (.slice none 0 0) (.slice none 0 0)
            obtain ⟨k0, k1, k2, k3, k4⟩ := box5f hq9
            unfold World.box5 at k0 k1 k2 k3 k4 hb9
            (try simp only [Exit.inBlock, Exit.then])
            refine bodyPost_ret (by simp [results, Try.results11, go_sem, k0, k1, k2, k3, k4]; try rfl) rfl ?_
            exact od_no hX.out hb9
          · replace hX := hid (odR_ok hX.out hr0)
            have hdrop : (r.drop 32).length = r.length - 32 := List.length_drop
            have qr : decide (0 < ((r.length - 32 : Nat) : Int)) = false := decide_eq_false (by omega)
            have fz : Hid (∀ w, RB w (.slice none 0 0) [] → RP w (.slice none 0 0) [] → Calls Try.prog 51 #[.agg #[.int .i64 k, .int .i64 0, .string d32, .slice none 0 0, .slice none 0 0]] w fun e w' => e = .returned (.int .i64 (ordFault ⟨k, 0, d32, [], []⟩)) ∧ Below w.heap.size w w') := hid fun w g1 g2 => ref_OrderFault ⟨k, 0, d32, [], []⟩ (.slice none 0 0) (.slice none 0 0) w g1 g2 hz32
            have zb9 := hid fun z (h : ordFault ⟨k, 0, d32, [], []⟩ = z) (he : z ≠ 0) => odC_bad hX.out h he
            have zo9 := hid fun (h : ordFault ⟨k, 0, d32, [], []⟩ = 0) => odC_ok hX.out h
            generalize hof9 : ordFault ⟨k, 0, d32, [], []⟩ = z at *
            clear hX hof9
            obtain ⟨o0, o1, o2, o3, o4⟩ := box5f how8.out
            go_wp2_with fail
            clear o0 o1 o2 o3 o4
            ((with_reducible refine (fz.out _ RS.nil RS.nil).mono ?_); rintro e9 w10 ⟨rfl, b10⟩)
            have hpK := hid (stays b10 hpw8.out)
            have hoK := hid (stays b10 how8.out)
            have hbK := hid (b_call hbw8.out b10)
            clear hpw8 how8 hbw8 b10
            clear fz
            by_cases hz : z = 0
            · subst hz
              have hX := hid (zo9.out rfl)
              clear zb9 zo9
              obtain ⟨o0, o1, o2, o3, o4⟩ := box5f hoK.out
              obtain ⟨m0, m1, m2, m3, m4⟩ := box5f hpK.out
              have n0 := frozen_heap hpK.out 0
              have n1 := frozen_heap hpK.out 1
              have n2 := frozen_heap hpK.out 2
              have n3 := frozen_heap hpK.out 3
              have n4 := frozen_heap hpK.out 4
              go_wp2_with fail
              have hq9 := box5_same (u0 := .int .i64 k) (u1 := .int .i64 0) (u2 := .string d32) (u3 := .slice none 0 0) (u4 := .slice none 0 0) hpK.out
              have hb9 := b_box5 hbK.out (q := w.heap.size) (Nat.le_refl _) (.int .i64 k) (.int .i64 0) (.string d32) (.slice none 0 0) (.slice none 0 0)
              obtain ⟨k0, k1, k2, k3, k4⟩ := box5f hq9
              unfold World.box5 at k0 k1 k2 k3 k4 hb9
              (try simp only [Exit.inBlock, Exit.then])
              refine bodyPost_ret (by simp [results, Try.results11, go_sem, k0, k1, k2, k3, k4]; try rfl) rfl ?_
              exact od_ok hX.out (RS.nil) (RS.nil) hb9
            · have hX := hid (zb9.out z rfl hz)
              have tz : (z != 0) = true := by simp [hz]
              clear zb9 zo9
              replace hz := hid hz
              obtain ⟨m0, m1, m2, m3, m4⟩ := box5f hpK.out
              have n0 := frozen_heap hpK.out 0
              have n1 := frozen_heap hpK.out 1
              have n2 := frozen_heap hpK.out 2
              have n3 := frozen_heap hpK.out 3
              have n4 := frozen_heap hpK.out 4
              go_wp2_with fail
              have hq9 := box5_same (u0 := .int .i64 0) (u1 := .int .i64 0) (u2 := .string ⟨#[]⟩) (u3 := .slice none 0 0) (u4 := .slice none 0 0) hpK.out
              have hb9 := b_box5 hbK.out (q := w.heap.size) (Nat.le_refl _) (.int .i64 0) (.int .i64 0) (.string ⟨#[]⟩) (.slice none 0 0) (.slice none 0 0)
              obtain ⟨k0, k1, k2, k3, k4⟩ := box5f hq9
              unfold World.box5 at k0 k1 k2 k3 k4 hb9
              (try simp only [Exit.inBlock, Exit.then])
              refine bodyPost_ret (by simp [results, Try.results11, go_sem, k0, k1, k2, k3, k4]; try rfl) rfl ?_
              exact od_no hX.out hb9
      · -- dp
        clear hpart
        rw [h1] at hwn
        rw [h2] at hwd
        rw [h3] at hwb
        rw [h4] at hwp
        have hno := hasS_none k
        rw [hk, Bool.not_true] at hno
        clear hk
        generalize hasS k = hs at *
        go_enter Try.func11, Try.ntmps11
        go_wp2_with fail
        ((with_reducible refine (f1.out _ (hR.out.mono EU8.stable (b_alloc (Below.refl w.heap.size w) (Obj.cells #[.int .i64 0, .int .i64 0, .string ⟨#[]⟩, .slice none 0 0, .slice none 0 0] 31)))).mono ?_); rintro e1 w1 ⟨v1, rfl, r1, b1⟩)
        have hq_p_1 := hid (stays b1 (heap_alloc_new w (Obj.cells #[.int .i64 0, .int .i64 0, .string ⟨#[]⟩, .slice none 0 0, .slice none 0 0] 31)))
        have hb1 := hid (b_call (b_alloc (Below.refl w.heap.size w) (Obj.cells #[.int .i64 0, .int .i64 0, .string ⟨#[]⟩, .slice none 0 0, .slice none 0 0] 31)) b1)
        have r_r_1 := hid r1
        clear r1 b1
        obtain ⟨a1, c1, rfl, -⟩ := id r_r_1.out
        go_wp2_with fail
        ((with_reducible refine (hhas.out _).mono ?_); rintro e2 w2 ⟨rfl, b2⟩)
        have hq_p_2 := hid (stays b2 hq_p_1.out)
        have hb2 := hid (b_call hb1.out b2)
        have r_r_2 := hid (r_r_1.out.mono EU8.stable (b_call (Below.refl w1.heap.size w1) b2))
        clear hq_p_1 hb1 r_r_1 b2
        go_wp2_with fail
        have hpA := hid (((heap_alloc_old w2 (Obj.cells #[.int .i64 k, .int .i64 0, .string ⟨#[]⟩, .slice none 0 0, .slice none 0 0] 31) (heap_lt hq_p_2.out)).trans hq_p_2.out))
        have hoA := hid ((heap_alloc_new w2 (Obj.cells #[.int .i64 k, .int .i64 0, .string ⟨#[]⟩, .slice none 0 0, .slice none 0 0] 31)))
        have hbA := hid ((b_alloc hb2.out (Obj.cells #[.int .i64 k, .int .i64 0, .string ⟨#[]⟩, .slice none 0 0, .slice none 0 0] 31)))
        have hrA := hid (r_r_2.out.mono EU8.stable (b_alloc (Below.refl w2.heap.size w2) (Obj.cells #[.int .i64 k, .int .i64 0, .string ⟨#[]⟩, .slice none 0 0, .slice none 0 0] 31)))
        have hs2 : w.heap.size < w2.heap.size := heap_lt hq_p_2.out
        clear hq_p_2 r_r_2 hb2 hhas hno
        generalize (w2.alloc (Obj.cells #[.int .i64 k, .int .i64 0, .string ⟨#[]⟩, .slice none 0 0, .slice none 0 0] 31)) = wa at *
        ((with_reducible refine (hwn.out _).mono ?_); rintro ew9 wv9 ⟨rfl, bw9⟩)
        have hpw9 := hid (stays bw9 hpA.out)
        have how9 := hid (stays bw9 hoA.out)
        have hbw9 := hid (b_call hbA.out bw9)
        have hrw9 := hid (hrA.out.mono EU8.stable bw9)
        clear hpA hoA hbA hrA bw9
        clear hwn
        replace hX := hid (odN_no hX.out h1)
        go_wp2_with fail
        ((with_reducible refine (hwd.out _).mono ?_); rintro ew10 wv10 ⟨rfl, bw10⟩)
        have hpw10 := hid (stays bw10 hpw9.out)
        have how10 := hid (stays bw10 how9.out)
        have hbw10 := hid (b_call hbw9.out bw10)
        have hrw10 := hid (hrw9.out.mono EU8.stable bw10)
        clear hpw9 how9 hbw9 hrw9 bw10
        clear hwd
        by_cases hl32 : r.length < 32
        · replace hX := hid (odD_bad hX.out h2 hl32)
          have q32 : decide ((r.length : Int) < 32) = true := by simp; omega
          clear hwb hwp
          obtain ⟨m0, m1, m2, m3, m4⟩ := box5f hpw10.out
          have n0 := frozen_heap hpw10.out 0
          have n1 := frozen_heap hpw10.out 1
          have n2 := frozen_heap hpw10.out 2
          have n3 := frozen_heap hpw10.out 3
          have n4 := frozen_heap hpw10.out 4
          go_wp2_with fail
          have hq9 := box5_same (u0 := .int .i64 0) (u1 := .int .i64 0) (u2 := .string ⟨#[]⟩) (u3 := .slice none 0 0) (u4 := .slice none 0 0) hpw10.out
          have hb9 := b_box5 hbw10.out (q := w.heap.size) (Nat.le_refl _) (.int .i64 0) (.int .i64 0) (.string ⟨#[]⟩) (.slice none 0 0) (.slice none 0 0)
          obtain ⟨k0, k1, k2, k3, k4⟩ := box5f hq9
          unfold World.box5 at k0 k1 k2 k3 k4 hb9
          (try simp only [Exit.inBlock, Exit.then])
          refine bodyPost_ret (by simp [results, Try.results11, go_sem, k0, k1, k2, k3, k4]; try rfl) rfl ?_
          exact od_no hX.out hb9
        · replace hX := hid (odD_ok hX.out h2 hl32)
          have q32 : decide ((r.length : Int) < 32) = false := by simp; omega
          obtain ⟨hlc, hcm, bb, off, rfl⟩ := rb_parts hrw10.out (by omega)
          have hc32 : 32 ≤ c1 := by omega
          have hn32 : 32 ≤ r.length := by omega
          have hi32 : (32 : Int) ≤ (r.length : Int) := by omega
          have hj32 : (32 : Int) ≤ (c1 : Int) := by omega
          obtain ⟨A, hA⟩ : ∃ A, (if c1 = 32 then (some ⟨bb, off, none⟩ : Option Addr) else some ⟨bb, off + 32, none⟩) = A := ⟨_, rfl⟩
          have hA2 : (if c1 = 32 then (some ⟨bb, off, none⟩ : Option Addr) else (some (⟨bb, off, none⟩ : Addr)).map (·.add (32 * 1))) = A := by rw [← hA]; simp [Addr.add_lit]
          have hup := hid (RS.upto hrw10.out 32 hn32)
          have hfr := behind_reads hrw10.out 32 hn32
          rw [behind_slice, hA2] at hfr
          replace hfr := hid hfr
          clear hA2 hrw10
          generalize hd32 : bstr (hexOf (r.take 32)) = d32 at *
          have fh := hid fun w (g : RB w (.slice (some ⟨bb, off, none⟩) 32 c1) (r.take 32)) => ref_HexText _ _ w g (by rw [List.length_take]; omega)
          rw [hd32] at fh
          have hz32 : d32.size ≤ 140737488351232 := hd32 ▸ hex_le32 r
          clear hd32
          go_wp2_with fail
          ((with_reducible refine (fh.out _ hup.out).mono ?_); rintro e5 w5 ⟨rfl, b5⟩)
          have hrD := hid (hfr.out.mono EU8.stable b5)
          have hpD := hid (stays b5 hpw10.out)
          have hoD := hid (stays b5 how10.out)
          have hbD := hid (b_call hbw10.out b5)
          clear hpw10 how10 hbw10 b5
          clear hup hfr fh
          obtain ⟨o0, o1, o2, o3, o4⟩ := box5f hoD.out
          have q2 := frozen_heap hoD.out 2
          go_wp2_with fail
          clear o0 o1 o2 o3 o4 q2
          have hpE := hid (box_other (q := w2.heap.size) (o := 2) (u := .string d32) hpD.out (by omega))
          have hoE := hid (box5_2 (u := .string d32) hoD.out)
          have hbE := hid (b_set hbD.out (p := ⟨w2.heap.size, 2, none⟩) (show w.heap.size ≤ w2.heap.size by omega) (.string d32))
          have hrE := hid (RB.setO (p := w2.heap.size) (q := 2) (u := .string d32) hrD.out ⟨_, _, _, _, _, _, _, _, _, _, hoD.out⟩)
          clear hpD hoD hbD hrD
          generalize w5.setCell ⟨w2.heap.size, 2, none⟩ (.string d32) = w6 at *
          clear hA
          ((with_reducible refine (hwb.out _).mono ?_); rintro ew11 wv11 ⟨rfl, bw11⟩)
          have hpw11 := hid (stays bw11 hpE.out)
          have how11 := hid (stays bw11 hoE.out)
          have hbw11 := hid (b_call hbE.out bw11)
          have hrw11 := hid (hrE.out.mono EU8.stable bw11)
          clear hpE hoE hbE hrE bw11
          clear hwb
          replace hX := hid (odB_no hX.out h3)
          go_wp2_with fail
          ((with_reducible refine (hwp.out _).mono ?_); rintro ew12 wv12 ⟨rfl, bw12⟩)
          have hpw12 := hid (stays bw12 hpw11.out)
          have how12 := hid (stays bw12 how11.out)
          have hbw12 := hid (b_call hbw11.out bw12)
          have hrw12 := hid (hrw11.out.mono EU8.stable bw12)
          clear hpw11 how11 hbw11 hrw11 bw12
          clear hwp
          have f6 := hid fun v w (g : RB w v (r.drop 32)) => ref_PartsOf v _ w g
          unfold DecPost at f6
          have zb6 := hid fun l e (h : decParts (r.drop 32) = (l, e)) (he : e ≠ 0) => odP_bad hX.out h4 h he
          have zo6 := hid fun l (h : decParts (r.drop 32) = (l, 0)) => odP_ok hX.out h4 h
          generalize hdp : decParts (r.drop 32) = t at *
          obtain ⟨l, e7⟩ := t
          simp only at f6
          clear hdp hX
          go_wp2_with fail
          ((with_reducible refine (f6.out _ _ hrw12.out).mono ?_); rintro e8 w8 ⟨v8, rfl, r8, b8⟩)
          clear hrw12
          obtain ⟨a8, c8, rfl, -⟩ := id r8
          replace r8 := hid r8
          have hpG := hid (stays b8 hpw12.out)
          have hoG := hid (stays b8 how12.out)
          have hbG := hid (b_call hbw12.out b8)
          clear hpw12 how12 hbw12 b8
          clear f6
          by_cases he7 : e7 = 0
          · subst he7
            have hX := hid (zo6.out l rfl)
            clear zb6 zo6
            obtain ⟨o0, o1, o2, o3, o4⟩ := box5f hoG.out
            have q4 := frozen_heap hoG.out 4
            go_wp2_with fail
            clear o0 o1 o2 o3 o4 q4
            have hlH := hid (RP.setO (p := w2.heap.size) (q := 4) (u := .slice a8 l.length c8) r8.out ⟨_, _, _, _, _, _, _, _, _, _, hoG.out⟩)
            have hpH := hid (box_other (q := w2.heap.size) (o := 4) (u := .slice a8 l.length c8) hpG.out (by omega))
            have hoH := hid (box5_4 (u := .slice a8 l.length c8) hoG.out)
            have hbH := hid (b_set hbG.out (p := ⟨w2.heap.size, 4, none⟩) (show w.heap.size ≤ w2.heap.size by omega) (.slice a8 l.length c8))
            clear hpG hoG hbG
            generalize w8.setCell ⟨w2.heap.size, 4, none⟩ (.slice a8 l.length c8) = w9 at *
            have fz : Hid (∀ w, RB w (.slice none 0 0) [] → RP w (.slice a8 l.length c8) l → Calls Try.prog 51 #[.agg #[.int .i64 k, .int .i64 0, .string d32, .slice none 0 0, .slice a8 l.length c8]] w fun e w' => e = .returned (.int .i64 (ordFault ⟨k, 0, d32, [], l⟩)) ∧ Below w.heap.size w w') := hid fun w g1 g2 => ref_OrderFault ⟨k, 0, d32, [], l⟩ (.slice none 0 0) (.slice a8 l.length c8) w g1 g2 hz32
            have zb9 := hid fun z (h : ordFault ⟨k, 0, d32, [], l⟩ = z) (he : z ≠ 0) => odC_bad hX.out h he
            have zo9 := hid fun (h : ordFault ⟨k, 0, d32, [], l⟩ = 0) => odC_ok hX.out h
            generalize hof9 : ordFault ⟨k, 0, d32, [], l⟩ = z at *
            clear hX hof9
            ((with_reducible refine (fz.out _ RS.nil hlH.out).mono ?_); rintro e9 w10 ⟨rfl, b10⟩)
            have hpK := hid (stays b10 hpH.out)
            have hoK := hid (stays b10 hoH.out)
            have hbK := hid (b_call hbH.out b10)
            have hlK := hid (hlH.out.mono EPart.stable b10)
            clear hpH hoH hbH hlH b10
            clear fz
            by_cases hz : z = 0
            · subst hz
              have hX := hid (zo9.out rfl)
              clear zb9 zo9
              obtain ⟨o0, o1, o2, o3, o4⟩ := box5f hoK.out
              obtain ⟨m0, m1, m2, m3, m4⟩ := box5f hpK.out
              have n0 := frozen_heap hpK.out 0
              have n1 := frozen_heap hpK.out 1
              have n2 := frozen_heap hpK.out 2
              have n3 := frozen_heap hpK.out 3
              have n4 := frozen_heap hpK.out 4
              go_wp2_with fail
              have rp9 := RP.box5 (k' := k) (n' := 0) (d' := d32) (b := none) (i := 0) (j := 0) (b' := a8) (i' := l.length) (j' := c8) hlK.out hpK.out
              unfold World.box5 at rp9
              have hq9 := box5_same (u0 := .int .i64 k) (u1 := .int .i64 0) (u2 := .string d32) (u3 := .slice none 0 0) (u4 := .slice a8 l.length c8) hpK.out
              have hb9 := b_box5 hbK.out (q := w.heap.size) (Nat.le_refl _) (.int .i64 k) (.int .i64 0) (.string d32) (.slice none 0 0) (.slice a8 l.length c8)
              obtain ⟨k0, k1, k2, k3, k4⟩ := box5f hq9
              unfold World.box5 at k0 k1 k2 k3 k4 hb9
              (try simp only [Exit.inBlock, Exit.then])
              refine bodyPost_ret (by simp [results, Try.results11, go_sem, k0, k1, k2, k3, k4]; try rfl) rfl ?_
              exact od_ok hX.out (RS.nil) rp9 hb9
            · have hX := hid (zb9.out z rfl hz)
              have tz : (z != 0) = true := by simp [hz]
              clear zb9 zo9
              replace hz := hid hz
              obtain ⟨m0, m1, m2, m3, m4⟩ := box5f hpK.out
              have n0 := frozen_heap hpK.out 0
              have n1 := frozen_heap hpK.out 1
              have n2 := frozen_heap hpK.out 2
              have n3 := frozen_heap hpK.out 3
              have n4 := frozen_heap hpK.out 4
              go_wp2_with fail
              have hq9 := box5_same (u0 := .int .i64 0) (u1 := .int .i64 0) (u2 := .string ⟨#[]⟩) (u3 := .slice none 0 0) (u4 := .slice none 0 0) hpK.out
              have hb9 := b_box5 hbK.out (q := w.heap.size) (Nat.le_refl _) (.int .i64 0) (.int .i64 0) (.string ⟨#[]⟩) (.slice none 0 0) (.slice none 0 0)
              obtain ⟨k0, k1, k2, k3, k4⟩ := box5f hq9
              unfold World.box5 at k0 k1 k2 k3 k4 hb9
              (try simp only [Exit.inBlock, Exit.then])
              refine bodyPost_ret (by simp [results, Try.results11, go_sem, k0, k1, k2, k3, k4]; try rfl) rfl ?_
              exact od_no hX.out hb9
          · have hX := hid (zb6.out l e7 rfl he7)
            have t7 : (e7 != 0) = true := by simp [he7]
            have t7' : (e7 == 0) = false := by simp [he7]
            clear zb6 zo6
            replace he7 := hid he7
            obtain ⟨o0, o1, o2, o3, o4⟩ := box5f hoG.out
            have q4 := frozen_heap hoG.out 4
            obtain ⟨m0, m1, m2, m3, m4⟩ := box5f hpG.out
            have n0 := frozen_heap hpG.out 0
            have n1 := frozen_heap hpG.out 1
            have n2 := frozen_heap hpG.out 2
            have n3 := frozen_heap hpG.out 3
            have n4 := frozen_heap hpG.out 4
            have hpZ := hid (box_other (q := w2.heap.size) (o := 4) (u := .slice a8 l.length c8) hpG.out (by omega))
            have hbZ := hid (b_set hbG.out (p := ⟨w2.heap.size, 4, none⟩) (show w.heap.size ≤ w2.heap.size by omega) (.slice a8 l.length c8))
            go_wp2_with fail
            clear o0 o1 o2 o3 o4 q4 m0 m1 m2 m3 m4 n0 n1 n2 n3 n4
            have hq9 := box5_same (u0 := .int .i64 0) (u1 := .int .i64 0) (u2 := .string ⟨#[]⟩) (u3 := .slice none 0 0) (u4 := .slice none 0 0) hpZ.out
            have hb9 := b_box5 hbZ.out (q := w.heap.size) (Nat.le_refl _) (.int .i64 0) (.int .i64 0) (.string ⟨#[]⟩) (.slice none 0 0) (.slice none 0 0)
            obtain ⟨k0, k1, k2, k3, k4⟩ := box5f hq9
            unfold World.box5 at k0 k1 k2 k3 k4 hb9
            (try simp only [Exit.inBlock, Exit.then])
            refine bodyPost_ret (by simp [results, Try.results11, go_sem, k0, k1, k2, k3, k4]; try rfl) rfl ?_
            exact od_no hX.out hb9
      · -- n
        rw [hpart] at h1
        cases h1
      · -- -
        clear hpart
        rw [h1] at hwn
        rw [h2] at hwd
        rw [h3] at hwb
        rw [h4] at hwp
        have hno := hasS_none k
        rw [hk, Bool.not_true] at hno
        clear hk
        generalize hasS k = hs at *
        go_enter Try.func11, Try.ntmps11
        go_wp2_with fail
        ((with_reducible refine (f1.out _ (hR.out.mono EU8.stable (b_alloc (Below.refl w.heap.size w) (Obj.cells #[.int .i64 0, .int .i64 0, .string ⟨#[]⟩, .slice none 0 0, .slice none 0 0] 31)))).mono ?_); rintro e1 w1 ⟨v1, rfl, r1, b1⟩)
        have hq_p_1 := hid (stays b1 (heap_alloc_new w (Obj.cells #[.int .i64 0, .int .i64 0, .string ⟨#[]⟩, .slice none 0 0, .slice none 0 0] 31)))
        have hb1 := hid (b_call (b_alloc (Below.refl w.heap.size w) (Obj.cells #[.int .i64 0, .int .i64 0, .string ⟨#[]⟩, .slice none 0 0, .slice none 0 0] 31)) b1)
        have r_r_1 := hid r1
        clear r1 b1
        obtain ⟨a1, c1, rfl, -⟩ := id r_r_1.out
        go_wp2_with fail
        ((with_reducible refine (hhas.out _).mono ?_); rintro e2 w2 ⟨rfl, b2⟩)
        have hq_p_2 := hid (stays b2 hq_p_1.out)
        have hb2 := hid (b_call hb1.out b2)
        have r_r_2 := hid (r_r_1.out.mono EU8.stable (b_call (Below.refl w1.heap.size w1) b2))
        clear hq_p_1 hb1 r_r_1 b2
        go_wp2_with fail
        have hpA := hid (((heap_alloc_old w2 (Obj.cells #[.int .i64 k, .int .i64 0, .string ⟨#[]⟩, .slice none 0 0, .slice none 0 0] 31) (heap_lt hq_p_2.out)).trans hq_p_2.out))
        have hoA := hid ((heap_alloc_new w2 (Obj.cells #[.int .i64 k, .int .i64 0, .string ⟨#[]⟩, .slice none 0 0, .slice none 0 0] 31)))
        have hbA := hid ((b_alloc hb2.out (Obj.cells #[.int .i64 k, .int .i64 0, .string ⟨#[]⟩, .slice none 0 0, .slice none 0 0] 31)))
        have hrA := hid (r_r_2.out.mono EU8.stable (b_alloc (Below.refl w2.heap.size w2) (Obj.cells #[.int .i64 k, .int .i64 0, .string ⟨#[]⟩, .slice none 0 0, .slice none 0 0] 31)))
        have hs2 : w.heap.size < w2.heap.size := heap_lt hq_p_2.out
        clear hq_p_2 r_r_2 hb2 hhas hno
        generalize (w2.alloc (Obj.cells #[.int .i64 k, .int .i64 0, .string ⟨#[]⟩, .slice none 0 0, .slice none 0 0] 31)) = wa at *
        ((with_reducible refine (hwn.out _).mono ?_); rintro ew13 wv13 ⟨rfl, bw13⟩)
        have hpw13 := hid (stays bw13 hpA.out)
        have how13 := hid (stays bw13 hoA.out)
        have hbw13 := hid (b_call hbA.out bw13)
        have hrw13 := hid (hrA.out.mono EU8.stable bw13)
        clear hpA hoA hbA hrA bw13
        clear hwn
        replace hX := hid (odN_no hX.out h1)
        go_wp2_with fail
        ((with_reducible refine (hwd.out _).mono ?_); rintro ew14 wv14 ⟨rfl, bw14⟩)
        have hpw14 := hid (stays bw14 hpw13.out)
        have how14 := hid (stays bw14 how13.out)
        have hbw14 := hid (b_call hbw13.out bw14)
        have hrw14 := hid (hrw13.out.mono EU8.stable bw14)
        clear hpw13 how13 hbw13 hrw13 bw14
        clear hwd
        replace hX := hid (odD_no hX.out h2)
        go_wp2_with fail
        ((with_reducible refine (hwb.out _).mono ?_); rintro ew15 wv15 ⟨rfl, bw15⟩)
        have hpw15 := hid (stays bw15 hpw14.out)
        have how15 := hid (stays bw15 how14.out)
        have hbw15 := hid (b_call hbw14.out bw15)
        have hrw15 := hid (hrw14.out.mono EU8.stable bw15)
        clear hpw14 how14 hbw14 hrw14 bw15
        clear hwb
        replace hX := hid (odB_no hX.out h3)
        go_wp2_with fail
        ((with_reducible refine (hwp.out _).mono ?_); rintro ew16 wv16 ⟨rfl, bw16⟩)
        have hpw16 := hid (stays bw16 hpw15.out)
        have how16 := hid (stays bw16 how15.out)
        have hbw16 := hid (b_call hbw15.out bw16)
        have hrw16 := hid (hrw15.out.mono EU8.stable bw16)
        clear hpw15 how15 hbw15 hrw15 bw16
        clear hwp
        replace hX := hid (odP_no hX.out h4)
        by_cases hr0 : 0 < r.length
        · replace hX := hid (odR_bad hX.out hr0)
          have qr : decide (0 < (r.length : Int)) = true := decide_eq_true (by omega)
          obtain ⟨m0, m1, m2, m3, m4⟩ := box5f hpw16.out
          have n0 := frozen_heap hpw16.out 0
          have n1 := frozen_heap hpw16.out 1
          have n2 := frozen_heap hpw16.out 2
          have n3 := frozen_heap hpw16.out 3
          have n4 := frozen_heap hpw16.out 4
          go_wp2_with fail
          have hq9 := box5_same (u0 := .int .i64 0) (u1 := .int .i64 0) (u2 := .string ⟨#[]⟩) (u3 := .slice none 0 0) (u4 := .slice none 0 0) hpw16.out
          have hb9 := b_box5 hbw16.out (q := w.heap.size) (Nat.le_refl _) (.int .i64 0) (.int .i64 0) (.string ⟨#[]⟩) (.slice none 0 0) (.slice none 0 0)
          obtain ⟨k0, k1, k2, k3, k4⟩ := box5f hq9
          unfold World.box5 at k0 k1 k2 k3 k4 hb9
          (try simp only [Exit.inBlock, Exit.then])
          refine bodyPost_ret (by simp [results, Try.results11, go_sem, k0, k1, k2, k3, k4]; try rfl) rfl ?_
          exact od_no hX.out hb9
        · replace hX := hid (odR_ok hX.out hr0)
          have qr : decide (0 < (r.length : Int)) = false := decide_eq_false (by omega)
          have fz : Hid (∀ w, RB w (.slice none 0 0) [] → RP w (.slice none 0 0) [] → Calls Try.prog 51 #[.agg #[.int .i64 k, .int .i64 0, .string ⟨#[]⟩, .slice none 0 0, .slice none 0 0]] w fun e w' => e = .returned (.int .i64 (ordFault ⟨k, 0, ⟨#[]⟩, [], []⟩)) ∧ Below w.heap.size w w') := hid fun w g1 g2 => ref_OrderFault ⟨k, 0, ⟨#[]⟩, [], []⟩ (.slice none 0 0) (.slice none 0 0) w g1 g2 no_len
          have zb9 := hid fun z (h : ordFault ⟨k, 0, ⟨#[]⟩, [], []⟩ = z) (he : z ≠ 0) => odC_bad hX.out h he
          have zo9 := hid fun (h : ordFault ⟨k, 0, ⟨#[]⟩, [], []⟩ = 0) => odC_ok hX.out h
          generalize hof9 : ordFault ⟨k, 0, ⟨#[]⟩, [], []⟩ = z at *
          clear hX hof9
          obtain ⟨o0, o1, o2, o3, o4⟩ := box5f how16.out
          go_wp2_with fail
          clear o0 o1 o2 o3 o4
          ((with_reducible refine (fz.out _ RS.nil RS.nil).mono ?_); rintro e9 w10 ⟨rfl, b10⟩)
          have hpK := hid (stays b10 hpw16.out)
          have hoK := hid (stays b10 how16.out)
          have hbK := hid (b_call hbw16.out b10)
          clear hpw16 how16 hbw16 b10
          clear fz
          by_cases hz : z = 0
          · subst hz
            have hX := hid (zo9.out rfl)
            clear zb9 zo9
            obtain ⟨o0, o1, o2, o3, o4⟩ := box5f hoK.out
            obtain ⟨m0, m1, m2, m3, m4⟩ := box5f hpK.out
            have n0 := frozen_heap hpK.out 0
            have n1 := frozen_heap hpK.out 1
            have n2 := frozen_heap hpK.out 2
            have n3 := frozen_heap hpK.out 3
            have n4 := frozen_heap hpK.out 4
            go_wp2_with fail
            have hq9 := box5_same (u0 := .int .i64 k) (u1 := .int .i64 0) (u2 := .string ⟨#[]⟩) (u3 := .slice none 0 0) (u4 := .slice none 0 0) hpK.out
            have hb9 := b_box5 hbK.out (q := w.heap.size) (Nat.le_refl _) (.int .i64 k) (.int .i64 0) (.string ⟨#[]⟩) (.slice none 0 0) (.slice none 0 0)
            obtain ⟨k0, k1, k2, k3, k4⟩ := box5f hq9
            unfold World.box5 at k0 k1 k2 k3 k4 hb9
            (try simp only [Exit.inBlock, Exit.then])
            refine bodyPost_ret (by simp [results, Try.results11, go_sem, k0, k1, k2, k3, k4]; try rfl) rfl ?_
            exact od_ok hX.out (RS.nil) (RS.nil) hb9
          · have hX := hid (zb9.out z rfl hz)
            have tz : (z != 0) = true := by simp [hz]
            clear zb9 zo9
            replace hz := hid hz
            obtain ⟨m0, m1, m2, m3, m4⟩ := box5f hpK.out
            have n0 := frozen_heap hpK.out 0
            have n1 := frozen_heap hpK.out 1
            have n2 := frozen_heap hpK.out 2
            have n3 := frozen_heap hpK.out 3
            have n4 := frozen_heap hpK.out 4
            go_wp2_with fail
            have hq9 := box5_same (u0 := .int .i64 0) (u1 := .int .i64 0) (u2 := .string ⟨#[]⟩) (u3 := .slice none 0 0) (u4 := .slice none 0 0) hpK.out
            have hb9 := b_box5 hbK.out (q := w.heap.size) (Nat.le_refl _) (.int .i64 0) (.int .i64 0) (.string ⟨#[]⟩) (.slice none 0 0) (.slice none 0 0)
            obtain ⟨k0, k1, k2, k3, k4⟩ := box5f hq9
            unfold World.box5 at k0 k1 k2 k3 k4 hb9
            (try simp only [Exit.inBlock, Exit.then])
            refine bodyPost_ret (by simp [results, Try.results11, go_sem, k0, k1, k2, k3, k4]; try rfl) rfl ?_
            exact od_no hX.out hb9
      · -- nd
        rw [hpart] at h1
        cases h1
    · have hk2 : isKind k = false := by simpa using hk
      have hX := hid (zn.out k r rfl hk2)
      clear zb zn zk hk hpart
      have hno := hasS_none k
      rw [hk2, Bool.not_false] at hno
      generalize hasS k = hs at *
      go_enter Try.func11, Try.ntmps11
      go_wp2_with fail
      ((with_reducible refine (f1.out _ (hR.out.mono EU8.stable (b_alloc (Below.refl w.heap.size w) (Obj.cells #[.int .i64 0, .int .i64 0, .string ⟨#[]⟩, .slice none 0 0, .slice none 0 0] 31)))).mono ?_); rintro e1 w1 ⟨v1, rfl, r1, b1⟩)
      have hq_p_1 := hid (stays b1 (heap_alloc_new w (Obj.cells #[.int .i64 0, .int .i64 0, .string ⟨#[]⟩, .slice none 0 0, .slice none 0 0] 31)))
      have hb1 := hid (b_call (b_alloc (Below.refl w.heap.size w) (Obj.cells #[.int .i64 0, .int .i64 0, .string ⟨#[]⟩, .slice none 0 0, .slice none 0 0] 31)) b1)
      have r_r_1 := hid r1
      clear r1 b1
      obtain ⟨a1, c1, rfl, -⟩ := id r_r_1.out
      go_wp2_with fail
      ((with_reducible refine (hhas.out _).mono ?_); rintro e2 w2 ⟨rfl, b2⟩)
      have hq_p_2 := hid (stays b2 hq_p_1.out)
      have hb2 := hid (b_call hb1.out b2)
      have r_r_2 := hid (r_r_1.out.mono EU8.stable (b_call (Below.refl w1.heap.size w1) b2))
      clear hq_p_1 hb1 r_r_1 b2
      clear hwn hwd hwb hwp
      obtain ⟨m0, m1, m2, m3, m4⟩ := box5f hq_p_2.out
      have n0 := frozen_heap hq_p_2.out 0
      have n1 := frozen_heap hq_p_2.out 1
      have n2 := frozen_heap hq_p_2.out 2
      have n3 := frozen_heap hq_p_2.out 3
      have n4 := frozen_heap hq_p_2.out 4
      go_wp2_with fail
      have hq9 := box5_same (u0 := .int .i64 0) (u1 := .int .i64 0) (u2 := .string ⟨#[]⟩) (u3 := .slice none 0 0) (u4 := .slice none 0 0) hq_p_2.out
      have hb9 := b_box5 hb2.out (q := w.heap.size) (Nat.le_refl _) (.int .i64 0) (.int .i64 0) (.string ⟨#[]⟩) (.slice none 0 0) (.slice none 0 0)
      obtain ⟨k0, k1, k2, k3, k4⟩ := box5f hq9
      unfold World.box5 at k0 k1 k2 k3 k4 hb9
      (try simp only [Exit.inBlock, Exit.then])
      refine bodyPost_ret (by simp [results, Try.results11, go_sem, k0, k1, k2, k3, k4]; try rfl) rfl ?_
      exact od_no hX.out hb9
  · have hX := hid (zb.out k r e rfl he)
    have t1 : (e != 0) = true := by simp [he]
    clear zb zn zk hpart
    replace he := hid he
    go_enter Try.func11, Try.ntmps11
    go_wp2_with fail
    ((with_reducible refine (f1.out _ (hR.out.mono EU8.stable (b_alloc (Below.refl w.heap.size w) (Obj.cells #[.int .i64 0, .int .i64 0, .string ⟨#[]⟩, .slice none 0 0, .slice none 0 0] 31)))).mono ?_); rintro e1 w1 ⟨v1, rfl, r1, b1⟩)
    have hq_p_1 := hid (stays b1 (heap_alloc_new w (Obj.cells #[.int .i64 0, .int .i64 0, .string ⟨#[]⟩, .slice none 0 0, .slice none 0 0] 31)))
    have hb1 := hid (b_call (b_alloc (Below.refl w.heap.size w) (Obj.cells #[.int .i64 0, .int .i64 0, .string ⟨#[]⟩, .slice none 0 0, .slice none 0 0] 31)) b1)
    have r_r_1 := hid r1
    clear r1 b1
    obtain ⟨a1, c1, rfl, -⟩ := id r_r_1.out
    obtain ⟨m0, m1, m2, m3, m4⟩ := box5f hq_p_1.out
    have n0 := frozen_heap hq_p_1.out 0
    have n1 := frozen_heap hq_p_1.out 1
    have n2 := frozen_heap hq_p_1.out 2
    have n3 := frozen_heap hq_p_1.out 3
    have n4 := frozen_heap hq_p_1.out 4
    go_wp2_with fail
    have hq9 := box5_same (u0 := .int .i64 0) (u1 := .int .i64 0) (u2 := .string ⟨#[]⟩) (u3 := .slice none 0 0) (u4 := .slice none 0 0) hq_p_1.out
    have hb9 := b_box5 hb1.out (q := w.heap.size) (Nat.le_refl _) (.int .i64 0) (.int .i64 0) (.string ⟨#[]⟩) (.slice none 0 0) (.slice none 0 0)
    obtain ⟨k0, k1, k2, k3, k4⟩ := box5f hq9
    unfold World.box5 at k0 k1 k2 k3 k4 hb9
    (try simp only [Exit.inBlock, Exit.then])
    refine bodyPost_ret (by simp [results, Try.results11, go_sem, k0, k1, k2, k3, k4]; try rfl) rfl ?_
    exact od_no hX.out hb9
end Go.Proofs.Ytojebioolflbkaa
