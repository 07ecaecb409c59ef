/-
  The reference's OrderOf: what it answers. Printed by gen_od.py.
-/
import Derived.Test.YtojebioolflbkaaOdL
import Derived.Deep.RegionHeld3
import Derived.Deep.DeepCutAuto
import Derived.StillTactics
namespace Go.Proofs.Ytojebioolflbkaa
open Go.RowKit
set_option maxRecDepth 100000 in
set_option maxHeartbeats 4000000 in
theorem ref_OrderOfB (v : Value) (b : List UInt8) (w : World) (h : RB w v b) (hpart : hasN (readNum b).1 = true) : Calls Try.prog 11 #[v] w (OdRes (decOrd b) w) := by
  have hR := hid h
  have hbl : b.length ≤ 140737488351232 := by obtain ⟨_, _, _, _, _, hre, _⟩ := h; omega
  have f1 := hid fun w (g : RB w v b) => (ref_WireNumberOf v b w g).mono (fun e w' => num_post hbl)
  unfold NumPost at f1
  obtain ⟨X, hX⟩ : ∃ X, X = decOrd b := ⟨_, rfl⟩
  rw [← hX]
  have zb := hid fun n r e (h3 : readNum b = (n, r, e)) (he : e ≠ 0) => dec_bad hX h3 he
  have zn := hid fun k r (h3 : readNum b = (k, r, 0)) (hk : isKind k = false) => dec_none hX h3 hk
  have zk := hid fun k r (h3 : readNum b = (k, r, 0)) (hk : isKind k = true) => dec_kind hX h3 hk
  have hle := rn_rest_le b
  generalize hrn : readNum b = t at *
  obtain ⟨k, r, e⟩ := t
  simp only at f1 hle hpart
  replace hle : r.length ≤ 140737488351232 := by omega
  clear hrn hX h
  by_cases he : e = 0
  · subst he
    have hhas := hid fun w => ref_has k w
    have hwn := hid fun w => ref_with_n k w
    have hwd := hid fun w => ref_with_d k w
    have hwb := hid fun w => ref_with_b k w
    have hwp := hid fun w => ref_with_p k w
    by_cases hk : isKind k = true
    · have hX := hid (zk.out k r rfl hk)
      clear zb zn zk
      rcases kind_fields hk with ⟨h1, h2, h3, h4⟩ | ⟨h1, h2, h3, h4⟩ | ⟨h1, h2, h3, h4⟩ | ⟨h1, h2, h3, h4⟩ | ⟨h1, h2, h3, h4⟩ | ⟨h1, h2, h3, h4⟩
      · -- b
        rw [hpart] at h1
        cases h1
      · -- d
        rw [hpart] at h1
        cases h1
      · -- dp
        rw [hpart] at h1
        cases h1
      · -- n
        clear hpart
        rw [h1] at hwn
        rw [h2] at hwd
        rw [h3] at hwb
        rw [h4] at hwp
        have hno := hasS_none k
        rw [hk, Bool.not_true] at hno
        clear hk
        generalize hasS k = hs at *
        go_enter Try.func11, Try.ntmps11
        go_wp2_with fail
        ((with_reducible refine (f1.out _ (hR.out.mono EU8.stable (b_alloc (Below.refl w.heap.size w) (Obj.cells #[.int .i64 0, .int .i64 0, .string ⟨#[]⟩, .slice none 0 0, .slice none 0 0] 31)))).mono ?_); rintro e1 w1 ⟨v1, rfl, r1, b1⟩)
        have hq_p_1 := hid (stays b1 (heap_alloc_new w (Obj.cells #[.int .i64 0, .int .i64 0, .string ⟨#[]⟩, .slice none 0 0, .slice none 0 0] 31)))
        have hb1 := hid (b_call (b_alloc (Below.refl w.heap.size w) (Obj.cells #[.int .i64 0, .int .i64 0, .string ⟨#[]⟩, .slice none 0 0, .slice none 0 0] 31)) b1)
        have r_r_1 := hid r1
        clear r1 b1
        obtain ⟨a1, c1, rfl, -⟩ := id r_r_1.out
        go_wp2_with fail
        ((with_reducible refine (hhas.out _).mono ?_); rintro e2 w2 ⟨rfl, b2⟩)
        have hq_p_2 := hid (stays b2 hq_p_1.out)
        have hb2 := hid (b_call hb1.out b2)
        have r_r_2 := hid (r_r_1.out.mono EU8.stable (b_call (Below.refl w1.heap.size w1) b2))
        clear hq_p_1 hb1 r_r_1 b2
        go_wp2_with fail
        have hpA := hid (((heap_alloc_old w2 (Obj.cells #[.int .i64 k, .int .i64 0, .string ⟨#[]⟩, .slice none 0 0, .slice none 0 0] 31) (heap_lt hq_p_2.out)).trans hq_p_2.out))
        have hoA := hid ((heap_alloc_new w2 (Obj.cells #[.int .i64 k, .int .i64 0, .string ⟨#[]⟩, .slice none 0 0, .slice none 0 0] 31)))
        have hbA := hid ((b_alloc hb2.out (Obj.cells #[.int .i64 k, .int .i64 0, .string ⟨#[]⟩, .slice none 0 0, .slice none 0 0] 31)))
        have hrA := hid (r_r_2.out.mono EU8.stable (b_alloc (Below.refl w2.heap.size w2) (Obj.cells #[.int .i64 k, .int .i64 0, .string ⟨#[]⟩, .slice none 0 0, .slice none 0 0] 31)))
        have hs2 : w.heap.size < w2.heap.size := heap_lt hq_p_2.out
        clear hq_p_2 r_r_2 hb2 hhas hno
        generalize (w2.alloc (Obj.cells #[.int .i64 k, .int .i64 0, .string ⟨#[]⟩, .slice none 0 0, .slice none 0 0] 31)) = wa at *
        ((with_reducible refine (hwn.out _).mono ?_); rintro ew17 wv17 ⟨rfl, bw17⟩)
        have hpw17 := hid (stays bw17 hpA.out)
        have how17 := hid (stays bw17 hoA.out)
        have hbw17 := hid (b_call hbA.out bw17)
        have hrw17 := hid (hrA.out.mono EU8.stable bw17)
        clear hpA hoA hbA hrA bw17
        clear hwn
        have f2 := hid fun v w (g : RB w v r) => (ref_WireNumberOf v r w g).mono (fun e w' => num_post hle)
        unfold NumPost at f2
        have zb2 := hid fun n r' e (h3 : readNum r = (n, r', e)) (he : e ≠ 0) => odN_bad hX.out h1 h3 he
        have zo2 := hid fun n r' (h3 : readNum r = (n, r', 0)) => odN_ok hX.out h1 h3
        have hle2 := rn_rest_le r
        generalize hrn : readNum r = t at *
        obtain ⟨n, r2, e2⟩ := t
        simp only at f2 hle2
        replace hle2 : r2.length ≤ 140737488351232 := by omega
        clear hrn hX
        go_wp2_with fail
        ((with_reducible refine (f2.out _ _ hrw17.out).mono ?_); rintro e3 w3 ⟨v2, rfl, r3, b3⟩)
        clear hrw17
        obtain ⟨av, cv, rfl, -⟩ := id r3
        have hrB := hid r3
        clear f2 r3
        have hpB := hid (stays b3 hpw17.out)
        have hoB := hid (stays b3 how17.out)
        have hbB := hid (b_call hbw17.out b3)
        clear hpw17 how17 hbw17 b3
        by_cases he2 : e2 = 0
        · subst he2
          have hX := hid (zo2.out n r2 rfl)
          clear zb2 zo2
          obtain ⟨o0, o1, o2, o3, o4⟩ := box5f hoB.out
          have q1 := frozen_heap hoB.out 1
          go_wp2_with fail
          clear o0 o1 o2 o3 o4 q1
          have hpC := hid (box_other (q := w2.heap.size) (o := 1) (u := .int .i64 n) hpB.out (by omega))
          have hoC := hid (box5_1 (u := .int .i64 n) hoB.out)
          have hbC := hid (b_set hbB.out (p := ⟨w2.heap.size, 1, none⟩) (show w.heap.size ≤ w2.heap.size by omega) (.int .i64 n))
          have hrC := hid (RB.setO (p := w2.heap.size) (q := 1) (u := .int .i64 n) hrB.out ⟨_, _, _, _, _, _, _, _, _, _, hoB.out⟩)
          clear hpB hoB hbB hrB
          generalize w3.setCell ⟨w2.heap.size, 1, none⟩ (.int .i64 n) = w4 at *
          ((with_reducible refine (hwd.out _).mono ?_); rintro ew18 wv18 ⟨rfl, bw18⟩)
          have hpw18 := hid (stays bw18 hpC.out)
          have how18 := hid (stays bw18 hoC.out)
          have hbw18 := hid (b_call hbC.out bw18)
          have hrw18 := hid (hrC.out.mono EU8.stable bw18)
          clear hpC hoC hbC hrC bw18
          clear hwd
          replace hX := hid (odD_no hX.out h2)
          go_wp2_with fail
          ((with_reducible refine (hwb.out _).mono ?_); rintro ew19 wv19 ⟨rfl, bw19⟩)
          have hpw19 := hid (stays bw19 hpw18.out)
          have how19 := hid (stays bw19 how18.out)
          have hbw19 := hid (b_call hbw18.out bw19)
          have hrw19 := hid (hrw18.out.mono EU8.stable bw19)
          clear hpw18 how18 hbw18 hrw18 bw19
          clear hwb
          replace hX := hid (odB_no hX.out h3)
          go_wp2_with fail
          ((with_reducible refine (hwp.out _).mono ?_); rintro ew20 wv20 ⟨rfl, bw20⟩)
          have hpw20 := hid (stays bw20 hpw19.out)
          have how20 := hid (stays bw20 how19.out)
          have hbw20 := hid (b_call hbw19.out bw20)
          have hrw20 := hid (hrw19.out.mono EU8.stable bw20)
          clear hpw19 how19 hbw19 hrw19 bw20
          clear hwp
          replace hX := hid (odP_no hX.out h4)
          by_cases hr0 : 0 < r2.length
          · replace hX := hid (odR_bad hX.out hr0)
            have qr : decide (0 < (r2.length : Int)) = true := decide_eq_true (by omega)
            obtain ⟨m0, m1, m2, m3, m4⟩ := box5f hpw20.out
            have n0 := frozen_heap hpw20.out 0
            have n1 := frozen_heap hpw20.out 1
            have n2 := frozen_heap hpw20.out 2
            have n3 := frozen_heap hpw20.out 3
            have n4 := frozen_heap hpw20.out 4
            go_wp2_with fail
            have hq9 := box5_same (u0 := .int .i64 0) (u1 := .int .i64 0) (u2 := .string ⟨#[]⟩) (u3 := .slice none 0 0) (u4 := .slice none 0 0) hpw20.out
            have hb9 := b_box5 hbw20.out (q := w.heap.size) (Nat.le_refl _) (.int .i64 0) (.int .i64 0) (.string ⟨#[]⟩) (.slice none 0 0) (.slice none 0 0)
            obtain ⟨k0, k1, k2, k3, k4⟩ := box5f hq9
            unfold World.box5 at k0 k1 k2 k3 k4 hb9
            (try simp only [Exit.inBlock, Exit.then])
            refine bodyPost_ret (by simp [results, Try.results11, go_sem, k0, k1, k2, k3, k4]; try rfl) rfl ?_
            exact od_no hX.out hb9
          · replace hX := hid (odR_ok hX.out hr0)
            have qr : decide (0 < (r2.length : Int)) = false := decide_eq_false (by omega)
            have fz : Hid (∀ w, RB w (.slice none 0 0) [] → RP w (.slice none 0 0) [] → Calls Try.prog 51 #[.agg #[.int .i64 k, .int .i64 n, .string ⟨#[]⟩, .slice none 0 0, .slice none 0 0]] w fun e w' => e = .returned (.int .i64 (ordFault ⟨k, n, ⟨#[]⟩, [], []⟩)) ∧ Below w.heap.size w w') := hid fun w g1 g2 => ref_OrderFault ⟨k, n, ⟨#[]⟩, [], []⟩ (.slice none 0 0) (.slice none 0 0) w g1 g2 no_len
            have zb9 := hid fun z (h : ordFault ⟨k, n, ⟨#[]⟩, [], []⟩ = z) (he : z ≠ 0) => odC_bad hX.out h he
            have zo9 := hid fun (h : ordFault ⟨k, n, ⟨#[]⟩, [], []⟩ = 0) => odC_ok hX.out h
            generalize hof9 : ordFault ⟨k, n, ⟨#[]⟩, [], []⟩ = z at *
            clear hX hof9
            obtain ⟨o0, o1, o2, o3, o4⟩ := box5f how20.out
            go_wp2_with fail
            clear o0 o1 o2 o3 o4
            ((with_reducible refine (fz.out _ RS.nil RS.nil).mono ?_); rintro e9 w10 ⟨rfl, b10⟩)
            have hpK := hid (stays b10 hpw20.out)
            have hoK := hid (stays b10 how20.out)
            have hbK := hid (b_call hbw20.out b10)
            clear hpw20 how20 hbw20 b10
            clear fz
            by_cases hz : z = 0
            · subst hz
              have hX := hid (zo9.out rfl)
              clear zb9 zo9
              obtain ⟨o0, o1, o2, o3, o4⟩ := box5f hoK.out
              obtain ⟨m0, m1, m2, m3, m4⟩ := box5f hpK.out
              have n0 := frozen_heap hpK.out 0
              have n1 := frozen_heap hpK.out 1
              have n2 := frozen_heap hpK.out 2
              have n3 := frozen_heap hpK.out 3
              have n4 := frozen_heap hpK.out 4
              go_wp2_with fail
              have hq9 := box5_same (u0 := .int .i64 k) (u1 := .int .i64 n) (u2 := .string ⟨#[]⟩) (u3 := .slice none 0 0) (u4 := .slice none 0 0) hpK.out
              have hb9 := b_box5 hbK.out (q := w.heap.size) (Nat.le_refl _) (.int .i64 k) (.int .i64 n) (.string ⟨#[]⟩) (.slice none 0 0) (.slice none 0 0)
              obtain ⟨k0, k1, k2, k3, k4⟩ := box5f hq9
              unfold World.box5 at k0 k1 k2 k3 k4 hb9
              (try simp only [Exit.inBlock, Exit.then])
              refine bodyPost_ret (by simp [results, Try.results11, go_sem, k0, k1, k2, k3, k4]; try rfl) rfl ?_
              exact od_ok hX.out (RS.nil) (RS.nil) hb9
            · have hX := hid (zb9.out z rfl hz)
              have tz : (z != 0) = true := by simp [hz]
              clear zb9 zo9
              replace hz := hid hz
              obtain ⟨m0, m1, m2, m3, m4⟩ := box5f hpK.out
              have n0 := frozen_heap hpK.out 0
              have n1 := frozen_heap hpK.out 1
              have n2 := frozen_heap hpK.out 2
              have n3 := frozen_heap hpK.out 3
              have n4 := frozen_heap hpK.out 4
              go_wp2_with fail
              have hq9 := box5_same (u0 := .int .i64 0) (u1 := .int .i64 0) (u2 := .string ⟨#[]⟩) (u3 := .slice none 0 0) (u4 := .slice none 0 0) hpK.out
              have hb9 := b_box5 hbK.out (q := w.heap.size) (Nat.le_refl _) (.int .i64 0) (.int .i64 0) (.string ⟨#[]⟩) (.slice none 0 0) (.slice none 0 0)
              obtain ⟨k0, k1, k2, k3, k4⟩ := box5f hq9
              unfold World.box5 at k0 k1 k2 k3 k4 hb9
              (try simp only [Exit.inBlock, Exit.then])
              refine bodyPost_ret (by simp [results, Try.results11, go_sem, k0, k1, k2, k3, k4]; try rfl) rfl ?_
              exact od_no hX.out hb9
        · have hX := hid (zb2.out n r2 e2 rfl he2)
          have t2 : (e2 != 0) = true := by simp [he2]
          have t2' : (e2 == 0) = false := by simp [he2]
          clear zb2 zo2 hwd hwb hwp
          replace he2 := hid he2
          obtain ⟨o0, o1, o2, o3, o4⟩ := box5f hoB.out
          have q1 := frozen_heap hoB.out 1
          obtain ⟨m0, m1, m2, m3, m4⟩ := box5f hpB.out
          have n0 := frozen_heap hpB.out 0
          have n1 := frozen_heap hpB.out 1
          have n2 := frozen_heap hpB.out 2
          have n3 := frozen_heap hpB.out 3
          have n4 := frozen_heap hpB.out 4
          have hpZ := hid (box_other (q := w2.heap.size) (o := 1) (u := .int .i64 n) hpB.out (by omega))
          have hbZ := hid (b_set hbB.out (p := ⟨w2.heap.size, 1, none⟩) (show w.heap.size ≤ w2.heap.size by omega) (.int .i64 n))
          go_wp2_with fail
          clear o0 o1 o2 o3 o4 q1 m0 m1 m2 m3 m4 n0 n1 n2 n3 n4
          have hq9 := box5_same (u0 := .int .i64 0) (u1 := .int .i64 0) (u2 := .string ⟨#[]⟩) (u3 := .slice none 0 0) (u4 := .slice none 0 0) hpZ.out
          have hb9 := b_box5 hbZ.out (q := w.heap.size) (Nat.le_refl _) (.int .i64 0) (.int .i64 0) (.string ⟨#[]⟩) (.slice none 0 0) (.slice none 0 0)
          obtain ⟨k0, k1, k2, k3, k4⟩ := box5f hq9
          unfold World.box5 at k0 k1 k2 k3 k4 hb9
          (try simp only [Exit.inBlock, Exit.then])
          refine bodyPost_ret (by simp [results, Try.results11, go_sem, k0, k1, k2, k3, k4]; try rfl) rfl ?_
          exact od_no hX.out hb9
      · -- -
        rw [hpart] at h1
        cases h1
      · -- nd
        clear hpart
        rw [h1] at hwn
        rw [h2] at hwd
        rw [h3] at hwb
        rw [h4] at hwp
        have hno := hasS_none k
        rw [hk, Bool.not_true] at hno
        clear hk
        generalize hasS k = hs at *
        go_enter Try.func11, Try.ntmps11
        go_wp2_with fail
        ((with_reducible refine (f1.out _ (hR.out.mono EU8.stable (b_alloc (Below.refl w.heap.size w) (Obj.cells #[.int .i64 0, .int .i64 0, .string ⟨#[]⟩, .slice none 0 0, .slice none 0 0] 31)))).mono ?_); rintro e1 w1 ⟨v1, rfl, r1, b1⟩)
        have hq_p_1 := hid (stays b1 (heap_alloc_new w (Obj.cells #[.int .i64 0, .int .i64 0, .string ⟨#[]⟩, .slice none 0 0, .slice none 0 0] 31)))
        have hb1 := hid (b_call (b_alloc (Below.refl w.heap.size w) (Obj.cells #[.int .i64 0, .int .i64 0, .string ⟨#[]⟩, .slice none 0 0, .slice none 0 0] 31)) b1)
        have r_r_1 := hid r1
        clear r1 b1
        obtain ⟨a1, c1, rfl, -⟩ := id r_r_1.out
        go_wp2_with fail
        ((with_reducible refine (hhas.out _).mono ?_); rintro e2 w2 ⟨rfl, b2⟩)
        have hq_p_2 := hid (stays b2 hq_p_1.out)
        have hb2 := hid (b_call hb1.out b2)
        have r_r_2 := hid (r_r_1.out.mono EU8.stable (b_call (Below.refl w1.heap.size w1) b2))
        clear hq_p_1 hb1 r_r_1 b2
        go_wp2_with fail
        have hpA := hid (((heap_alloc_old w2 (Obj.cells #[.int .i64 k, .int .i64 0, .string ⟨#[]⟩, .slice none 0 0, .slice none 0 0] 31) (heap_lt hq_p_2.out)).trans hq_p_2.out))
        have hoA := hid ((heap_alloc_new w2 (Obj.cells #[.int .i64 k, .int .i64 0, .string ⟨#[]⟩, .slice none 0 0, .slice none 0 0] 31)))
        have hbA := hid ((b_alloc hb2.out (Obj.cells #[.int .i64 k, .int .i64 0, .string ⟨#[]⟩, .slice none 0 0, .slice none 0 0] 31)))
        have hrA := hid (r_r_2.out.mono EU8.stable (b_alloc (Below.refl w2.heap.size w2) (Obj.cells #[.int .i64 k, .int .i64 0, .string ⟨#[]⟩, .slice none 0 0, .slice none 0 0] 31)))
        have hs2 : w.heap.size < w2.heap.size := heap_lt hq_p_2.out
        clear hq_p_2 r_r_2 hb2 hhas hno
        generalize (w2.alloc (Obj.cells #[.int .i64 k, .int .i64 0, .string ⟨#[]⟩, .slice none 0 0, .slice none 0 0] 31)) = wa at *
        ((with_reducible refine (hwn.out _).mono ?_); rintro ew21 wv21 ⟨rfl, bw21⟩)
        have hpw21 := hid (stays bw21 hpA.out)
        have how21 := hid (stays bw21 hoA.out)
        have hbw21 := hid (b_call hbA.out bw21)
        have hrw21 := hid (hrA.out.mono EU8.stable bw21)
        clear hpA hoA hbA hrA bw21
        clear hwn
        have f2 := hid fun v w (g : RB w v r) => (ref_WireNumberOf v r w g).mono (fun e w' => num_post hle)
        unfold NumPost at f2
        have zb2 := hid fun n r' e (h3 : readNum r = (n, r', e)) (he : e ≠ 0) => odN_bad hX.out h1 h3 he
        have zo2 := hid fun n r' (h3 : readNum r = (n, r', 0)) => odN_ok hX.out h1 h3
        have hle2 := rn_rest_le r
        generalize hrn : readNum r = t at *
        obtain ⟨n, r2, e2⟩ := t
        simp only at f2 hle2
        replace hle2 : r2.length ≤ 140737488351232 := by omega
        clear hrn hX
        go_wp2_with fail
        ((with_reducible refine (f2.out _ _ hrw21.out).mono ?_); rintro e3 w3 ⟨v2, rfl, r3, b3⟩)
        clear hrw21
        obtain ⟨av, cv, rfl, -⟩ := id r3
        have hrB := hid r3
        clear f2 r3
        have hpB := hid (stays b3 hpw21.out)
        have hoB := hid (stays b3 how21.out)
        have hbB := hid (b_call hbw21.out b3)
        clear hpw21 how21 hbw21 b3
        by_cases he2 : e2 = 0
        · subst he2
          have hX := hid (zo2.out n r2 rfl)
          clear zb2 zo2
          obtain ⟨o0, o1, o2, o3, o4⟩ := box5f hoB.out
          have q1 := frozen_heap hoB.out 1
          go_wp2_with fail
          clear o0 o1 o2 o3 o4 q1
          have hpC := hid (box_other (q := w2.heap.size) (o := 1) (u := .int .i64 n) hpB.out (by omega))
          have hoC := hid (box5_1 (u := .int .i64 n) hoB.out)
          have hbC := hid (b_set hbB.out (p := ⟨w2.heap.size, 1, none⟩) (show w.heap.size ≤ w2.heap.size by omega) (.int .i64 n))
          have hrC := hid (RB.setO (p := w2.heap.size) (q := 1) (u := .int .i64 n) hrB.out ⟨_, _, _, _, _, _, _, _, _, _, hoB.out⟩)
          clear hpB hoB hbB hrB
          generalize w3.setCell ⟨w2.heap.size, 1, none⟩ (.int .i64 n) = w4 at *
          ((with_reducible refine (hwd.out _).mono ?_); rintro ew22 wv22 ⟨rfl, bw22⟩)
          have hpw22 := hid (stays bw22 hpC.out)
          have how22 := hid (stays bw22 hoC.out)
          have hbw22 := hid (b_call hbC.out bw22)
          have hrw22 := hid (hrC.out.mono EU8.stable bw22)
          clear hpC hoC hbC hrC bw22
          clear hwd
          by_cases hl32 : r2.length < 32
          · replace hX := hid (odD_bad hX.out h2 hl32)
            have q32 : decide ((r2.length : Int) < 32) = true := by simp; omega
            clear hwb hwp
            obtain ⟨m0, m1, m2, m3, m4⟩ := box5f hpw22.out
            have n0 := frozen_heap hpw22.out 0
            have n1 := frozen_heap hpw22.out 1
            have n2 := frozen_heap hpw22.out 2
            have n3 := frozen_heap hpw22.out 3
            have n4 := frozen_heap hpw22.out 4
            go_wp2_with fail
            have hq9 := box5_same (u0 := .int .i64 0) (u1 := .int .i64 0) (u2 := .string ⟨#[]⟩) (u3 := .slice none 0 0) (u4 := .slice none 0 0) hpw22.out
            have hb9 := b_box5 hbw22.out (q := w.heap.size) (Nat.le_refl _) (.int .i64 0) (.int .i64 0) (.string ⟨#[]⟩) (.slice none 0 0) (.slice none 0 0)
            obtain ⟨k0, k1, k2, k3, k4⟩ := box5f hq9
            unfold World.box5 at k0 k1 k2 k3 k4 hb9
            (try simp only [Exit.inBlock, Exit.then])
            refine bodyPost_ret (by simp [results, Try.results11, go_sem, k0, k1, k2, k3, k4]; try rfl) rfl ?_
            exact od_no hX.out hb9
          · replace hX := hid (odD_ok hX.out h2 hl32)
            have q32 : decide ((r2.length : Int) < 32) = false := by simp; omega
            obtain ⟨hlc, hcm, bb, off, rfl⟩ := rb_parts hrw22.out (by omega)
            have hc32 : 32 ≤ cv := by omega
            have hn32 : 32 ≤ r2.length := by omega
            have hi32 : (32 : Int) ≤ (r2.length : Int) := by omega
            have hj32 : (32 : Int) ≤ (cv : Int) := by omega
            obtain ⟨A, hA⟩ : ∃ A, (if cv = 32 then (some ⟨bb, off, none⟩ : Option Addr) else some ⟨bb, off + 32, none⟩) = A := ⟨_, rfl⟩
            have hA2 : (if cv = 32 then (some ⟨bb, off, none⟩ : Option Addr) else (some (⟨bb, off, none⟩ : Addr)).map (·.add (32 * 1))) = A := by rw [← hA]; simp [Addr.add_lit]
            have hup := hid (RS.upto hrw22.out 32 hn32)
            have hfr := behind_reads hrw22.out 32 hn32
            rw [behind_slice, hA2] at hfr
            replace hfr := hid hfr
            clear hA2 hrw22
            generalize hd32 : bstr (hexOf (r2.take 32)) = d32 at *
            have fh := hid fun w (g : RB w (.slice (some ⟨bb, off, none⟩) 32 cv) (r2.take 32)) => ref_HexText _ _ w g (by rw [List.length_take]; omega)
            rw [hd32] at fh
            have hz32 : d32.size ≤ 140737488351232 := hd32 ▸ hex_le32 r2
            clear hd32
            go_wp2_with fail
            ((with_reducible refine (fh.out _ hup.out).mono ?_); rintro e5 w5 ⟨rfl, b5⟩)
            have hrD := hid (hfr.out.mono EU8.stable b5)
            have hpD := hid (stays b5 hpw22.out)
            have hoD := hid (stays b5 how22.out)
            have hbD := hid (b_call hbw22.out b5)
            clear hpw22 how22 hbw22 b5
            clear hup hfr fh
            obtain ⟨o0, o1, o2, o3, o4⟩ := box5f hoD.out
            have q2 := frozen_heap hoD.out 2
            go_wp2_with fail
            clear o0 o1 o2 o3 o4 q2
            have hpE := hid (box_other (q := w2.heap.size) (o := 2) (u := .string d32) hpD.out (by omega))
            have hoE := hid (box5_2 (u := .string d32) hoD.out)
            have hbE := hid (b_set hbD.out (p := ⟨w2.heap.size, 2, none⟩) (show w.heap.size ≤ w2.heap.size by omega) (.string d32))
            have hrE := hid (RB.setO (p := w2.heap.size) (q := 2) (u := .string d32) hrD.out ⟨_, _, _, _, _, _, _, _, _, _, hoD.out⟩)
            clear hpD hoD hbD hrD
            generalize w5.setCell ⟨w2.heap.size, 2, none⟩ (.string d32) = w6 at *
            clear hA
            ((with_reducible refine (hwb.out _).mono ?_); rintro ew23 wv23 ⟨rfl, bw23⟩)
            have hpw23 := hid (stays bw23 hpE.out)
            have how23 := hid (stays bw23 hoE.out)
            have hbw23 := hid (b_call hbE.out bw23)
            have hrw23 := hid (hrE.out.mono EU8.stable bw23)
            clear hpE hoE hbE hrE bw23
            clear hwb
            replace hX := hid (odB_no hX.out h3)
            go_wp2_with fail
            ((with_reducible refine (hwp.out _).mono ?_); rintro ew24 wv24 ⟨rfl, bw24⟩)
            have hpw24 := hid (stays bw24 hpw23.out)
            have how24 := hid (stays bw24 how23.out)
            have hbw24 := hid (b_call hbw23.out bw24)
            have hrw24 := hid (hrw23.out.mono EU8.stable bw24)
            clear hpw23 how23 hbw23 hrw23 bw24
            clear hwp
            replace hX := hid (odP_no hX.out h4)
            by_cases hr0 : 0 < (r2.drop 32).length
            · replace hX := hid (odR_bad hX.out hr0)
              have hdrop : (r2.drop 32).length = r2.length - 32 := List.length_drop
              have qr : decide (0 < ((r2.length - 32 : Nat) : Int)) = true := decide_eq_true (by omega)
              obtain ⟨m0, m1, m2, m3, m4⟩ := box5f hpw24.out
              have n0 := frozen_heap hpw24.out 0
              have n1 := frozen_heap hpw24.out 1
              have n2 := frozen_heap hpw24.out 2
              have n3 := frozen_heap hpw24.out 3
              have n4 := frozen_heap hpw24.out 4
              go_wp2_with fail
              have hq9 := box5_same (u0 := .int .i64 0) (u1 := .int .i64 0) (u2 := .string ⟨#[]⟩) (u3 := .slice none 0 0) (u4 := .slice none 0 0) hpw24.out
              have hb9 := b_box5 hbw24.out (q := w.heap.size) (Nat.le_refl _) (.int .i64 0) (.int .i64 0) (.string ⟨#[]⟩) (.slice none 0 0) (.slice none 0 0)
              obtain ⟨k0, k1, k2, k3, k4⟩ := box5f hq9
              unfold World.box5 at k0 k1 k2 k3 k4 hb9
              (try simp only [Exit.inBlock, Exit.then])
              refine bodyPost_ret (by simp [results, Try.results11, go_sem, k0, k1, k2, k3, k4]; try rfl) rfl ?_
              exact od_no hX.out hb9
            · replace hX := hid (odR_ok hX.out hr0)
              have hdrop : (r2.drop 32).length = r2.length - 32 := List.length_drop
              have qr : decide (0 < ((r2.length - 32 : Nat) : Int)) = false := decide_eq_false (by omega)
              have fz : Hid (∀ w, RB w (.slice none 0 0) [] → RP w (.slice none 0 0) [] → Calls Try.prog 51 #[.agg #[.int .i64 k, .int .i64 n, .string d32, .slice none 0 0, .slice none 0 0]] w fun e w' => e = .returned (.int .i64 (ordFault ⟨k, n, d32, [], []⟩)) ∧ Below w.heap.size w w') := hid fun w g1 g2 => ref_OrderFault ⟨k, n, d32, [], []⟩ (.slice none 0 0) (.slice none 0 0) w g1 g2 hz32
              have zb9 := hid fun z (h : ordFault ⟨k, n, d32, [], []⟩ = z) (he : z ≠ 0) => odC_bad hX.out h he
              have zo9 := hid fun (h : ordFault ⟨k, n, d32, [], []⟩ = 0) => odC_ok hX.out h
              generalize hof9 : ordFault ⟨k, n, d32, [], []⟩ = z at *
              clear hX hof9
              obtain ⟨o0, o1, o2, o3, o4⟩ := box5f how24.out
              go_wp2_with fail
              clear o0 o1 o2 o3 o4
              ((with_reducible refine (fz.out _ RS.nil RS.nil).mono ?_); rintro e9 w10 ⟨rfl, b10⟩)
              have hpK := hid (stays b10 hpw24.out)
              have hoK := hid (stays b10 how24.out)
              have hbK := hid (b_call hbw24.out b10)
              clear hpw24 how24 hbw24 b10
              clear fz
              by_cases hz : z = 0
              · subst hz
                have hX := hid (zo9.out rfl)
                clear zb9 zo9
                obtain ⟨o0, o1, o2, o3, o4⟩ := box5f hoK.out
                obtain ⟨m0, m1, m2, m3, m4⟩ := box5f hpK.out
                have n0 := frozen_heap hpK.out 0
                have n1 := frozen_heap hpK.out 1
                have n2 := frozen_heap hpK.out 2
                have n3 := frozen_heap hpK.out 3
                have n4 := frozen_heap hpK.out 4
                go_wp2_with fail
                have hq9 := box5_same (u0 := .int .i64 k) (u1 := .int .i64 n) (u2 := .string d32) (u3 := .slice none 0 0) (u4 := .slice none 0 0) hpK.out
                have hb9 := b_box5 hbK.out (q := w.heap.size) (Nat.le_refl _) (.int .i64 k) (.int .i64 n) (.string d32) (.slice none 0 0) (.slice none 0 0)
                obtain ⟨k0, k1, k2, k3, k4⟩ := box5f hq9
                unfold World.box5 at k0 k1 k2 k3 k4 hb9
                (try simp only [Exit.inBlock, Exit.then])
                refine bodyPost_ret (by simp [results, Try.results11, go_sem, k0, k1, k2, k3, k4]; try rfl) rfl ?_
                exact od_ok hX.out (RS.nil) (RS.nil) hb9
              · have hX := hid (zb9.out z rfl hz)
                have tz : (z != 0) = true := by simp [hz]
                clear zb9 zo9
                replace hz := hid hz
                obtain ⟨m0, m1, m2, m3, m4⟩ := box5f hpK.out
                have n0 := frozen_heap hpK.out 0
                have n1 := frozen_heap hpK.out 1
                have n2 := frozen_heap hpK.out 2
                have n3 := frozen_heap hpK.out 3
                have n4 := frozen_heap hpK.out 4
                go_wp2_with fail
                have hq9 := box5_same (u0 := .int .i64 0) (u1 := .int .i64 0) (u2 := .string ⟨#[]⟩) (u3 := .slice none 0 0) (u4 := .slice none 0 0) hpK.out
                have hb9 := b_box5 hbK.out (q := w.heap.size) (Nat.le_refl _) (.int .i64 0) (.int .i64 0) (.string ⟨#[]⟩) (.slice none 0 0) (.slice none 0 0)
                obtain ⟨k0, k1, k2, k3, k4⟩ := box5f hq9
                unfold World.box5 at k0 k1 k2 k3 k4 hb9
                (try simp only [Exit.inBlock, Exit.then])
                refine bodyPost_ret (by simp [results, Try.results11, go_sem, k0, k1, k2, k3, k4]; try rfl) rfl ?_
                exact od_no hX.out hb9
        · have hX := hid (zb2.out n r2 e2 rfl he2)
          have t2 : (e2 != 0) = true := by simp [he2]
          have t2' : (e2 == 0) = false := by simp [he2]
          clear zb2 zo2 hwd hwb hwp
          replace he2 := hid he2
          obtain ⟨o0, o1, o2, o3, o4⟩ := box5f hoB.out
          have q1 := frozen_heap hoB.out 1
          obtain ⟨m0, m1, m2, m3, m4⟩ := box5f hpB.out
          have n0 := frozen_heap hpB.out 0
          have n1 := frozen_heap hpB.out 1
          have n2 := frozen_heap hpB.out 2
          have n3 := frozen_heap hpB.out 3
          have n4 := frozen_heap hpB.out 4
          have hpZ := hid (box_other (q := w2.heap.size) (o := 1) (u := .int .i64 n) hpB.out (by omega))
          have hbZ := hid (b_set hbB.out (p := ⟨w2.heap.size, 1, none⟩) (show w.heap.size ≤ w2.heap.size by omega) (.int .i64 n))
          go_wp2_with fail
          clear o0 o1 o2 o3 o4 q1 m0 m1 m2 m3 m4 n0 n1 n2 n3 n4
          have hq9 := box5_same (u0 := .int .i64 0) (u1 := .int .i64 0) (u2 := .string ⟨#[]⟩) (u3 := .slice none 0 0) (u4 := .slice none 0 0) hpZ.out
          have hb9 := b_box5 hbZ.out (q := w.heap.size) (Nat.le_refl _) (.int .i64 0) (.int .i64 0) (.string ⟨#[]⟩) (.slice none 0 0) (.slice none 0 0)
          obtain ⟨k0, k1, k2, k3, k4⟩ := box5f hq9
          unfold World.box5 at k0 k1 k2 k3 k4 hb9
          (try simp only [Exit.inBlock, Exit.then])
          refine bodyPost_ret (by simp [results, Try.results11, go_sem, k0, k1, k2, k3, k4]; try rfl) rfl ?_
          exact od_no hX.out hb9
    · have hk2 : isKind k = false := by simpa using hk
      have hX := hid (zn.out k r rfl hk2)
      clear zb zn zk hk hpart
      have hno := hasS_none k
      rw [hk2, Bool.not_false] at hno
      generalize hasS k = hs at *
      go_enter Try.func11, Try.ntmps11
      go_wp2_with fail
      ((with_reducible refine (f1.out _ (hR.out.mono EU8.stable (b_alloc (Below.refl w.heap.size w) (Obj.cells #[.int .i64 0, .int .i64 0, .string ⟨#[]⟩, .slice none 0 0, .slice none 0 0] 31)))).mono ?_); rintro e1 w1 ⟨v1, rfl, r1, b1⟩)
      have hq_p_1 := hid (stays b1 (heap_alloc_new w (Obj.cells #[.int .i64 0, .int .i64 0, .string ⟨#[]⟩, .slice none 0 0, .slice none 0 0] 31)))
      have hb1 := hid (b_call (b_alloc (Below.refl w.heap.size w) (Obj.cells #[.int .i64 0, .int .i64 0, .string ⟨#[]⟩, .slice none 0 0, .slice none 0 0] 31)) b1)
      have r_r_1 := hid r1
      clear r1 b1
      obtain ⟨a1, c1, rfl, -⟩ := id r_r_1.out
      go_wp2_with fail
      ((with_reducible refine (hhas.out _).mono ?_); rintro e2 w2 ⟨rfl, b2⟩)
      have hq_p_2 := hid (stays b2 hq_p_1.out)
      have hb2 := hid (b_call hb1.out b2)
      have r_r_2 := hid (r_r_1.out.mono EU8.stable (b_call (Below.refl w1.heap.size w1) b2))
      clear hq_p_1 hb1 r_r_1 b2
      clear hwn hwd hwb hwp
      obtain ⟨m0, m1, m2, m3, m4⟩ := box5f hq_p_2.out
      have n0 := frozen_heap hq_p_2.out 0
      have n1 := frozen_heap hq_p_2.out 1
      have n2 := frozen_heap hq_p_2.out 2
      have n3 := frozen_heap hq_p_2.out 3
      have n4 := frozen_heap hq_p_2.out 4
      go_wp2_with fail
      have hq9 := box5_same (u0 := .int .i64 0) (u1 := .int .i64 0) (u2 := .string ⟨#[]⟩) (u3 := .slice none 0 0) (u4 := .slice none 0 0) hq_p_2.out
      have hb9 := b_box5 hb2.out (q := w.heap.size) (Nat.le_refl _) (.int .i64 0) (.int .i64 0) (.string ⟨#[]⟩) (.slice none 0 0) (.slice none 0 0)
      obtain ⟨k0, k1, k2, k3, k4⟩ := box5f hq9
      unfold World.box5 at k0 k1 k2 k3 k4 hb9
      (try simp only [Exit.inBlock, Exit.then])
      refine bodyPost_ret (by simp [results, Try.results11, go_sem, k0, k1, k2, k3, k4]; try rfl) rfl ?_
      exact od_no hX.out hb9
  · have hX := hid (zb.out k r e rfl he)
    have t1 : (e != 0) = true := by simp [he]
    clear zb zn zk hpart
    replace he := hid he
    go_enter Try.func11, Try.ntmps11
    go_wp2_with fail
    ((with_reducible refine (f1.out _ (hR.out.mono EU8.stable (b_alloc (Below.refl w.heap.size w) (Obj.cells #[.int .i64 0, .int .i64 0, .string ⟨#[]⟩, .slice none 0 0, .slice none 0 0] 31)))).mono ?_); rintro e1 w1 ⟨v1, rfl, r1, b1⟩)
    have hq_p_1 := hid (stays b1 (heap_alloc_new w (Obj.cells #[.int .i64 0, .int .i64 0, .string ⟨#[]⟩, .slice none 0 0, .slice none 0 0] 31)))
    have hb1 := hid (b_call (b_alloc (Below.refl w.heap.size w) (Obj.cells #[.int .i64 0, .int .i64 0, .string ⟨#[]⟩, .slice none 0 0, .slice none 0 0] 31)) b1)
    have r_r_1 := hid r1
    clear r1 b1
    obtain ⟨a1, c1, rfl, -⟩ := id r_r_1.out
    obtain ⟨m0, m1, m2, m3, m4⟩ := box5f hq_p_1.out
    have n0 := frozen_heap hq_p_1.out 0
    have n1 := frozen_heap hq_p_1.out 1
    have n2 := frozen_heap hq_p_1.out 2
    have n3 := frozen_heap hq_p_1.out 3
    have n4 := frozen_heap hq_p_1.out 4
    go_wp2_with fail
    have hq9 := box5_same (u0 := .int .i64 0) (u1 := .int .i64 0) (u2 := .string ⟨#[]⟩) (u3 := .slice none 0 0) (u4 := .slice none 0 0) hq_p_1.out
    have hb9 := b_box5 hb1.out (q := w.heap.size) (Nat.le_refl _) (.int .i64 0) (.int .i64 0) (.string ⟨#[]⟩) (.slice none 0 0) (.slice none 0 0)
    obtain ⟨k0, k1, k2, k3, k4⟩ := box5f hq9
    unfold World.box5 at k0 k1 k2 k3 k4 hb9
    (try simp only [Exit.inBlock, Exit.then])
    refine bodyPost_ret (by simp [results, Try.results11, go_sem, k0, k1, k2, k3, k4]; try rfl) rfl ?_
    exact od_no hX.out hb9
end Go.Proofs.Ytojebioolflbkaa
