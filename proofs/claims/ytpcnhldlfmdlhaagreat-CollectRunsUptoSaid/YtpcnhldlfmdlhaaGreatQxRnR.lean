/-
  CollectRun: what it answers. Printed by gen_run.py.
-/
import Derived.Test.YtpcnhldlfmdlhaaGreatQxRnI
import Derived.Test.YtpcnhldlfmdlhaaGreatQxRnO
import Derived.Test.YtpcnhldlfmdlhaaGreatQxChn
import Derived.Test.YtpcnhldlfmdlhaaGreatQxBrL
namespace Go.Proofs.YtpcnhldlfmdlhaaGreat
open Go.RowKit Go.Maps

set_option maxRecDepth 100000 in
set_option maxHeartbeats 16000000 in
theorem ref_CollectRun' (v u gv : Value) (bs : List Blob) (es : List Entry) (r t ph : Int) (pl : ByteArray) (gy : List ByteArray) (w : World) (h : RBl w v bs) (g : RE w u es) (hg : RT w gv gy) (z : Int) (hgl : z = 0 → mea ⟨bs, es, r, t⟩ ⟨ph, gy, pl⟩ ≤ 4194304) (hpl : pl.size ≤ 140737488351232) (hgy : gy.length ≤ 8388608) (hz2 : z = 0 → 0 ≤ ph)
    (hch : ∀ w, RBl w v bs → RE w u es → RT w gv gy → Calls Tryz.prog 53 #[.agg #[v, u, .int .i64 r, .int .i64 t], .agg #[.int .i64 ph, gv, .string pl]] w fun e w' => e = .returned (.int .i64 z) ∧ Below w.heap.size w w')
    (htk : ∀ v u gv S C w, RBl w v S.blobs → RE w u S.entries → RT w gv C.grey → C.grey.length ≤ 8388608 → C.place.size ≤ 140737488351232 → Calls Tryz.prog 55 #[.agg #[v, u, .int .i64 S.room, .int .i64 S.clock], .agg #[.int .i64 C.phase, gv, .string C.place]] w (CoResD (tkO S C) (tkG S C) w)) :
    Calls Tryz.prog 21 #[.agg #[v, u, .int .i64 r, .int .i64 t], .agg #[.int .i64 ph, gv, .string pl]] w (RunRes (runOut z ⟨bs, es, r, t⟩ ⟨ph, gy, pl⟩) w) := by
  replace hch := hid hch
  unfold CoResD VS at htk
  replace htk := hid htk
  have hR := hid h
  have hE := hid g
  have hG := hid hg
  have hf1 := hid (fit_B h)
  have hf2 := hid (fit_E g)
  obtain ⟨a, c, rfl, -, -, hre, -⟩ := h
  obtain ⟨a2, c2, rfl, -, -, hre2, -⟩ := g
  obtain ⟨ga, gc, rfl, -⟩ := hg
  obtain ⟨i0, ii0, iz0, iz1, iz2⟩ := info_parts info_str
  by_cases hz : z = 0
  · subst hz
    have hd := hid (run_go (S := ⟨bs, es, r, t⟩) (C := ⟨ph, gy, pl⟩))
    replace hz2 := hid (hz2 rfl)
    replace hgl := hgl rfl
    generalize runOut 0 ⟨bs, es, r, t⟩ ⟨ph, gy, pl⟩ = R at *
    go_enter Tryz.func21, Tryz.ntmps21
    go_wp2_with fail
    ((with_reducible refine (hch.out _ (hR.out.mono EBlob.stable (b_alloc (b_alloc (b_alloc (Below.refl w.heap.size w) _) _) _)) (hE.out.mono EEntry.stable (b_alloc (b_alloc (b_alloc (Below.refl w.heap.size w) _) _) _)) (hG.out.mono EStr.stable (b_alloc (b_alloc (b_alloc (Below.refl w.heap.size w) _) _) _))).mono ?_); rintro e1 w1 ⟨rfl, b1⟩)
    have hq_q_1 := hid (stays b1 (hold (hold (heap_put w _ (w.heap.size) (by simp)))))
    have hq_k_1 := hid (stays b1 (hold (heap_put _ _ (w.heap.size + 1) (by simp))))
    have hq_p_1 := hid (stays b1 (heap_put _ _ (w.heap.size + 1 + 1) (by simp)))
    have hb1 := hid (b_call (b_alloc (b_alloc (b_alloc (Below.refl w.heap.size w) _) _) _) b1)
    have r_R_1 := hid (hR.out.mono EBlob.stable (b_call (b_alloc (b_alloc (b_alloc (Below.refl w.heap.size w) _) _) _) b1))
    have r_E_1 := hid (hE.out.mono EEntry.stable (b_call (b_alloc (b_alloc (b_alloc (Below.refl w.heap.size w) _) _) _) b1))
    have r_G_1 := hid (hG.out.mono EStr.stable (b_call (b_alloc (b_alloc (b_alloc (Below.refl w.heap.size w) _) _) _) b1))
    clear b1
    obtain ⟨x_q_0, x_q_1, x_q_2, x_q_3⟩ := box4f hq_q_1.out
    obtain ⟨x_k_0, x_k_1, x_k_2, -⟩ := box3f hq_k_1.out
    go_wp2_with fail
    ((with_reducible refine (ref_StoreCopyO _ _ bs es r t _ r_R_1.out r_E_1.out).mono ?_); rintro e2 w2 ⟨v2, u2, rfl, o1, o2, b2⟩)
    clear x_q_0 x_q_1 x_q_2 x_q_3 x_k_0 x_k_1 x_k_2
    have hq_q_2 := hid (stays b2 hq_q_1.out)
    have hq_k_2 := hid (stays b2 hq_k_1.out)
    have hq_p_2 := hid (stays b2 hq_p_1.out)
    have hb2 := hid (b_call hb1.out b2)
    have r_R_2 := hid (r_R_1.out.mono EBlob.stable (b_call (Below.refl w1.heap.size w1) b2))
    have r_E_2 := hid (r_E_1.out.mono EEntry.stable (b_call (Below.refl w1.heap.size w1) b2))
    have r_G_2 := hid (r_G_1.out.mono EStr.stable (b_call (Below.refl w1.heap.size w1) b2))
    replace o1 := hid o1
    replace o2 := hid o2
    clear hq_q_1 hq_k_1 hq_p_1 hb1 r_R_1 r_E_1 r_G_1 b2
    obtain ⟨va, vc, rfl⟩ := OX.lenOf o1.out
    obtain ⟨ua, uc, rfl⟩ := OX.lenOf o2.out
    obtain ⟨x_q_0, x_q_1, x_q_2, x_q_3⟩ := box4f hq_q_2.out
    obtain ⟨x_k_0, x_k_1, x_k_2, -⟩ := box3f hq_k_2.out
    go_upto_region 5 with fail
    have ho3 := heap_alloc_new w2 (Obj.cells #[.slice va bs.length vc, .slice ua es.length uc, .int .i64 r, .int .i64 t] 29)
    have hk3 := alloc_keep (o := Obj.cells #[.slice va bs.length vc, .slice ua es.length uc, .int .i64 r, .int .i64 t] 29) hq_k_2.out
    have hp3 := alloc_keep (o := Obj.cells #[.slice va bs.length vc, .slice ua es.length uc, .int .i64 r, .int .i64 t] 29) hq_p_2.out
    have hb3 := b_alloc hb2.out (Obj.cells #[.slice va bs.length vc, .slice ua es.length uc, .int .i64 r, .int .i64 t] 29)
    have rb3 := RS.al EBlob.stable (o1.out.toR hre hf1.out) (Obj.cells #[.slice va bs.length vc, .slice ua es.length uc, .int .i64 r, .int .i64 t] 29)
    have re3 := RS.al EEntry.stable (o2.out.toR hre2 hf2.out) (Obj.cells #[.slice va bs.length vc, .slice ua es.length uc, .int .i64 r, .int .i64 t] 29)
    have rg3 := RS.al EStr.stable r_G_2.out (Obj.cells #[.slice va bs.length vc, .slice ua es.length uc, .int .i64 r, .int .i64 t] 29)
    have hs2 : w.heap.size + 2 < w2.heap.size := heap_lt hq_p_2.out
    have hrel0 : Hid (RunRel w w2.heap.size R (.slice none 0 0) (w2.alloc (Obj.cells #[.slice va bs.length vc, .slice ua es.length uc, .int .i64 r, .int .i64 t] 29)) (mea ⟨bs, es, r, t⟩ ⟨ph, gy, pl⟩)) :=
      hid ⟨⟨bs, es, r, t⟩, ⟨ph, gy, pl⟩, [], va, vc, ua, uc, ga, gc, Nat.le_refl _, hd.out.symm, by simpa using hgl, (fun s hs => by cases hs), hgy, hpl, hz2.out, ho3, hk3, hp3, rb3, re3, rg3, OStr.nil, hb3⟩
    clear x_q_0 x_q_1 x_q_2 x_q_3 x_k_0 x_k_1 x_k_2 ho3 hk3 hp3 hb3 rb3 re3 rg3 o1 o2 hq_q_2 hq_k_2 hq_p_2 hb2 r_R_2 r_E_2 r_G_2 hd hR hE hG hf1 hf2 hch
    generalize w2.alloc (Obj.cells #[.slice va bs.length vc, .slice ua es.length uc, .int .i64 r, .int .i64 t] 29) = w3 at *
    generalize w2.heap.size = q8 at *
    generalize mea ⟨bs, es, r, t⟩ ⟨ph, gy, pl⟩ = n0 at *
    go_wp2_with fail
    go_loopw [9, 10, 11, 12, 13] (fun g9 _ _ _ _ wr => Hid (∃ n : Nat, RunRel w q8 R g9 wr n)) (fun g9 _ _ _ _ wr => leastN (fun n => RunRel w q8 R g9 wr n))
    case atStart => exact hid ⟨n0, hrel0.out⟩
    case round =>
      have hspec := least_spec hrel.out
      obtain ⟨N, hN⟩ : ∃ N, N = leastN (fun n => RunRel w q8 R u9 wr n) := ⟨_, rfl⟩
      rw [← hN] at hspec
      replace hN := hid hN
      obtain ⟨S, C, l, va, vc, ua, uc, ga, gc, hm, hrun, hll, hls, hgl', hpl', hph0, ho, hk, hp, rb, re, rg, og, hb⟩ := hspec
      have hq8 : q8 < wr.heap.size := heap_lt ho
      have hkk : w.heap.size + 1 < wr.heap.size := heap_lt hk
      have hpp : w.heap.size + 1 + 1 < wr.heap.size := heap_lt hp
      have hbt := hid (fun (s : ByteArray) => dig_size (s := s) rb)
      have hg9 := hid (OS.lt og.1)
      replace hls := hid hls
      replace ho := hid ho
      replace hk := hid hk
      replace hp := hid hp
      replace rb := hid rb
      replace re := hid re
      replace rg := hid rg
      replace og := hid og
      replace hb := hid hb
      replace hrun := hid hrun
      by_cases hz0 : C.phase = 0
      · have hR2 := hid (show (⟨0, S, C, l⟩ : Rn) = R by rw [← hrun.out, runF_end hz0])
        have q1 : (C.phase != 0) = false := by simp [hz0]
        have q2 : decide (0 < C.phase) = false := by simp [hz0]
        replace hz0 := hid hz0
        obtain ⟨x0, x1, x2, x3⟩ := box4f ho.out
        obtain ⟨y0, y1, y2, -⟩ := box3f hk.out
        obtain ⟨p0, p1, p2, p3⟩ := box4f hp.out
        have g0 := frozen_heap hp.out 0
        have g1 := frozen_heap hp.out 1
        have g2 := frozen_heap hp.out 2
        have g3 := frozen_heap hp.out 3
        have hlb : l.length * 16 ≤ 140737488351232 := by omega
        clear hrel hrun hm htk
        go_wp2_with fail
        have hp9 := box4_same (u0 := .slice va S.blobs.length vc) (u1 := .slice ua S.entries.length uc) (u2 := .int .i64 S.room) (u3 := .int .i64 S.clock) hp.out
        have hb9 := b_box4 hb.out (q := w.heap.size + 1 + 1) (by omega) (.slice va S.blobs.length vc) (.slice ua S.entries.length uc) (.int .i64 S.room) (.int .i64 S.clock)
        have rl9 := rb.out.box4 EBlob.writes ⟨_, _, _, _, _, _, _, _, hp.out⟩ va S.blobs.length vc ua S.entries.length uc S.room S.clock
        have re9 := re.out.box4 EEntry.writes ⟨_, _, _, _, _, _, _, _, hp.out⟩ va S.blobs.length vc ua S.entries.length uc S.room S.clock
        have os9 := OS.boxS4 (u0 := .slice va S.blobs.length vc) (u1 := .slice ua S.entries.length uc) (u2 := .int .i64 S.room) (u3 := .int .i64 S.clock) og.out.1 hp.out (by decide)
        have rt9 := reads_str os9 hlb hls.out
        unfold World.box4 at rl9 re9 os9 rt9
        obtain ⟨m0, m1, m2, m3⟩ := box4f hp9
        unfold World.box4 at m0 m1 m2 m3 hb9
        (try simp only [Exit.inBlock, Exit.then])
        refine bodyPost_ret (by simp [results, Tryz.results21, go_sem, m0, m1, m2, m3]; try rfl) rfl ?_
        exact run_ok hR2.out rl9 re9 rt9 os9 hb9
      · have q1 : (C.phase != 0) = true := by simp [hz0]
        have q2 : decide (0 < C.phase) = true := by simp; omega
        have hT := hid (fun (h0 : (tkO S C).err = 0) => And.intro (tick_ok hz0 h0).less (And.intro (tick_ok hz0 h0).grey (And.intro (tick_ok hz0 h0).fewer (And.intro (tick_ok hz0 h0).phase (And.intro (tick_ok hz0 h0).place (tick_ok hz0 h0).gone)))))
        have hE := hid (fun (h0 : (tkO S C).err ≠ 0) => runF_err (l := l) hm hz0 h0)
        have hX := hid (fun (h0 : (tkO S C).err = 0) => runF_next (l := l) hm hz0 h0)
        have hK := hid (htk.out (.slice va S.blobs.length vc) (.slice ua S.entries.length uc) (.slice ga C.grey.length gc) S C wr rb.out re.out rg.out hgl' hpl')
        replace hz0 := hid hz0
        obtain ⟨x0, x1, x2, x3⟩ := box4f ho.out
        obtain ⟨y0, y1, y2, -⟩ := box3f hk.out
        generalize tkO S C = O at *
        generalize tkG S C = d at *
        obtain ⟨er, ⟨B1, E1, r1, t1⟩, ⟨p1, G1, s1⟩⟩ := O
        simp only at hT hE hX hK
        clear hrel htk
        go_wp2_with fail
        ((with_reducible refine hK.out.mono ?_); rintro e w5 ⟨_, g5, rfl, ⟨A1, D1, rfl, rA, rD⟩, rN, oN, b5⟩)
        have ho5 := hid (stays b5 ho.out)
        have hk5 := hid (stays b5 hk.out)
        have hp5 := hid (stays b5 hp.out)
        have hb5 := hid (b_call hb.out b5)
        have og5 := hid (OStr.below og.out b5)
        have hs5 := b5.size
        have oN5 := hid oN
        obtain ⟨xa, xc, rfl, -⟩ := id rA
        obtain ⟨ya, yc, rfl, -⟩ := id rD
        obtain ⟨na, nc, rfl, -⟩ := id rN
        have bt := hid (And.intro (rt_bound rN) (rt_sizes rN))
        replace rA := hid rA
        replace rD := hid rD
        clear oN x0 x1 x2 x3 y0 y1 y2 ho hk hp hb og b5 rN hK rb re rg
        obtain ⟨x0, x1, x2, x3⟩ := box4f ho5.out
        obtain ⟨y0, y1, y2, -⟩ := box3f hk5.out
        go_upto_region 8 with fail
        have hx6 := hid (alloc_keep (o := Obj.cells #[.int .i64 p1, .slice na G1.length nc, .string s1] 32) (heap_alloc_new w5 (Obj.cells #[.slice xa B1.length xc, .slice ya E1.length yc, .int .i64 r1, .int .i64 t1] 29)))
        have hn6 := hid (heap_put (w5.alloc (Obj.cells #[.slice xa B1.length xc, .slice ya E1.length yc, .int .i64 r1, .int .i64 t1] 29)) (Obj.cells #[.int .i64 p1, .slice na G1.length nc, .string s1] 32) (w5.heap.size + 1) (by simp))
        have ho6 := hid (alloc_keep (o := Obj.cells #[.int .i64 p1, .slice na G1.length nc, .string s1] 32) (alloc_keep (o := Obj.cells #[.slice xa B1.length xc, .slice ya E1.length yc, .int .i64 r1, .int .i64 t1] 29) ho5.out))
        have hk6 := hid (alloc_keep (o := Obj.cells #[.int .i64 p1, .slice na G1.length nc, .string s1] 32) (alloc_keep (o := Obj.cells #[.slice xa B1.length xc, .slice ya E1.length yc, .int .i64 r1, .int .i64 t1] 29) hk5.out))
        have hp6 := hid (alloc_keep (o := Obj.cells #[.int .i64 p1, .slice na G1.length nc, .string s1] 32) (alloc_keep (o := Obj.cells #[.slice xa B1.length xc, .slice ya E1.length yc, .int .i64 r1, .int .i64 t1] 29) hp5.out))
        have hb6 := hid (b_alloc (b_alloc hb5.out (Obj.cells #[.slice xa B1.length xc, .slice ya E1.length yc, .int .i64 r1, .int .i64 t1] 29)) (Obj.cells #[.int .i64 p1, .slice na G1.length nc, .string s1] 32))
        have rb6 := hid (RS.al EBlob.stable (RS.al EBlob.stable rA.out (Obj.cells #[.slice xa B1.length xc, .slice ya E1.length yc, .int .i64 r1, .int .i64 t1] 29)) (Obj.cells #[.int .i64 p1, .slice na G1.length nc, .string s1] 32))
        have re6 := hid (RS.al EEntry.stable (RS.al EEntry.stable rD.out (Obj.cells #[.slice xa B1.length xc, .slice ya E1.length yc, .int .i64 r1, .int .i64 t1] 29)) (Obj.cells #[.int .i64 p1, .slice na G1.length nc, .string s1] 32))
        have oN6 := hid (OS.alloc (OS.alloc oN5.out (Obj.cells #[.slice xa B1.length xc, .slice ya E1.length yc, .int .i64 r1, .int .i64 t1] 29)) (Obj.cells #[.int .i64 p1, .slice na G1.length nc, .string s1] 32))
        have og6 := hid (OStr.alloc (OStr.alloc og5.out (Obj.cells #[.slice xa B1.length xc, .slice ya E1.length yc, .int .i64 r1, .int .i64 t1] 29)) (Obj.cells #[.int .i64 p1, .slice na G1.length nc, .string s1] 32))
        have hs6 : w5.heap.size + 2 = ((w5.alloc (Obj.cells #[.slice xa B1.length xc, .slice ya E1.length yc, .int .i64 r1, .int .i64 t1] 29)).alloc (Obj.cells #[.int .i64 p1, .slice na G1.length nc, .string s1] 32)).heap.size := by simp
        replace hs6 := Nat.le_of_eq hs6
        generalize (w5.alloc (Obj.cells #[.slice xa B1.length xc, .slice ya E1.length yc, .int .i64 r1, .int .i64 t1] 29)).alloc (Obj.cells #[.int .i64 p1, .slice na G1.length nc, .string s1] 32) = w6 at *
        clear x0 x1 x2 x3 y0 y1 y2 ho5 hk5 hp5 hb5 og5 oN5 rA rD
        obtain ⟨x0, x1, x2, x3⟩ := box4f hx6.out
        obtain ⟨n0', n1, n2, -⟩ := box3f hn6.out
        by_cases her : er = 0
        · subst her
          obtain ⟨m, hm1, hm2, hrn⟩ := hX.out rfl
          obtain ⟨hless, hgrey, hfew, hphs, hplc, hgon⟩ := hT.out rfl
          have hs1 := hbt.out _ hplc
          have hds := hbt.out _ hgon
          have hmN : m < N := by omega
          have hrn2 := hid (hrun.out.symm.trans hrn)
          replace hfew := hid hfew
          clear hT hE hX hrun hrn hm1 hless hm hgon hplc
          obtain ⟨o0, o1, o2, o3⟩ := box4f ho6.out
          obtain ⟨k0, k1, k2, -⟩ := box3f hk6.out
          by_cases hB : B1.length < S.blobs.length
          · have hdz : ¬ d.size = 0 := fun h => (hfew.out.1 h) hB
            have qB : decide (B1.length < S.blobs.length) = true := decide_eq_true hB
            have hr3 := hid (show runF m ⟨B1, E1, r1, t1⟩ ⟨p1, G1, s1⟩ (l ++ [d]) = R by rw [hrn2.out, if_neg hdz])
            replace hB := hid hB
            have hrow := row_one (s := 1) (bs := 16) (cells := cStr) w6 9 d #[.string d] w6.heap.size rfl rfl (by decide)
            have hsz6 : w.heap.size ≤ w6.heap.size := hb6.out.size
            go_wp2_with (at_builtin; go_must (refine wpList_append_str flat_rstr rfl (.tmp 45) (.tmp 47) 30 rfl 9 i0 Tryz.underlying30 ii0 iz0 iz1 iz2 w.heap.size _ l rfl (OStr.alloc og6.out _) _ [d] rfl hrow (by simp) ?c1 ?c2 ?c3 ?_))
            case c1 => simp only [List.length_cons, List.length_nil]; omega
            case c2 => simp only [List.length_cons, List.length_nil, maxLen]; omega
            case c3 => simp; omega
            intro v8 w8 og8 hg8
            have hga : ∀ g, u9.ownBlock = some g → AllStr (w6.alloc (Obj.cells #[.string d] 9)) g := (OStr.alloc og6.out _).2
            have hsl := hls.out
            have hl8 : Hid (∀ s ∈ l ++ [d], s.size ≤ 140737488351232) := hid (fun s hs => by rcases List.mem_append.1 hs with hs | hs; exact hsl s hs; rw [List.mem_singleton.1 hs]; exact hds)
            have hx8 := hid (grown_heap hg8 (OS.alloc og6.out.1 _) (hold hx6.out) (by decide))
            have hn8 := hid (grown_heap hg8 (OS.alloc og6.out.1 _) (hold hn6.out) (by decide))
            have ho8 := hid (grown_heap hg8 (OS.alloc og6.out.1 _) (hold ho6.out) (by decide))
            have hk8 := hid (grown_heap hg8 (OS.alloc og6.out.1 _) (hold hk6.out) (by decide))
            have hp8 := hid (grown_heap hg8 (OS.alloc og6.out.1 _) (hold hp6.out) (by decide))
            have rb8 := hid (RS.grown (fun _ _ _ => EBlob.grown hg8 hga) (RS.al EBlob.stable rb6.out _) hg8.size)
            have re8 := hid (RS.grown (fun _ _ _ => EEntry.grown hg8 hga) (RS.al EEntry.stable re6.out _) hg8.size)
            have oN8 := hid (OS.grownLater hg8 (OS.alloc oN6.out _) hg9.out)
            have hb8 := hid (b_grown (b_alloc hb6.out _) hg8 (OS.block og6.out.1))
            replace og8 := hid og8
            clear hg8 hrow hga hsl o0 o1 o2 o3 k0 k1 k2 x0 x1 x2 x3 n0' n1 n2 hx6 hn6 ho6 hk6 hp6 hb6 rb6 re6 oN6 og6
            obtain ⟨x0, x1, x2, x3⟩ := box4f hx8.out
            obtain ⟨n0', n1, n2, -⟩ := box3f hn8.out
            obtain ⟨o0, o1, o2, o3⟩ := box4f ho8.out
            obtain ⟨k0, k1, k2, -⟩ := box3f hk8.out
            have g0 := frozen_heap ho8.out 0
            have g1 := frozen_heap ho8.out 1
            have g2 := frozen_heap ho8.out 2
            have g3 := frozen_heap ho8.out 3
            have kf0 := frozen_heap hk8.out 0
            have kf1 := frozen_heap hk8.out 1
            have kf2 := frozen_heap hk8.out 2
            have ho7 := hid ((box3_other (q := w.heap.size + 1) (u0 := .int .i64 p1) (u1 := .slice na G1.length nc) (u2 := .string s1) (box4_same (u0 := .slice xa B1.length xc) (u1 := .slice ya E1.length yc) (u2 := .int .i64 r1) (u3 := .int .i64 t1) ho8.out) (by omega)))
            have hk7 := hid ((box3_same (u0 := .int .i64 p1) (u1 := .slice na G1.length nc) (u2 := .string s1) (box4_other (q := q8) (u0 := .slice xa B1.length xc) (u1 := .slice ya E1.length yc) (u2 := .int .i64 r1) (u3 := .int .i64 t1) hk8.out (by omega))))
            have hp7 := hid ((box3_other (q := w.heap.size + 1) (u0 := .int .i64 p1) (u1 := .slice na G1.length nc) (u2 := .string s1) (box4_other (q := q8) (u0 := .slice xa B1.length xc) (u1 := .slice ya E1.length yc) (u2 := .int .i64 r1) (u3 := .int .i64 t1) hp8.out (by omega)) (by omega)))
            have hb7 := hid (bB_box3 (bB_box4 hb8.out (q := q8) (by omega) (.slice xa B1.length xc) (.slice ya E1.length yc) (.int .i64 r1) (.int .i64 t1)) (q := w.heap.size + 1) (by omega) (.int .i64 p1) (.slice na G1.length nc) (.string s1))
            have hkx := box4_other (q := q8) (u0 := .slice xa B1.length xc) (u1 := .slice ya E1.length yc) (u2 := .int .i64 r1) (u3 := .int .i64 t1) hk8.out (by omega)
            have rb7 := hid (((rb8.out.box4 EBlob.writes ⟨_, _, _, _, _, _, _, _, ho8.out⟩ xa B1.length xc ya E1.length yc r1 t1).box3 EBlob.writesC ⟨_, _, _, _, _, hkx⟩ p1 na G1.length nc s1))
            have re7 := hid (((re8.out.box4 EEntry.writes ⟨_, _, _, _, _, _, _, _, ho8.out⟩ xa B1.length xc ya E1.length yc r1 t1).box3 EEntry.writesC ⟨_, _, _, _, _, hkx⟩ p1 na G1.length nc s1))
            have oN7 := hid (OS.boxS3 (u0 := .int .i64 p1) (u1 := .slice na G1.length nc) (u2 := .string s1) (OS.boxS4 (u0 := .slice xa B1.length xc) (u1 := .slice ya E1.length yc) (u2 := .int .i64 r1) (u3 := .int .i64 t1) oN8.out ho8.out (by decide)) hkx (by decide))
            have og7 := hid (OStr.box3 (u0 := .int .i64 p1) (u1 := .slice na G1.length nc) (u2 := .string s1) (OStr.box4 (u0 := .slice xa B1.length xc) (u1 := .slice ya E1.length yc) (u2 := .int .i64 r1) (u3 := .int .i64 t1) og8.out ho8.out (by decide)) hkx (by decide))
            have rN7 := hid (reads_str oN7.out bt.out.1 bt.out.2)
            unfold World.box4 World.box3 at ho7 hk7 hp7 hb7 rb7 re7 oN7 og7 rN7
            have hfin := hid (show RunRel w q8 R v8 _ m from ⟨⟨B1, E1, r1, t1⟩, ⟨p1, G1, s1⟩, l ++ [d], xa, xc, ya, yc, na, nc, hm2, hr3.out, by simp only [List.length_append, List.length_cons, List.length_nil]; omega, hl8.out, by show G1.length ≤ 8388608; omega, hs1, hphs, ho7.out, hk7.out, hp7.out, rb7.out, re7.out, rN7.out, og7.out, hb7.out⟩)
            go_wp2_with fail
            go_roundw
            case rel => with_reducible exact hid ⟨m, hfin.out⟩
            case measure => rw [← hN.out]; exact least_lt (p := fun n => RunRel w q8 R v8 _ n) (hfin.out) hmN
          · have hdz : d.size = 0 := Classical.byContradiction fun h => hB (Classical.byContradiction fun h2 => h (hfew.out.2 h2))
            have qB : decide (B1.length < S.blobs.length) = false := decide_eq_false hB
            have hr3 := hid (show runF m ⟨B1, E1, r1, t1⟩ ⟨p1, G1, s1⟩ l = R by rw [hrn2.out, if_pos hdz])
            replace hB := hid hB
            have g0 := frozen_heap ho6.out 0
            have g1 := frozen_heap ho6.out 1
            have g2 := frozen_heap ho6.out 2
            have g3 := frozen_heap ho6.out 3
            have kf0 := frozen_heap hk6.out 0
            have kf1 := frozen_heap hk6.out 1
            have kf2 := frozen_heap hk6.out 2
            have ho7 := hid ((box3_other (q := w.heap.size + 1) (u0 := .int .i64 p1) (u1 := .slice na G1.length nc) (u2 := .string s1) (box4_same (u0 := .slice xa B1.length xc) (u1 := .slice ya E1.length yc) (u2 := .int .i64 r1) (u3 := .int .i64 t1) ho6.out) (by omega)))
            have hk7 := hid ((box3_same (u0 := .int .i64 p1) (u1 := .slice na G1.length nc) (u2 := .string s1) (box4_other (q := q8) (u0 := .slice xa B1.length xc) (u1 := .slice ya E1.length yc) (u2 := .int .i64 r1) (u3 := .int .i64 t1) hk6.out (by omega))))
            have hp7 := hid ((box3_other (q := w.heap.size + 1) (u0 := .int .i64 p1) (u1 := .slice na G1.length nc) (u2 := .string s1) (box4_other (q := q8) (u0 := .slice xa B1.length xc) (u1 := .slice ya E1.length yc) (u2 := .int .i64 r1) (u3 := .int .i64 t1) hp6.out (by omega)) (by omega)))
            have hb7 := hid (bB_box3 (bB_box4 hb6.out (q := q8) (by omega) (.slice xa B1.length xc) (.slice ya E1.length yc) (.int .i64 r1) (.int .i64 t1)) (q := w.heap.size + 1) (by omega) (.int .i64 p1) (.slice na G1.length nc) (.string s1))
            have hkx := box4_other (q := q8) (u0 := .slice xa B1.length xc) (u1 := .slice ya E1.length yc) (u2 := .int .i64 r1) (u3 := .int .i64 t1) hk6.out (by omega)
            have rb7 := hid (((rb6.out.box4 EBlob.writes ⟨_, _, _, _, _, _, _, _, ho6.out⟩ xa B1.length xc ya E1.length yc r1 t1).box3 EBlob.writesC ⟨_, _, _, _, _, hkx⟩ p1 na G1.length nc s1))
            have re7 := hid (((re6.out.box4 EEntry.writes ⟨_, _, _, _, _, _, _, _, ho6.out⟩ xa B1.length xc ya E1.length yc r1 t1).box3 EEntry.writesC ⟨_, _, _, _, _, hkx⟩ p1 na G1.length nc s1))
            have oN7 := hid (OS.boxS3 (u0 := .int .i64 p1) (u1 := .slice na G1.length nc) (u2 := .string s1) (OS.boxS4 (u0 := .slice xa B1.length xc) (u1 := .slice ya E1.length yc) (u2 := .int .i64 r1) (u3 := .int .i64 t1) oN6.out ho6.out (by decide)) hkx (by decide))
            have og7 := hid (OStr.box3 (u0 := .int .i64 p1) (u1 := .slice na G1.length nc) (u2 := .string s1) (OStr.box4 (u0 := .slice xa B1.length xc) (u1 := .slice ya E1.length yc) (u2 := .int .i64 r1) (u3 := .int .i64 t1) og6.out ho6.out (by decide)) hkx (by decide))
            have rN7 := hid (reads_str oN7.out bt.out.1 bt.out.2)
            unfold World.box4 World.box3 at ho7 hk7 hp7 hb7 rb7 re7 oN7 og7 rN7
            have hfin := hid (show RunRel w q8 R u9 _ m from ⟨⟨B1, E1, r1, t1⟩, ⟨p1, G1, s1⟩, l, xa, xc, ya, yc, na, nc, hm2, hr3.out, by omega, hls.out, by show G1.length ≤ 8388608; omega, hs1, hphs, ho7.out, hk7.out, hp7.out, rb7.out, re7.out, rN7.out, og7.out, hb7.out⟩)
            go_wp2_with fail
            go_roundw
            case rel => with_reducible exact hid ⟨m, hfin.out⟩
            case measure => rw [← hN.out]; exact least_lt (p := fun n => RunRel w q8 R u9 _ n) (hfin.out) hmN
        · have hR2 := hid (show R = ⟨er, noStore, noColl, []⟩ by rw [← hrun.out, hE.out her])
          have qe : (er != 0) = true := by simp [her]
          replace her := hid her
          obtain ⟨p0, p1', p2, p3⟩ := box4f hp6.out
          have g0 := frozen_heap hp6.out 0
          have g1 := frozen_heap hp6.out 1
          have g2 := frozen_heap hp6.out 2
          have g3 := frozen_heap hp6.out 3
          clear hT hE hX hrun
          go_wp2_with fail
          have hp9 := box4_same (u0 := .slice none 0 0) (u1 := .slice none 0 0) (u2 := .int .i64 0) (u3 := .int .i64 0) hp6.out
          have hb9 := b_box4 hb6.out (q := w.heap.size + 1 + 1) (by omega) (.slice none 0 0) (.slice none 0 0) (.int .i64 0) (.int .i64 0)
          obtain ⟨m0, m1, m2, m3⟩ := box4f hp9
          unfold World.box4 at m0 m1 m2 m3 hb9
          (try simp only [Exit.inBlock, Exit.then])
          refine bodyPost_ret (by simp [results, Tryz.results21, go_sem, m0, m1, m2, m3]; try rfl) rfl ?_
          exact run_no hR2.out hb9
  · have ht : (z != 0) = true := by simp [hz]
    have hd := hid (run_bad (S := ⟨bs, es, r, t⟩) (C := ⟨ph, gy, pl⟩) hz)
    replace hz := hid hz
    clear hgl
    go_enter Tryz.func21, Tryz.ntmps21
    go_wp2_with fail
    ((with_reducible refine (hch.out _ (hR.out.mono EBlob.stable (b_alloc (b_alloc (b_alloc (Below.refl w.heap.size w) _) _) _)) (hE.out.mono EEntry.stable (b_alloc (b_alloc (b_alloc (Below.refl w.heap.size w) _) _) _)) (hG.out.mono EStr.stable (b_alloc (b_alloc (b_alloc (Below.refl w.heap.size w) _) _) _))).mono ?_); rintro e1 w1 ⟨rfl, b1⟩)
    have hq_q_1 := hid (stays b1 (hold (hold (heap_put w _ (w.heap.size) (by simp)))))
    have hq_k_1 := hid (stays b1 (hold (heap_put _ _ (w.heap.size + 1) (by simp))))
    have hq_p_1 := hid (stays b1 (heap_put _ _ (w.heap.size + 1 + 1) (by simp)))
    have hb1 := hid (b_call (b_alloc (b_alloc (b_alloc (Below.refl w.heap.size w) _) _) _) b1)
    have r_R_1 := hid (hR.out.mono EBlob.stable (b_call (b_alloc (b_alloc (b_alloc (Below.refl w.heap.size w) _) _) _) b1))
    have r_E_1 := hid (hE.out.mono EEntry.stable (b_call (b_alloc (b_alloc (b_alloc (Below.refl w.heap.size w) _) _) _) b1))
    have r_G_1 := hid (hG.out.mono EStr.stable (b_call (b_alloc (b_alloc (b_alloc (Below.refl w.heap.size w) _) _) _) b1))
    clear b1
    obtain ⟨x_q_0, x_q_1, x_q_2, x_q_3⟩ := box4f hq_q_1.out
    obtain ⟨x_k_0, x_k_1, x_k_2, -⟩ := box3f hq_k_1.out
    obtain ⟨x_p_0, x_p_1, x_p_2, x_p_3⟩ := box4f hq_p_1.out
    have g_p_0 := frozen_heap hq_p_1.out 0
    have g_p_1 := frozen_heap hq_p_1.out 1
    have g_p_2 := frozen_heap hq_p_1.out 2
    have g_p_3 := frozen_heap hq_p_1.out 3
    go_wp2_with fail
    have hp9 := box4_same (u0 := .slice none 0 0) (u1 := .slice none 0 0) (u2 := .int .i64 0) (u3 := .int .i64 0) hq_p_1.out
    have hb9 := b_box4 hb1.out (q := w.heap.size + 1 + 1) (by omega) (.slice none 0 0) (.slice none 0 0) (.int .i64 0) (.int .i64 0)
    obtain ⟨m0, m1, m2, m3⟩ := box4f hp9
    unfold World.box4 at m0 m1 m2 m3 hb9
    (try simp only [Exit.inBlock, Exit.then])
    refine bodyPost_ret (by simp [results, Tryz.results21, go_sem, m0, m1, m2, m3]; try rfl) rfl ?_
    exact run_no hd.out hb9
end Go.Proofs.YtpcnhldlfmdlhaaGreat
