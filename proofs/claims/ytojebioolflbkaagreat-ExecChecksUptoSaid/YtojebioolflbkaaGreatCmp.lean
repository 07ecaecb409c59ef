/-
  The reference's compressed and ShaStep: what each answers; the law ShaSteps: its walk. The reference's ShaStep; the law ShaSteps: its walk.
-/
import Derived.Test.YtojebioolflbkaaGreatStep
import Derived.Deep.RegionHeld3
import Derived.Deep.AppendLies
import Derived.StillTailTactics
namespace Go.Proofs.YtojebioolflbkaaGreat
open Go.RowKit

set_option maxRecDepth 100000 in
theorem ref_rotated (x : UInt32) (n : Int) (w : World) (h0 : 0 < n) (h1 : n ≤ 31) :
    Calls Tryz.prog 206 #[.int .u32 (x.toNat : Int), .int .i64 n] w fun e w' => e = .returned (.int .u32 ((rot x n.toNat).toNat : Int)) ∧ w = w' := by
  have hm : -9223372036854775808 ≤ n := by omega
  go_enter Tryz.func206, Tryz.ntmps206
  go_wp2_with fail
  refine (bits_RotateLeft32 x n _ h0 h1).mono ?_
  rintro e w1 ⟨rfl, rfl⟩
  go_wp2_with fail
  go_ret
  exact ⟨rfl, rfl⟩

theorem RW.block' {w : World} {v : Value} {l : List UInt32} (h : RW w v l) (hne : 0 < l.length) : ∃ b off c, v = .slice (some ⟨b, off, none⟩) l.length c ∧ b < w.heap.size ∧ l.length ≤ c ∧ c ≤ maxLen ∧ ∀ k x, l[k]? = some x → w.cell? ⟨b, off + k, none⟩ = some (.int .u32 (x.toNat : Int)) := by
  obtain ⟨a, c, rfl, hlc, hcm, hre, hno, hat⟩ := h
  obtain ⟨b, off, rfl, hlt, _⟩ := hat 0 _ (List.getElem?_eq_getElem hne)
  refine ⟨b, off, c, rfl, hlt, hlc, hcm, fun k x hk => ?_⟩
  obtain ⟨b', off', hb, _, he⟩ := hat k _ hk
  simp only [Option.some.injEq, Addr.mk.injEq, and_true] at hb
  obtain ⟨rfl, rfl⟩ := hb
  rw [Nat.mul_one] at he
  exact he
theorem os_empty32 (w : World) (t : TypeId) (B k : Nat) (hk : k = w.heap.size) (hB : B ≤ w.heap.size) : OS t 1 cU32 (w.alloc (.cells #[] t)) B (.slice (some ⟨k, 0, none⟩) 0 0) [] := by
  subst hk
  refine ⟨rfl, .inr ⟨w.heap.size, 0, #[], rfl, hB, heap_alloc_new w _, Nat.le_refl _, by simp [maxLen], rfl, rfl⟩⟩
/-- The length of a slice's value. -/
def lenOf : Value → Nat
  | .slice _ n _ => n
  | _ => 0
theorem mix2_def (x : UInt32) : mixW x 2 = (rot x 7 ^^^ rot x 18) ^^^ (x >>> 3) := rfl
theorem mix3_def (x : UInt32) : mixW x 3 = (rot x 17 ^^^ rot x 19) ^^^ (x >>> 10) := rfl

theorem mixA (x : UInt32) : bits .xor .u32 (bits .xor .u32 ((rot x 7).toNat : Int) ((rot x 18).toNat : Int)) ((x.toNat : Int) / 8) = ((mixW x 2).toNat : Int) := by
  rw [shr3, xor3]; rfl
theorem mixB (x : UInt32) : bits .xor .u32 (bits .xor .u32 ((rot x 17).toNat : Int) ((rot x 19).toNat : Int)) ((x.toNat : Int) / 1024) = ((mixW x 3).toNat : Int) := by
  rw [shr10, xor3]; rfl

theorem mixC (x : UInt32) : bits .xor .u32 (bits .xor .u32 ((rot x 6).toNat : Int) ((rot x 11).toNat : Int)) ((rot x 25).toNat : Int) = ((mixW x 1).toNat : Int) := by
  rw [xor3]; rfl
theorem mixD (x : UInt32) : bits .xor .u32 (bits .xor .u32 ((rot x 2).toNat : Int) ((rot x 13).toNat : Int)) ((rot x 22).toNat : Int) = ((mixW x 0).toNat : Int) := by
  rw [xor3]; rfl
theorem choose_alt (e f g : UInt32) : g ^^^ (e &&& (f ^^^ g)) = choose e f g := by
  apply UInt32.toBitVec_inj.1
  unfold choose
  ext i hi
  simp only [UInt32.toBitVec_xor, UInt32.toBitVec_and, UInt32.toBitVec_or, UInt32.toBitVec_not, BitVec.getElem_xor, BitVec.getElem_and, BitVec.getElem_or, BitVec.getElem_not]
  cases e.toBitVec[i] <;> cases f.toBitVec[i] <;> cases g.toBitVec[i] <;> rfl
theorem most_alt (a b c : UInt32) : (a &&& b) ||| (c &&& (a ||| b)) = most a b c := by
  apply UInt32.toBitVec_inj.1
  unfold most
  ext i hi
  simp only [UInt32.toBitVec_and, UInt32.toBitVec_or, BitVec.getElem_and, BitVec.getElem_or]
  cases a.toBitVec[i] <;> cases b.toBitVec[i] <;> cases c.toBitVec[i] <;> rfl
theorem u_add3 (a b c : UInt32) : ((a.toNat : Int) + ((b.toNat : Int) + (c.toNat : Int))) % 4294967296 = ((a + (b + c)).toNat : Int) := by
  simp only [UInt32.toNat_add]; omega
theorem u_add3' (a b c : UInt32) : ((a.toNat : Int) + ((b.toNat : Int) + (c.toNat : Int)) % 4294967296) % 4294967296 = ((a + (b + c)).toNat : Int) := by
  simp only [UInt32.toNat_add]; omega
theorem chA (e f g : UInt32) : bits .xor .u32 (g.toNat : Int) (bits .and .u32 (e.toNat : Int) (bits .xor .u32 (f.toNat : Int) (g.toNat : Int))) = ((choose e f g).toNat : Int) := by
  rw [w_xor, w_and, w_xor, choose_alt]
theorem moA (a b c : UInt32) : bits .or .u32 (bits .and .u32 (a.toNat : Int) (b.toNat : Int)) (bits .and .u32 (c.toNat : Int) (bits .or .u32 (a.toNat : Int) (b.toNat : Int))) = ((most a b c).toNat : Int) := by
  rw [w_and, w_or, w_and, w_or, most_alt]

set_option maxRecDepth 100000 in
set_option maxHeartbeats 4000000 in
theorem ref_compressed' (KL SL : List UInt32) (R : S8) (RL : List UInt32) (vh vb vk : Value) (h b : List UInt32) (w : World) (hh : RW w vh h) (hb : RW w vb b) (hk : RW w vk KL) (h8 : h.length = 8) (h16 : b.length = 16)
    (hKL : KL.length = 64) (hSL : SL.length = 64) (hst : StInv R KL SL 0 (s8Of h)) (hsc : SchedInv SL b) (hRL : List.zipWith (· + ·) R.list h = RL) :
    Calls Tryz.prog 196 #[vh, vb, vk] w fun e w' => ∃ v', e = .returned v' ∧ RW w' v' RL ∧ Below w.heap.size w w' := by
  obtain ⟨i0, hi, hz0, hz1, hz2⟩ := info_parts info_u32
  have hB := hid hb
  obtain ⟨bh, oh, ch, rfl, hlh, -, -, hch⟩ := hh.block' (by omega)
  obtain ⟨bk, ok, ck, rfl, hlk, -, -, hck⟩ := hk.block' (by omega)
  obtain ⟨a1, c1, rfl, -⟩ := hb
  rw [h16] at hB
  rw [h8, h16, hKL]
  replace h8 := hid h8
  replace h16 := hid h16
  replace hst := hid hst
  replace hRL := hid hRL
  replace hsc := hid hsc
  replace hch := hid hch
  replace hck := hid hck
  replace hKL := hid hKL
  replace hSL := hid hSL
  clear hh hk
  go_enter Tryz.func196, Tryz.ntmps196
  go_wp2_with (at_builtin; go_must (refine wpL_append flat_u32 rfl (.tmp 22) (.tmp 23) 199 rfl 161 i0 (.int .u32 0) Tryz.underlying199 hi hz0 hz1 hz2 rfl w.heap.size _ [] rfl (os_empty32 _ _ _ _ (by first | rfl | simp) (by simp)) _ b rfl (hB.out.mono EU32.stable (b_alloc (Below.refl _ _) _)) ?c1 ?c2 ?c3 ?_))
  case c1 => simp [h16.out]
  case c2 => simp [maxLen, h16.out]
  case c3 => simp
  intro v1 w1 own1 hgr
  have own1 : OS 161 1 cU32 w1 w.heap.size v1 b := by simpa using own1
  have b1 := b_grown (b_alloc (Below.refl _ w) _) hgr (fun k hk => by simp [Value.ownBlock] at hk; omega)
  clear hgr
  replace own1 := hid own1
  replace b1 := hid b1
  go_wp2_with fail
  go_loopw [7, 8, 9, 10] (fun v _ _ _ wr => ∃ (wl : List UInt32), 16 ≤ wl.length ∧ wl.length ≤ 64 ∧ Hid (SchedInv SL wl) ∧ OS 161 1 cU32 wr w.heap.size v wl ∧ Hid (Below w.heap.size w wr)) (fun v _ _ _ _ => 64 - lenOf v)
  case atStart => exact ⟨b, by rw [h16.out]; decide, by rw [h16.out]; decide, hsc, own1.out, b1⟩
  case round =>
    clear own1 b1 hsc
    obtain ⟨wl, hlo, hhi, hsc, hown, hb⟩ := hrel
    by_cases hlt : wl.length < 64
    · obtain ⟨g, cap, J, rfl, hgB, hcap, hcm, hbj, hcj⟩ := OS.bj hown (by omega)
      unfold maxLen at hcm
      have hat : ∀ k, k < wl.length → wr.cell? ⟨g, k, none⟩ = some (.int .u32 ((wl.getD k 0).toNat : Int)) := fun k hk => hbj.cell k _ (by rw [List.getD_eq_getElem?_getD, List.getElem?_eq_getElem hk]; rfl)
      have c15 := hat (wl.length - 15) (by omega)
      have c2 := hat (wl.length - 2) (by omega)
      have c16 := hat (wl.length - 16) (by omega)
      have c7 := hat (wl.length - 7) (by omega)
      have hgl := hbj.lt
      generalize h16' : wl.getD (wl.length - 16) 0 = x16 at c16
      generalize h15' : wl.getD (wl.length - 15) 0 = x15 at c15
      generalize h7' : wl.getD (wl.length - 7) 0 = x7 at c7
      generalize h2' : wl.getD (wl.length - 2) 0 = x2 at c2
      have hnx := hid (sched_next hsc.out hlt h16' h15' h7' h2')
      clear h16' h15' h7' h2' hat hbj hsc
      replace hown := hid hown
      replace c2 := hid c2
      replace c16 := hid c16
      replace c7 := hid c7
      go_wp2_with fail
      have qA : IntKind.i64.wrap ((wl.length : Int) - 15) = (wl.length : Int) - 15 := IntWalk.i64_in _ (by omega)
      have nA : ((wl.length : Int) - 15).toNat = wl.length - 15 := by omega
      have pA : (15 : Int) ≤ (wl.length : Int) := by omega
      have eA : (0 : Int) ≤ (wl.length : Int) - 15 := by omega
      have sA : (wl.length : Int) - 15 < (wl.length : Int) := by omega
      go_quiet (exact quiet_left1 (ref_rotated x15 _ _ (by decide) (by decide)))
      clear qA nA pA eA sA
      rw [mixA]
      have c2' : (wr.drewN nq).cell? ⟨g, wl.length - 2, none⟩ = some (.int .u32 (x2.toNat : Int)) := c2.out
      have c16' : (wr.drewN nq).cell? ⟨g, wl.length - 16, none⟩ = some (.int .u32 (x16.toNat : Int)) := c16.out
      have c7' : (wr.drewN nq).cell? ⟨g, wl.length - 7, none⟩ = some (.int .u32 (x7.toNat : Int)) := c7.out
      have hown' : Hid (OS 161 1 cU32 (wr.drewN nq) w.heap.size (.slice (some ⟨g, 0, none⟩) wl.length cap) wl) := hid hown.out
      have hb' : Hid (Below w.heap.size w (wr.drewN nq)) := hid (below_drewN hb.out _)
      have hgl' : g < (wr.drewN nq).heap.size := hgl
      clear c2 c16 c7 c15 hown hb hgl
      generalize wr.drewN nq = W1 at *
      generalize mixW x15 2 = m15 at *
      replace c16' := hid c16'
      replace c7' := hid c7'
      go_wp2_with fail
      have qB : IntKind.i64.wrap ((wl.length : Int) - 2) = (wl.length : Int) - 2 := IntWalk.i64_in _ (by omega)
      have nB : ((wl.length : Int) - 2).toNat = wl.length - 2 := by omega
      have pB : (2 : Int) ≤ (wl.length : Int) := by omega
      have eB : (0 : Int) ≤ (wl.length : Int) - 2 := by omega
      have sB : (wl.length : Int) - 2 < (wl.length : Int) := by omega
      go_quiet (exact quiet_left1 (ref_rotated x2 _ _ (by decide) (by decide)))
      clear qB nB pB eB sB
      rw [mixB]
      have c16 : (W1.drewN nq).cell? ⟨g, wl.length - 16, none⟩ = some (.int .u32 (x16.toNat : Int)) := c16'.out
      have c7 : (W1.drewN nq).cell? ⟨g, wl.length - 7, none⟩ = some (.int .u32 (x7.toNat : Int)) := c7'.out
      have hown : Hid (OS 161 1 cU32 (W1.drewN nq) w.heap.size (.slice (some ⟨g, 0, none⟩) wl.length cap) wl) := hid hown'.out
      have hb : Hid (Below w.heap.size w (W1.drewN nq)) := hid (below_drewN hb'.out _)
      have hgl : g < (W1.drewN nq).heap.size := hgl'
      clear c2' c16' c7' hown' hb' hgl'
      generalize W1.drewN nq = W2 at *
      generalize mixW x2 3 = m2 at *
      have hs2 := hb.out.size
      have ho : W2.ownsRow w.heap.size 161 1 (.slice (some ⟨g, 0, none⟩) wl.length cap) wl.length (wl.flatMap cU32) := hown.out
      go_wp2_with fail
      have qC : IntKind.i64.wrap ((wl.length : Int) - 16) = (wl.length : Int) - 16 := IntWalk.i64_in _ (by omega)
      have nC : ((wl.length : Int) - 16).toNat = wl.length - 16 := by omega
      have pC : (16 : Int) ≤ (wl.length : Int) := by omega
      have eC : (0 : Int) ≤ (wl.length : Int) - 16 := by omega
      have sC : (wl.length : Int) - 16 < (wl.length : Int) := by omega
      have qD : IntKind.i64.wrap ((wl.length : Int) - 7) = (wl.length : Int) - 7 := IntWalk.i64_in _ (by omega)
      have nD : ((wl.length : Int) - 7).toNat = wl.length - 7 := by omega
      have pD : (7 : Int) ≤ (wl.length : Int) := by omega
      have eD : (0 : Int) ≤ (wl.length : Int) - 7 := by omega
      have sD : (wl.length : Int) - 7 < (wl.length : Int) := by omega
      go_region_law ((refine step_append_lies _ (by rfl) _ _ _ (by rfl) w.heap.size 161 i0 _ 1 4 Tryz.underlying199 hi hz0 hz1 hz2 rfl (by omega) _ wl.length (wl.flatMap cU32) (by rfl) ((ho.alloc _).drew) ⟨W2.heap.size, 0, none⟩ 1 1 [.int .u32 ((x16 + m15 + x7 + m2).toNat : Int)] (by rfl) (by rfl) (World.news_of_block (cs := #[.int .u32 ((x16 + m15 + x7 + m2).toNat : Int)]) (t := 161) (fr := (0, 0)) (heap_alloc_new W2 _)) (by simp [Value.oneCell']) (by omega) (by simp [maxLen]; omega) (by omega) (by simp; omega) (W2.heap.size + 1) (by simp) ?_; intro gg cap2 w3 hown1 hgrow hat hlt3))
      all_goals
        (have ho2 : OS 161 1 cU32 w3 w.heap.size (.slice (some ⟨gg, 0, none⟩) (wl.length + 1) cap2) (wl ++ [x16 + m15 + x7 + m2]) := by
           unfold OS
           rw [List.flatMap_append, List.length_append]
           exact hown1
         have hb2 := hid (b_grown (Below.drew (b_alloc hb.out _)) hgrow (OS.block hown.out))
         clear hown1 hgrow hat hlt3 hown hb ho c16 c7 hgl hs2 qC nC pC eC sC qD nD pD eD sD
         go_wp2_with fail
         go_roundw
         case rel => ((repeat apply Exists.intro); exact ⟨⟨wl ++ [x16 + m15 + x7 + m2], by simp; omega, by simp; omega, hnx, ho2, hb2⟩, rfl⟩)
         case measure => show 64 - (wl.length + 1) < 64 - wl.length; omega)
    · have hlen : wl.length = 64 := by omega
      have hS : SL = wl := by have h1 := hsc.out; unfold SchedInv at h1; rw [h1, hlen]; rfl
      obtain ⟨g, cap, J, rfl, hgB, hcap, hcm, hbj, hcj⟩ := OS.bj hown (by omega)
      rw [← hS] at hbj
      rw [hlen] at hcap ⊢
      have hgl := hbj.lt
      have hcw : Hid (∀ (W : World), Below wr.heap.size wr W → ∀ k x, SL[k]? = some x → W.cell? ⟨g, k, none⟩ = some (.int .u32 (x.toNat : Int))) := hid fun W hW k x hx => cell_stays hW hgl (hbj.cell k x hx)
      have hckk : Hid (∀ (W : World), Below wr.heap.size wr W → ∀ k x, KL[k]? = some x → W.cell? ⟨bk, ok + k, none⟩ = some (.int .u32 (x.toNat : Int))) := hid fun W hW k x hx => cell_stays (b_call hb.out hW) hlk (hck.out k x hx)
      have hchh : Hid (∀ (W : World), Below wr.heap.size wr W → ∀ k x, h[k]? = some x → W.cell? ⟨bh, oh + k, none⟩ = some (.int .u32 (x.toNat : Int))) := hid fun W hW k x hx => cell_stays (b_call hb.out hW) hlh (hch.out k x hx)
      unfold maxLen at hcm
      clear hown hbj hS hsc hcj hlo hhi hlt hlen
      have hx8 : ∃ x0 x1 x2 x3 x4 x5 x6 x7, Hid (h = [x0, x1, x2, x3, x4, x5, x6, x7]) := by
        have h1 := h8.out
        match h, h1 with
        | [x0, x1, x2, x3, x4, x5, x6, x7], _ => exact ⟨x0, x1, x2, x3, x4, x5, x6, x7, hid rfl⟩
      obtain ⟨x0, x1, x2, x3, x4, x5, x6, x7, hx8⟩ := hx8
      have d0 := hchh.out wr (Below.refl _ _) 0 x0 (by rw [hx8.out]; rfl)
      have d1 := hchh.out wr (Below.refl _ _) 1 x1 (by rw [hx8.out]; rfl)
      have d2 := hchh.out wr (Below.refl _ _) 2 x2 (by rw [hx8.out]; rfl)
      have d3 := hchh.out wr (Below.refl _ _) 3 x3 (by rw [hx8.out]; rfl)
      have d4 := hchh.out wr (Below.refl _ _) 4 x4 (by rw [hx8.out]; rfl)
      have d5 := hchh.out wr (Below.refl _ _) 5 x5 (by rw [hx8.out]; rfl)
      have d6 := hchh.out wr (Below.refl _ _) 6 x6 (by rw [hx8.out]; rfl)
      have d7 := hchh.out wr (Below.refl _ _) 7 x7 (by rw [hx8.out]; rfl)
      rw [Nat.add_zero] at d0
      have hst0 : Hid (StInv R KL SL 0 ⟨x0, x1, x2, x3, x4, x5, x6, x7⟩) := by have h1 := hst.out; rw [hx8.out] at h1; exact hid h1
      clear hst
      go_wp2_with fail
      go_quiet (fail)
      clear d0 d1 d2 d3 d4 d5 d6 d7
      obtain ⟨wo, rfl⟩ : ∃ wo : World, wo = wr := ⟨wr, rfl⟩
      go_wp2_with fail
      go_loopw [11, 12, 13, 14, 15, 16, 17, 18, 19, 20, 21] (fun va vb vc vd ve vf vg vh i _ _ wr => ∃ (t : Nat) (s : S8), i = .int .i64 (t : Int) ∧ t ≤ 64 ∧ va = .int .u32 (s.a.toNat : Int) ∧ vb = .int .u32 (s.b.toNat : Int) ∧ vc = .int .u32 (s.c.toNat : Int) ∧ vd = .int .u32 (s.d.toNat : Int) ∧ ve = .int .u32 (s.e.toNat : Int) ∧ vf = .int .u32 (s.f.toNat : Int) ∧ vg = .int .u32 (s.g.toNat : Int) ∧ vh = .int .u32 (s.h.toNat : Int) ∧ Hid (StInv R KL SL t s) ∧ Hid (Below wo.heap.size wo wr)) (fun _ _ _ _ _ _ _ _ i _ _ _ => 64 - (intOf i).toNat)
      case atStart => exact ⟨0, _, rfl, by omega, rfl, rfl, rfl, rfl, rfl, rfl, rfl, rfl, hst0, hid (below_drewN (Below.refl _ _) _)⟩
      case round =>
        obtain ⟨t, ⟨xa, xb, xc, xd, xe, xf, xg, xh⟩, rfl, ht, rfl, rfl, rfl, rfl, rfl, rfl, rfl, rfl, hinv, hbel⟩ := hrel
        by_cases hlt : t < 64
        · have ck := hckk.out wr hbel.out t (KL.getD t 0) (by rw [List.getD_eq_getElem?_getD, List.getElem?_eq_getElem (by have := hKL.out; omega)]; rfl)
          have cw := hcw.out wr hbel.out t (SL.getD t 0) (by rw [List.getD_eq_getElem?_getD, List.getElem?_eq_getElem (by have := hSL.out; omega)]; rfl)
          generalize hkt : KL.getD t 0 = kt at ck
          generalize hwt : SL.getD t 0 = wt at cw
          have hnx := hid (st_next hinv.out hlt hkt hwt)
          clear hkt hwt hinv
          have t0 : (t : Int) < 64 := by omega
          go_wp2_with fail
          go_quiet (exact quiet_left1 (ref_rotated xe _ _ (by decide) (by decide)))
          rw [mixC, chA, u_add5]
          have hb1 : Hid (Below wo.heap.size wo (wr.drewN nq)) := hid (below_drewN hbel.out _)
          have hstep : Hid (StInv R KL SL (t + 1) (step8 ⟨xa, xb, xc, xd, xe, xf, xg, xh⟩ kt wt)) := hnx
          have hon : one8 ⟨xa, xb, xc, xd, xe, xf, xg, xh⟩ kt wt = xh + mixW xe 1 + choose xe xf xg + kt + wt := rfl
          have htw : two8 ⟨xa, xb, xc, xd, xe, xf, xg, xh⟩ = mixW xa 0 + most xa xb xc := rfl
          unfold step8 at hstep
          rw [hon, htw] at hstep
          clear hon htw hnx hbel ck cw t0
          generalize wr.drewN nq = W1 at *
          generalize xh + mixW xe 1 + choose xe xf xg + kt + wt = ON at *
          go_wp2_with fail
          ((with_reducible refine (ref_rotated xa 2 _ (by decide) (by decide)).mono ?_); rintro e1 w1 ⟨rfl, rfl⟩)
          go_wp2_with fail
          ((with_reducible refine (ref_rotated xa 13 _ (by decide) (by decide)).mono ?_); rintro e1 w1 ⟨rfl, rfl⟩)
          go_wp2_with fail
          ((with_reducible refine (ref_rotated xa 22 _ (by decide) (by decide)).mono ?_); rintro e1 w1 ⟨rfl, rfl⟩)
          have hmix := mixD xa
          have hmo := moA xa xb xc
          go_wp2_with fail
          go_roundw
          case rel => exact ⟨t + 1, ⟨ON + (mixW xa 0 + most xa xb xc), xa, xb, xc, xd + ON, xe, xf, xg⟩, by go_num, by omega, by first | (rw [u_add3']) | (rw [u_add3]) | skip, rfl, rfl, rfl, by rw [u_add2], rfl, rfl, rfl, hstep, hb1⟩
          case measure => simp [intOf]; omega
        · obtain rfl : t = 64 := by omega
          have hR : R = ⟨xa, xb, xc, xd, xe, xf, xg, xh⟩ := st_end hinv.out
          have hRL2 : Hid ([x0 + xa, x1 + xb, x2 + xc, x3 + xd, x4 + xe, x5 + xf, x6 + xg, x7 + xh] = RL) := by
            rw [UInt32.add_comm x0, UInt32.add_comm x1, UInt32.add_comm x2, UInt32.add_comm x3, UInt32.add_comm x4, UInt32.add_comm x5, UInt32.add_comm x6, UInt32.add_comm x7]
            have h1 := hRL.out
            rw [hR, hx8.out] at h1
            exact hid h1
          clear hR hinv hRL
          have d0 := hchh.out wr hbel.out 0 x0 (by rw [hx8.out]; rfl)
          have d1 := hchh.out wr hbel.out 1 x1 (by rw [hx8.out]; rfl)
          have d2 := hchh.out wr hbel.out 2 x2 (by rw [hx8.out]; rfl)
          have d3 := hchh.out wr hbel.out 3 x3 (by rw [hx8.out]; rfl)
          have d4 := hchh.out wr hbel.out 4 x4 (by rw [hx8.out]; rfl)
          have d5 := hchh.out wr hbel.out 5 x5 (by rw [hx8.out]; rfl)
          have d6 := hchh.out wr hbel.out 6 x6 (by rw [hx8.out]; rfl)
          have d7 := hchh.out wr hbel.out 7 x7 (by rw [hx8.out]; rfl)
          rw [Nat.add_zero] at d0
          have hbe : Hid (Below w.heap.size w wr) := hid (b_call hb.out hbel.out)
          replace hRL2 := hid hRL2
          clear hlt ht
          go_wp2_with fail
          go_still_tail 40, (by kernel_rfl)
          change wpList _ _ _ _ _ wr.drew
          go_wp2_with fail
          go_ret
          refine ⟨_, rfl, ?_, b_alloc (Below.drew hbe.out) _⟩
          rw [← hRL2.out]
          refine lit32 _ _ _ _ _ _ (by first | rfl | simp) ?_ rfl (by show 8 ≤ _; decide)
          simp only [List.flatMap_cons, List.flatMap_nil, cU32, List.cons_append, List.nil_append, u_add2]
end Go.Proofs.YtojebioolflbkaaGreat

namespace Go.Proofs.YtojebioolflbkaaGreat
open Go.RowKit

theorem ref_compressed (vh vb vk : Value) (h b : List UInt32) (w : World) (hh : RW w vh h) (hb : RW w vb b) (hk : RW w vk roundW) (h8 : h.length = 8) (h16 : b.length = 16) :
    Calls Tryz.prog 196 #[vh, vb, vk] w fun e w' => ∃ v', e = .returned v' ∧ RW w' v' (compress h b) ∧ Below w.heap.size w w' := by
  refine ref_compressed' roundW (sched b) (stepsN roundW (sched b) 64 (s8Of h)) _ vh vb vk h b w hh hb hk h8 h16 roundW_len ?_ rfl (by unfold SchedInv; rw [h16]; rfl) rfl
  unfold sched
  rw [schedN_len, h16]

end Go.Proofs.YtojebioolflbkaaGreat
