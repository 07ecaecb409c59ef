/-
  sha.Step: what it answers.
-/
import Derived.Test.YtojebioolflbkaaGreatSched
import Derived.Deep.QuietTactic
import Derived.BigQuiet
import Derived.Deep.RegionLaw
namespace Go.Proofs.YtojebioolflbkaaGreat
open Go.RowKit

theorem quiet_left1 {P : Program} {f : FuncId} {args : Array Value} {w : World} {n : Nat} {v : Value}
    (h : Calls P f args (w.drewN n) fun e w' => e = .returned v ∧ w.drewN n = w') : Calls P f args (w.drewN n) fun e w'' => e = .returned v ∧ ∃ m, w'' = w.drewN m :=
  h.mono fun _ _ ⟨he, hm⟩ => ⟨he, n, hm.symm⟩

theorem quiet_add_left1 {P : Program} {f : FuncId} {args : Array Value} {w : World} {a n : Nat} {v : Value}
    (h : Calls P f args (w.drewN (a + n)) fun e w' => e = .returned v ∧ w.drewN (a + n) = w') :
    Calls P f args (w.drewN (a + n)) fun e w'' => e = .returned v ∧ ∃ m, w'' = w.drewN (a + m) :=
  h.mono fun _ _ ⟨he, hm⟩ => ⟨he, n, hm.symm⟩

/-- The eight words that a step turns. -/
structure S8 where
  a : UInt32
  b : UInt32
  c : UInt32
  d : UInt32
  e : UInt32
  f : UInt32
  g : UInt32
  h : UInt32
def S8.list (s : S8) : List UInt32 := [s.a, s.b, s.c, s.d, s.e, s.f, s.g, s.h]
def one8 (s : S8) (k w : UInt32) : UInt32 := s.h + mixW s.e 1 + choose s.e s.f s.g + k + w
def two8 (s : S8) : UInt32 := mixW s.a 0 + most s.a s.b s.c
def step8 (s : S8) (k w : UInt32) : S8 := ⟨one8 s k w + two8 s, s.a, s.b, s.c, s.d + one8 s k w, s.e, s.f, s.g⟩
def stepsN (ks ws : List UInt32) : Nat → S8 → S8
  | 0, s => s
  | n + 1, s => stepsN ks ws n (step8 s (ks.getD (64 - (n + 1)) 0) (ws.getD (64 - (n + 1)) 0))
def StInv (R : S8) (ks ws : List UInt32) (t : Nat) (s : S8) : Prop := R = stepsN ks ws (64 - t) s
theorem st_next {R : S8} {ks ws : List UInt32} {t : Nat} {s : S8} (h : StInv R ks ws t s) (ht : t < 64) {k w : UInt32} (hk : ks.getD t 0 = k) (hw : ws.getD t 0 = w) : StInv R ks ws (t + 1) (step8 s k w) := by
  unfold StInv at h ⊢
  obtain ⟨q, hq⟩ : ∃ q, 64 - t = q + 1 := ⟨64 - t - 1, by omega⟩
  rw [hq, stepsN, show 64 - (q + 1) = t by omega, hk, hw] at h
  rw [show 64 - (t + 1) = q by omega]
  exact h
theorem st_end {R : S8} {ks ws : List UInt32} {s : S8} (h : StInv R ks ws 64 s) : R = s := h
def s8Of (l : List UInt32) : S8 := ⟨l.getD 0 0, l.getD 1 0, l.getD 2 0, l.getD 3 0, l.getD 4 0, l.getD 5 0, l.getD 6 0, l.getD 7 0⟩
theorem s8Of_list (l : List UInt32) (h : l.length = 8) : (s8Of l).list = l := by
  match l, h with
  | [a, b, c, d, e, f, g, i], _ => rfl
/-- Eight words behind a block of sixteen. -/
def compress (h b : List UInt32) : List UInt32 := List.zipWith (· + ·) (stepsN roundW (sched b) 64 (s8Of h)).list h
theorem compress_len (h b : List UInt32) (hl : h.length = 8) : (compress h b).length = 8 := by
  unfold compress
  rw [List.length_zipWith, hl]; rfl
def stepErr (h b : List UInt32) : Int := if h.length = 8 ∧ b.length = 16 then 0 else 1
def stepOut (h b : List UInt32) : List UInt32 := if h.length = 8 ∧ b.length = 16 then compress h b else []

/-- A block whose row begins with these words; behind them stands something. -/
def BJ (w : World) (g : Nat) (t : TypeId) (l : List UInt32) (J : List Value) : Prop := w.heap[g]? = some (.cells (l.flatMap cU32 ++ J).toArray t (0, 0))
theorem BJ.cell {w : World} {g : Nat} {t : TypeId} {l : List UInt32} {J : List Value} (h : BJ w g t l J) (k : Nat) (x : UInt32) (hk : l[k]? = some x) : w.cell? ⟨g, k, none⟩ = some (.int .u32 (x.toNat : Int)) := by
  have hl : k < l.length := (List.getElem?_eq_some_iff.1 hk).1
  rw [cell_of_row w g k _ t (0, 0) h, List.getElem?_toArray, List.getElem?_append_left (by rw [fm32_len]; exact hl), flat_get (cells := cU32) (fun _ => rfl) (by decide)]
  simp [hk, cU32, Nat.mod_one]
theorem BJ.frozen {w : World} {g : Nat} {t : TypeId} {l : List UInt32} {J : List Value} (h : BJ w g t l J) (k : Nat) : w.frozen? ⟨g, k, none⟩ = false := frozen_of_row w g k _ t h
theorem BJ.lt {w : World} {g : Nat} {t : TypeId} {l : List UInt32} {J : List Value} (h : BJ w g t l J) : g < w.heap.size := (Array.getElem?_eq_some_iff.1 h).1
theorem BJ.below {w w' : World} {g : Nat} {t : TypeId} {l : List UInt32} {J : List Value} (h : BJ w g t l J) (hb : Below w.heap.size w w') : BJ w' g t l J := (hb.block g h.lt).trans h
theorem BJ.set {w : World} {g : Nat} {t : TypeId} {l : List UInt32} {J : List Value} (h : BJ w g t l J) (k : Nat) (y : UInt32) (hk : k < l.length) : BJ (w.setCell ⟨g, k, none⟩ (.int .u32 (y.toNat : Int))) g t (l.set k y) J := by
  unfold BJ
  have e : (l.flatMap cU32 ++ J).set k (.int .u32 (y.toNat : Int)) = (l.set k y).flatMap cU32 ++ J := by
    rw [List.set_append_left _ _ (by rw [fm32_len]; exact hk), flat1_set l k y _ (fun _ => rfl) rfl]
  rw [heap_setCell_same w g k _ t _ h, ← e]
  simp
theorem BW.other {w : World} {g : Nat} {t : TypeId} {l : List UInt32} (h : BW w g t l) (a : Addr) (v : Value) (hne : g ≠ a.block) : BW (w.setCell a v) g t l := h.set_other a v hne
theorem BJ.reads {w : World} {g cap : Nat} {t : TypeId} {l : List UInt32} {J : List Value} (h : BJ w g t l J) (hc : l.length ≤ cap) (hm : cap ≤ maxLen) (hs : l.length ≤ 1000) : RW w (.slice (some ⟨g, 0, none⟩) l.length cap) l := by
  refine ⟨_, _, rfl, hc, hm, by omega, fun h => by simp at h, fun k x hk => ⟨g, 0, rfl, h.lt, ?_⟩⟩
  have := h.cell k x hk
  unfold EU32
  rw [show 0 + k * 1 = k by omega]
  exact this
/-- An owned row is such a block. -/
theorem OS.bj {e : TypeId} {w : World} {B : Nat} {v : Value} {l : List UInt32} (h : OS e 1 cU32 w B v l) (hne : 0 < l.length) : ∃ g cap J, v = .slice (some ⟨g, 0, none⟩) l.length cap ∧ B ≤ g ∧ l.length ≤ cap ∧ cap ≤ maxLen ∧ BJ w g e l J ∧ l.length + J.length = cap := by
  obtain ⟨h1, h2⟩ := h
  rcases h2 with ⟨rfl, hn⟩ | ⟨g, cap, cur, rfl, hg, hh, hnc, hcm, hcs, htake⟩
  · omega
  · have hcut : cur.toList = l.flatMap cU32 ++ cur.toList.drop (l.length * 1) := by rw [← htake, List.take_append_drop]
    refine ⟨g, cap, cur.toList.drop (l.length * 1), rfl, hg, hnc, hcm, ?_, ?_⟩
    · unfold BJ
      rw [← hcut]
      exact hh
    · have : cur.toList.length = cap * 1 := by rw [Array.length_toList]; exact hcs
      rw [List.length_drop, this]; omega
theorem u_add2 (a b : UInt32) : ((a.toNat : Int) + (b.toNat : Int)) % 4294967296 = ((a + b).toNat : Int) := by
  rw [UInt32.toNat_add]; omega
theorem u_add5 (a b c d e : UInt32) : (((a.toNat : Int) + (b.toNat : Int) + (c.toNat : Int) + (d.toNat : Int)) % 4294967296 + (e.toNat : Int)) % 4294967296 = ((a + b + c + d + e).toNat : Int) := by
  simp only [UInt32.toNat_add]; omega

set_option maxRecDepth 100000 in
set_option maxHeartbeats 400000 in
theorem sha_Step_no (vh vb : Value) (h b : List UInt32) (w : World) (hh : RW w vh h) (hb : RW w vb b) (hn : ¬ (h.length = 8 ∧ b.length = 16)) :
    Calls Tryz.prog 190 #[vh, vb] w fun e w' => e = .returned (.tuple #[.slice none 0 0, .int .i64 1]) ∧ w = w' := by
  obtain ⟨a0, c0, rfl, -⟩ := hh
  obtain ⟨a1, c1, rfl, -⟩ := hb
  by_cases h8 : h.length = 8
  · have q1 : ((h.length : Int) != 8) = false := by simp; omega
    have q2 : ((b.length : Int) != 16) = true := by simp; omega
    clear h8 hn
    go_enter Tryz.func190, Tryz.ntmps190
    go_wp2_with fail
    go_ret2
    exact ⟨rfl, rfl⟩
  · have q1 : ((h.length : Int) != 8) = true := by simp; omega
    clear h8 hn
    go_enter Tryz.func190, Tryz.ntmps190
    go_wp2_with fail
    go_ret2
    exact ⟨rfl, rfl⟩

set_option maxRecDepth 100000 in
set_option maxHeartbeats 1000000 in
theorem sha_Step' (KL SL : List UInt32) (R : S8) (RL : List UInt32) (vh vb : Value) (h b : List UInt32) (w : World) (hh : RW w vh h) (hb : RW w vb b) (h8 : h.length = 8) (h16 : b.length = 16)
    (hKL : KL.length = 64) (hSL : SL.length = 64) (hst : StInv R KL SL 0 (s8Of h)) (hcr : ∀ w, Calls Tryz.prog 201 #[] w fun e w' => e = .returned (aggW KL) ∧ Below w.heap.size w w')
    (hcs : ∀ w v, RW w v b → Calls Tryz.prog 202 #[v] w fun e w' => e = .returned (aggW SL) ∧ Below w.heap.size w w') (hRL : List.zipWith (· + ·) R.list h = RL) :
    Calls Tryz.prog 190 #[vh, vb] w fun e w' => ∃ v', e = .returned (.tuple #[v', .int .i64 0]) ∧ RW w' v' RL ∧ Below w.heap.size w w' := by
  obtain ⟨i0, hi, hz0, hz1, hz2⟩ := info_parts info_u32
  have hH := hid hh
  have hB := hid hb
  obtain ⟨a0, c0, rfl, -⟩ := hh
  obtain ⟨a1, c1, rfl, -⟩ := hb
  rw [h8] at hH
  rw [h16] at hB
  rw [h8, h16]
  replace h8 := hid h8
  replace h16 := hid h16
  replace hst := hid hst
  replace hRL := hid hRL
  replace hcr := hid hcr
  replace hcs := hid hcs
  have hal := arr_len
  have hel := arr_elem
  have hk1 : (KL.flatMap cU32).toArray.size = 64 := by rw [List.size_toArray, fm32_len, hKL]
  have hs1 : (SL.flatMap cU32).toArray.size = 64 := by rw [List.size_toArray, fm32_len, hSL]
  replace hk1 := hid hk1
  replace hs1 := hid hs1
  go_enter Tryz.func190, Tryz.ntmps190
  go_wp2_with fail
  ((with_reducible refine (hcr.out _).mono ?_); rintro e w1 ⟨rfl, b1⟩)
  go_wp2_with fail
  ((with_reducible refine (hcs.out _ _ (hB.out.mono EU32.stable b1)).mono ?_); rintro e w2 ⟨rfl, b2⟩)
  go_wp2_with (first
    | (refine wpList_store_row rfl 210 (.tmp 6) (.tmp 25) rfl w2.heap.size _ rfl rfl 210 _ (heap_alloc2_old w2 _ _) (by rw [hk1.out]; kernel_rfl) (by rw [hk1.out]; rfl) (fm32_one KL) ?_)
    | (refine wpList_store_row rfl 210 (.tmp 7) (.tmp 27) rfl (w2.heap.size + 1) _ rfl rfl 210 _ ((setRow_other _ _ _ _ (by omega)).trans (heap_alloc2_new w2 _ _)) (by rw [hs1.out]; kernel_rfl) (by rw [hs1.out]; rfl) (fm32_one SL) ?_)
    | (at_builtin; go_must (refine wpL_append flat_u32 rfl (.const (.slice none 0 0)) (.tmp 28) 199 rfl 161 i0 (.int .u32 0) Tryz.underlying199 hi hz0 hz1 hz2 rfl (w2.heap.size + 2) _ [] rfl OS.nil _ h rfl (hH.out.mono EU32.stable (below_setRow (below_setRow (b_alloc (b_alloc (b_call b1 b2) _) _) ?e1 _) ?e2 _)) ?c1 ?c2 ?c3 ?_)))
  case e1 => exact Nat.le_trans b1.size b2.size
  case e2 => exact Nat.le_trans (Nat.le_trans b1.size b2.size) (Nat.le_succ _)
  case c1 => simp [h8.out]
  case c2 => simp [maxLen, h8.out]
  case c3 => simp
  intro v1 w3 own1 hgr
  have kk : BW w3 w2.heap.size 210 KL := (hgr.block w2.heap.size (by simp; omega) (by simp [Value.ownBlock])).trans ((setRow_other _ _ _ _ (by omega)).trans (setRow_heap _ _ _ _ _ _ (heap_alloc2_old w2 _ _)))
  have ss : BW w3 (w2.heap.size + 1) 210 SL := (hgr.block (w2.heap.size + 1) (by simp) (by simp [Value.ownBlock])).trans (setRow_heap _ _ _ _ _ _ ((setRow_other _ _ _ _ (by omega)).trans (heap_alloc2_new w2 _ _)))
  have hle : w.heap.size ≤ w2.heap.size := Nat.le_trans b1.size b2.size
  have b3 : Below w.heap.size w w3 := b_grown (v := .slice none 0 0) (below_setRow (below_setRow (b_alloc (b_alloc (b_call b1 b2) _) _) hle _) (by omega) _) hgr (fun k hk => by simp [Value.ownBlock] at hk)
  have own1 : OS 161 1 cU32 w3 (w2.heap.size + 2) v1 h := by simpa using own1
  obtain ⟨g, cap, J, rfl, hgB, hcap, hcm, hbj, -⟩ := OS.bj own1 (by rw [h8.out]; decide)
  rw [h8.out] at hcap ⊢
  rw [← s8Of_list h h8.out] at hbj
  have hgk : g ≠ w2.heap.size := by omega
  have hgw : g ≠ w2.heap.size + 1 := by omega
  have hgw0 : w.heap.size ≤ g := by omega
  have hnc : ¬ cap = 1 := by omega
  unfold maxLen at hcm
  generalize w2.heap.size = gk at *
  replace kk := hid kk
  replace ss := hid ss
  replace hbj := hid hbj
  replace b3 := hid b3
  clear hgr own1 b1 b2
  go_wp2_with fail
  go_loopw [9, 10, 11, 12, 13, 14, 15, 30] (fun _ _ _ _ _ _ _ i wr => ∃ (t : Nat) (s : S8), i = .int .i64 (t : Int) ∧ t ≤ 64 ∧ Hid (StInv R KL SL t s) ∧ Hid (BJ wr g 161 s.list J) ∧ Hid (BW wr gk 210 KL) ∧ Hid (BW wr (gk + 1) 210 SL) ∧ Hid (Below w.heap.size w wr)) (fun _ _ _ _ _ _ _ i _ => 64 - (intOf i).toNat)
  case atStart => exact ⟨0, s8Of h, rfl, by omega, hst, hbj, kk, ss, b3⟩
  case round =>
    clear hbj kk ss b3
    obtain ⟨t, s, rfl, ht, hinv, hv, hk, hs, hb⟩ := hrel
    by_cases hlt : t < 64
    · obtain ⟨a, b', c, d, e, f, g', i⟩ := s
      have gl := hv.out.lt
      have glk := hk.out.lt
      have gls := hs.out.lt
      have c0 := hv.out.cell 0 a rfl
      have c4 := hv.out.cell 4 e rfl
      have hnext := hid (fun k w hk hw => st_next hinv.out hlt (k := k) (w := w) hk hw)
      go_wp2_with fail
      ((with_reducible refine (word_Mix e 1 _ (by decide) (by decide)).mono ?_); rintro e1 w4 ⟨rfl, b4⟩)
      obtain ⟨bc4, bf4⟩ := bcell b4
      have gl4 : g < w4.heap.size := Nat.lt_of_lt_of_le gl b4.size
      have hb4 := hid (b_call hb.out b4)
      have hv4 := hid (hv.out.below b4)
      have hk4 := hid (hk.out.below b4)
      have hs4 := hid (hs.out.below b4)
      replace b4 := hid b4
      clear hv hk hs hb
      go_wp2_with fail
      ((with_reducible refine (word_Mix a 0 _ (by decide) (by decide)).mono ?_); rintro e1 w5 ⟨rfl, b5⟩)
      have gl5 : g < w5.heap.size := Nat.lt_of_lt_of_le gl4 b5.size
      have hb5 := hid (b_call hb4.out b5)
      have hv5 := hid (hv4.out.below b5)
      have hk5 := hid (hk4.out.below b5)
      have hs5 := hid (hs4.out.below b5)
      clear hv4 hk4 hs4 hb4 bc4 bf4 c0 c4 b4 b5 gl gl4 glk gls
      have c0 := hv5.out.cell 0 a rfl
      have c1 := hv5.out.cell 1 b' rfl
      have c2 := hv5.out.cell 2 c rfl
      have c4 := hv5.out.cell 4 e rfl
      have c5 := hv5.out.cell 5 f rfl
      have c6 := hv5.out.cell 6 g' rfl
      have c7 := hv5.out.cell 7 i rfl
      have ck := hk5.out.cellD t (by omega)
      have cw := hs5.out.cellD t (by omega)
      generalize hgk1 : KL.getD t 0 = kt at ck
      generalize hgw1 : SL.getD t 0 = wt at cw
      have hnx := hid (hnext.out kt wt hgk1 hgw1)
      clear hnext hgk1 hgw1
      have t0 : (t : Int) < 64 := by omega
      go_wp2_with fail
      go_quiet (exact quiet_left1 (word_Choose e f g' _))
      rw [u_add5]
      have hon : one8 ⟨a, b', c, d, e, f, g', i⟩ kt wt = i + mixW e 1 + choose e f g' + kt + wt := rfl
      have htw : two8 ⟨a, b', c, d, e, f, g', i⟩ = mixW a 0 + most a b' c := rfl
      unfold step8 at hnx
      rw [hon, htw] at hnx
      clear hon htw
      generalize i + mixW e 1 + choose e f g' + kt + wt = ON at *
      clear c4 c5 c6 c7 ck cw t0
      go_wp2_with fail
      go_quiet (exact quiet_add_left1 (word_Most a b' c _))
      rw [u_add2]
      generalize mixW a 0 + most a b' c = TW at *
      have hCS : ([a, b', c, d, e, f, g'].flatMap cU32).length = 7 := rfl
      have hsrc : Hid (∀ (W : World), BJ W g 161 [a, b', c, d, e, f, g', i] J → ∀ (j : Nat) (u : Value), ([a, b', c, d, e, f, g'].flatMap cU32)[j]? = some u → W.cell? ((⟨g, 0, none⟩ : Addr).add j) = some u) := by
        refine hid fun W hW j u hj => ?_
        have hj7 : j < 7 := by have := (List.getElem?_eq_some_iff.1 hj).1; rw [hCS] at this; exact this
        rw [show (⟨g, 0, none⟩ : Addr).add j = ⟨g, j, none⟩ by unfold Addr.add; split <;> simp_all, cell_of_row W g j _ _ (0, 0) hW, List.getElem?_toArray]
        rw [← hj]
        match j, hj7 with
        | 0, _ => rfl
        | 1, _ => rfl
        | 2, _ => rfl
        | 3, _ => rfl
        | 4, _ => rfl
        | 5, _ => rfl
        | 6, _ => rfl
      have p7 : 7 ≤ cap := by omega
      have p7' : (7 : Int) ≤ (cap : Int) := by omega
      go_wp2_with fail
      go_region_law ((refine step_copy_splice rfl (.tmp 84) (.tmp 86) 199 199 rfl 161 Tryz.underlying199 (by kernel_rfl) _ _ 7 (cap - 1) 7 cap rfl rfl g 1 ([a, b', c, d, e, f, g', i].flatMap cU32 ++ J) 161 hv5.out ([a, b', c, d, e, f, g'].flatMap cU32) rfl (fun _ => ⟨rfl, _, rfl, hsrc.out _ hv5.out⟩) (by simp [cU32]) (fun u hu => by obtain ⟨x, _, hx⟩ := List.mem_flatMap.1 hu; exact flat_u32.one x u hx) (gk + 2) w5 (by first | exact below_drewN (below_drewN (Below.refl _ _) _) _ | exact below_drewN (Below.refl _ _) _ | exact Below.drew (below_drewN (below_drewN (Below.refl _ _) _) _)) hgB ?_; intro w7 hg7 hb7))
      have hv7 : BJ w7 g 161 [a, a, b', c, d, e, f, g'] J := hg7.out
      have hk7 : BW w7 gk 210 KL := (hb7.block gk (by omega)).trans hk5.out
      have hs7 : BW w7 (gk + 1) 210 SL := (hb7.block (gk + 1) (by omega)).trans hs5.out
      have hbb7 : Below w.heap.size w w7 := hb5.out.trans (hb7.mono (by omega))
      have x4 := hv7.cell 4 d rfl
      have f4 := hv7.frozen 4
      have x0 := hv7.cell 0 a rfl
      have f0 := hv7.frozen 0
      have hv9 := (hv7.set 4 (d + ON) (by simp)).set 0 (ON + TW) (by simp)
      have hk9 := hid ((hk7.other ⟨g, 4, none⟩ (.int .u32 (((d.toNat : Int) + (ON.toNat : Int)) % 4294967296)) (Ne.symm hgk)).other ⟨g, 0, none⟩ (.int .u32 (((ON.toNat : Int) + (TW.toNat : Int)) % 4294967296)) (Ne.symm hgk))
      have hs9 := hid ((hs7.other ⟨g, 4, none⟩ (.int .u32 (((d.toNat : Int) + (ON.toNat : Int)) % 4294967296)) (Ne.symm hgw)).other ⟨g, 0, none⟩ (.int .u32 (((ON.toNat : Int) + (TW.toNat : Int)) % 4294967296)) (Ne.symm hgw))
      have hb9 := hid (b_set (b_set hbb7 (p := ⟨g, 4, none⟩) hgw0 (.int .u32 (((d.toNat : Int) + (ON.toNat : Int)) % 4294967296))) (p := ⟨g, 0, none⟩) hgw0 (.int .u32 (((ON.toNat : Int) + (TW.toNat : Int)) % 4294967296)))
      rw [← u_add2 d ON, ← u_add2 ON TW] at hv9
      have hv9 : Hid (BJ ((w7.setCell ⟨g, 4, none⟩ (.int .u32 (((d.toNat : Int) + (ON.toNat : Int)) % 4294967296))).setCell ⟨g, 0, none⟩ (.int .u32 (((ON.toNat : Int) + (TW.toNat : Int)) % 4294967296))) g 161 (S8.mk (ON + TW) a b' c (d + ON) e f g').list J) := hid hv9
      clear hv7 hk7 hs7 hbb7 hg7 hb7 hv5 hk5 hs5 hb5 c0 c1 c2 gl5 hsrc hCS p7 p7'
      go_wp2_with fail
      go_roundw
      case rel => exact ⟨t + 1, ⟨ON + TW, a, b', c, d + ON, e, f, g'⟩, by go_num, by omega, hnx, hv9, hk9, hs9, hb9⟩
      case measure => simp [intOf]; omega
    · obtain rfl : t = 64 := by omega
      have hR : Hid (R = s) := hid (st_end hinv.out)
      have hRs := hR.out
      subst hRs
      clear hR hinv hk hs
      have hat : ∃ b0 o0, a0 = some ⟨b0, o0, none⟩ ∧ b0 < w.heap.size ∧ Hid (∀ (k : Nat) (x : UInt32), h[k]? = some x → w.cell? ⟨b0, o0 + k, none⟩ = some (.int .u32 (x.toNat : Int))) := by
        obtain ⟨a2, c2, hv2, -, -, -, -, hat⟩ := hH.out
        simp only [Value.slice.injEq] at hv2
        obtain ⟨rfl, -, -⟩ := hv2
        obtain ⟨b0, o0, hb0, hlt0, -⟩ := hat 0 (h.getD 0 0) (by rw [List.getD_eq_getElem?_getD, List.getElem?_eq_getElem (by have := h8.out; omega)]; rfl)
        refine ⟨b0, o0, hb0, hlt0, hid fun k x hx => ?_⟩
        obtain ⟨b1, o1, hb1, -, he⟩ := hat k x hx
        rw [hb0] at hb1
        simp only [Option.some.injEq, Addr.mk.injEq, and_true] at hb1
        obtain ⟨rfl, rfl⟩ := hb1
        unfold EU32 at he
        rw [show o0 + k * 1 = o0 + k by omega] at he
        exact he
      obtain ⟨b0, o0, rfl, hlt0, hcell⟩ := hat
      clear hlt ht
      go_wp2_with fail
      go_loopw [16, 102] (fun _ i wr => ∃ (k : Nat), i = .int .i64 (k : Int) ∧ k ≤ 8 ∧ Hid (BJ wr g 161 (RL.take k ++ R.list.drop k) J) ∧ Hid (Below w.heap.size w wr)) (fun _ i _ => 8 - (intOf i).toNat)
      case atStart => exact ⟨0, rfl, by omega, hv, hb⟩
      case round =>
        clear hv hb
        obtain ⟨k, rfl, hk, hv, hb⟩ := hrel
        by_cases hlt : k < 8
        · have hrl : R.list.length = 8 := rfl
          have hx : R.list[k]? = some (R.list[k]'(by omega)) := List.getElem?_eq_getElem _
          have hy : h[k]? = some (h[k]'(by have := h8.out; omega)) := List.getElem?_eq_getElem _
          generalize R.list[k]'(by omega) = x at hx
          generalize h[k]'(by have := h8.out; omega) = y at hy
          have hz : RL[k]? = some (x + y) := by rw [← hRL.out, List.getElem?_zipWith, hx, hy]
          have hRLl : RL.length = 8 := by rw [← hRL.out, List.length_zipWith, h8.out]; rfl
          have cx := hv.out.cell k x (by rw [List.getElem?_append_right (by rw [List.length_take]; omega), List.length_take, hRLl, Nat.min_eq_left hk, Nat.sub_self, List.getElem?_drop]; exact hx)
          have fx := hv.out.frozen k
          have cy := cell_stays hb.out hlt0 (hcell.out k y hy)
          have hset := hv.out.set k (x + y) (by rw [List.length_append, List.length_take, List.length_drop]; omega)
          have hmix : (RL.take k ++ R.list.drop k).set k (x + y) = RL.take (k + 1) ++ R.list.drop (k + 1) := by
            rw [List.set_append_right _ _ (by rw [List.length_take]; omega), List.length_take, hRLl, Nat.min_eq_left hk, Nat.sub_self, List.drop_eq_getElem_cons (show k < R.list.length by omega), List.set_cons_zero, List.take_add_one, hz]
            simp
          rw [hmix, ← u_add2 x y] at hset
          have hb2 := hid (b_set hb.out (p := ⟨g, k, none⟩) hgw0 (.int .u32 (((x.toNat : Int) + (y.toNat : Int)) % 4294967296)))
          replace hset := hid hset
          have k0 : (k : Int) < 8 := by omega
          have hbg : b0 ≠ g := by omega
          clear hx hy hz hRLl hrl hmix hv hb
          go_wp2_with fail
          go_region
          go_wp2_with fail
          go_roundw
          case rel => exact ⟨k + 1, by go_num, by omega, hid hset.out, hid (Below.drew hb2.out)⟩
          case measure => simp [intOf]; omega
        · obtain rfl : k = 8 := by omega
          have hRLl : RL.length = 8 := by rw [← hRL.out, List.length_zipWith, h8.out]; rfl
          have hv2 : BJ wr g 161 RL J := by
            have h1 := hv.out
            rw [List.take_of_length_le (by omega), List.drop_of_length_le (show R.list.length ≤ 8 from Nat.le_refl _), List.append_nil] at h1
            exact h1
          have hrd := hv2.reads (cap := cap) (by omega) (by unfold maxLen; omega) (by omega)
          rw [hRLl] at hrd
          replace hrd := hid hrd
          clear hv2 hv hRLl
          go_wp2_with fail
          go_ret2
          exact ⟨_, rfl, hrd.out, hb.out⟩

theorem sha_Step (vh vb : Value) (h b : List UInt32) (w : World) (hh : RW w vh h) (hb : RW w vb b) :
    Calls Tryz.prog 190 #[vh, vb] w fun e w' => ∃ v', e = .returned (.tuple #[v', .int .i64 (stepErr h b)]) ∧ RW w' v' (stepOut h b) ∧ Below w.heap.size w w' := by
  by_cases hn : h.length = 8 ∧ b.length = 16
  · rw [stepErr, stepOut, if_pos hn, if_pos hn]
    refine sha_Step' roundW (sched b) (stepsN roundW (sched b) 64 (s8Of h)) _ vh vb h b w hh hb hn.1 hn.2 roundW_len ?_ rfl sha_rounds (fun w v hv => sha_schedule v b w hv hn.2) rfl
    unfold sched
    rw [schedN_len, hn.2]
  · rw [stepErr, stepOut, if_neg hn, if_neg hn]
    refine (sha_Step_no vh vb h b w hh hb hn).mono ?_
    rintro e w' ⟨rfl, rfl⟩
    exact ⟨_, rfl, RS.nil, Below.refl _ _⟩
end Go.Proofs.YtojebioolflbkaaGreat
