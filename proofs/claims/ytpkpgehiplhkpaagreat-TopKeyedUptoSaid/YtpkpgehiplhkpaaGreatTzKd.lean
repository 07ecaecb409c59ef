import Derived.Test.YtpkpgehiplhkpaaGreatTzShb
namespace Go.Proofs.YtpkpgehiplhkpaaGreat
open Go.RowKit
theorem qtzkd_2 {P : Prop} (h : P := by decide) : P := h
theorem qtzkd_1 {P : Prop} (h : P := by omega) : P := h
set_option maxRecDepth 100000 in
set_option maxHeartbeats 400000 in
theorem bits_RotateLeft32_up (x : UInt32) (m : Nat) (w : World) (h0 : 0 < m) (h1 : m ≤ 31) :
 Calls Tryz.prog 81 #[.int .u32 (x.toNat : Int), .int .i64 ((32 - m : Nat) : Int)] w fun e w' => e = .returned (.int .u32 ((rot x m).toNat : Int)) ∧ w = w' := by
 have hx : x.toNat < 4294967296 := x.toNat_lt
 have hn : bits .and .u64 (((32 - m : Nat)) : Int) 31 = (((32 - m : Nat)) : Int) := by
  have key : ∀ k : Fin 32, bits .and .u64 ((k.val : Nat) : Int) 31 = ((k.val : Nat) : Int) := by decide +kernel
  exact key ⟨32 - m, by omega⟩
 have hr := hid (rot_or' x m h1 h0)
 obtain ⟨k, hk⟩ : ∃ k, k = 32 - m := ⟨_, rfl⟩
 rw [← hk] at hn hr ⊢
 have hk1 : (k : Int) ≤ 31 := by omega
 have hk0 : (0 : Int) < k := by omega
 clear hk
 go_enter Tryz.func81, Tryz.ntmps81
 go_wp2_with fail
 go_ret
 exact ⟨ret_i hr.out, rfl⟩
theorem bits_up (x : UInt32) (m : Nat) (n : Int) (w : World) (h0 : 0 < m) (h1 : m ≤ 31) (hn : n = ((32 - m : Nat) : Int)) :
 Calls Tryz.prog 81 #[.int .u32 (x.toNat : Int), .int .i64 n] w fun e w' => e = .returned (.int .u32 ((rot x m).toNat : Int)) ∧ w = w' := by
 subst hn
 exact bits_RotateLeft32_up x m w h0 h1
theorem bits_still (x : UInt32) (m : Nat) (n : Int) (w : World) (h0 : 0 < m) (h1 : m ≤ 31) (hn : n = ((32 - m : Nat) : Int)) :
 Calls Tryz.prog 81 #[.int .u32 (x.toNat : Int), .int .i64 n] w fun e w' => e = .returned (.int .u32 ((rot x m).toNat : Int)) ∧ w' = w :=
 (bits_up x m n w h0 h1 hn).mono fun _ _ ⟨a, b⟩ => ⟨a, b.symm⟩
theorem bits_any (x : UInt32) (n : Int) (w : World) (h0 : 0 < n) (h1 : n ≤ 31) :
 Calls Tryz.prog 81 #[.int .u32 (x.toNat : Int), .int .i64 n] w fun e w' => e = .returned (.int .u32 ((rot x (32 - n.toNat)).toNat : Int)) ∧ w = w' :=
 bits_up x (32 - n.toNat) n w qtzkd_1 qtzkd_1 qtzkd_1
set_option maxRecDepth 100000 in
theorem keep_constants (w : World) : Calls Tryz.prog 39 #[] w fun e w' => ∃ k, e = .returned (.slice (some ⟨k, 0, none⟩) 64 64) ∧ w.heap.size ≤ k ∧ RW w' (.slice (some ⟨k, 0, none⟩) 64 64) roundW ∧ Below w.heap.size w w' := by
 go_enter Tryz.func39, Tryz.ntmps39
 go_wp2_with fail
 go_ret
 exact ⟨_, rfl, Nat.le_refl _, lit32 _ _ _ _ _ _ rfl rfl rfl qtzkd_2, b_alloc (Below.refl _ _) _⟩
def pkN (l : List UInt8) : Nat → List UInt32
 | 0 => zero64
 | n + 1 => (pkN l n).set (n / 4) ((pkN l n).getD (n / 4) 0 <<< 8 ||| UInt32.ofNat (l.getD n 0).toNat)
theorem pkN_len (l : List UInt8) : ∀ n, (pkN l n).length = 64
 | 0 => rfl
 | n + 1 => by rw [pkN, List.length_set, pkN_len l n]
theorem pk_nat (x : UInt32) (y : UInt8) (h : x.toNat < 16777216) : (x <<< 8 ||| UInt32.ofNat y.toNat).toNat = x.toNat * 256 + y.toNat := by
 have hy := y.toNat_lt
 rw [UInt32.toNat_or, UInt32.toNat_shiftLeft, UInt32.toNat_ofNat', show (8 : UInt32).toNat % 32 = 8 from rfl, Nat.mod_eq_of_lt (a := y.toNat) qtzkd_1, Nat.mod_eq_of_lt (a := x.toNat <<< 8) (by rw [Nat.shiftLeft_eq]; omega), ← Nat.shiftLeft_add_eq_or_of_lt qtzkd_1, Nat.shiftLeft_eq]
theorem pk_four (a b c d : UInt8) : ((((0 : UInt32) <<< 8 ||| UInt32.ofNat a.toNat) <<< 8 ||| UInt32.ofNat b.toNat) <<< 8 ||| UInt32.ofNat c.toNat) <<< 8 ||| UInt32.ofNat d.toNat = wordOf a b c d := by
 have ha := a.toNat_lt
 have hb := b.toNat_lt
 have hc := c.toNat_lt
 have h1 := pk_nat 0 a qtzkd_2
 have h2 := pk_nat _ b (show ((0 : UInt32) <<< 8 ||| UInt32.ofNat a.toNat).toNat < 16777216 by rw [h1]; show 0 * 256 + _ < _; omega)
 have h3 := pk_nat _ c (show (((0 : UInt32) <<< 8 ||| UInt32.ofNat a.toNat) <<< 8 ||| UInt32.ofNat b.toNat).toNat < 16777216 by rw [h2, h1]; show (0 * 256 + _) * 256 + _ < _; omega)
 have h4 := pk_nat _ d (show ((((0 : UInt32) <<< 8 ||| UInt32.ofNat a.toNat) <<< 8 ||| UInt32.ofNat b.toNat) <<< 8 ||| UInt32.ofNat c.toNat).toNat < 16777216 by rw [h3, h2, h1]; show ((0 * 256 + _) * 256 + _) * 256 + _ < _; omega)
 apply UInt32.toNat_inj.1
 rw [h4, h3, h2, h1, wordOf_nat]
 show (((0 * 256 + _) * 256 + _) * 256 + _) * 256 + _ = _
 omega
theorem set_mid {α : Type} (W Z : List α) (z y : α) (k : Nat) (h : W.length = k) : (W ++ z :: Z).set k y = W ++ y :: Z := by
 subst h
 rw [List.set_append_right _ _ (Nat.le_refl _), Nat.sub_self, List.set_cons_zero]
theorem getD_mid (W Z : List UInt32) (z : UInt32) (k : Nat) (h : W.length = k) : (W ++ z :: Z).getD k 0 = z := by
 subst h
 rw [List.getD_eq_getElem?_getD, List.getElem?_append_right (Nat.le_refl _), Nat.sub_self]
 rfl
theorem pk_step (l : List UInt8) (W Z : List UInt32) (z : UInt32) (n k : Nat) (h : W.length = k) (hk : n / 4 = k) (hp : pkN l n = W ++ z :: Z) : pkN l (n + 1) = W ++ (z <<< 8 ||| UInt32.ofNat (l.getD n 0).toNat) :: Z := by
 rw [pkN, hk, hp, getD_mid W Z z k h, set_mid W Z z _ k h]
theorem pk_words (l : List UInt8) (hl : 64 ≤ l.length) : ∀ k, k ≤ 16 → pkN l (4 * k) = wordsDec l k ++ List.replicate (64 - k) 0
 | 0, _ => rfl
 | k + 1, hk => by
   have ih := pk_words l hl k qtzkd_1
   rw [show 64 - k = (64 - (k + 1)) + 1 by omega, List.replicate_succ] at ih
   have hW := wordsDec_len l k
   have h1 := pk_step l _ _ _ (4 * k) k hW qtzkd_1 ih
   have h2 := pk_step l _ _ _ (4 * k + 1) k hW qtzkd_1 h1
   have h3 := pk_step l _ _ _ (4 * k + 2) k hW qtzkd_1 h2
   have h4 := pk_step l _ _ _ (4 * k + 3) k hW qtzkd_1 h3
   rw [show 4 * (k + 1) = 4 * k + 3 + 1 by omega, h4, pk_four, wordsDec_snoc, wordAt_val l k (4 * k) rfl qtzkd_1, List.append_assoc]
   have g : ∀ j (hj : j < l.length), l.getD j 0 = l[j] := fun j hj => by rw [List.getD_eq_getElem?_getD, List.getElem?_eq_getElem hj]; rfl
   rw [g (4 * k) qtzkd_1, g (4 * k + 1) qtzkd_1, g (4 * k + 2) qtzkd_1, g (4 * k + 3) qtzkd_1]
   rfl
def addN (X V : List UInt32) : Nat → List UInt32
 | 0 => X
 | n + 1 => (addN X V n).set n (X.getD n 0 + V.getD n 0)
theorem addN_len (X V : List UInt32) : ∀ n, (addN X V n).length = X.length
 | 0 => rfl
 | n + 1 => by rw [addN, List.length_set, addN_len X V n]
theorem addN_rest (X V : List UInt32) : ∀ n k, n ≤ k → (addN X V n).getD k 0 = X.getD k 0
 | 0, _, _ => rfl
 | n + 1, k, h => by
   rw [addN, List.getD_eq_getElem?_getD, List.getElem?_set_ne qtzkd_1, ← List.getD_eq_getElem?_getD]
   exact addN_rest X V n k qtzkd_1
theorem pk_val (x : UInt32) (y : UInt8) : bits .or .u32 ((x.toNat : Int) * (256 : Int) % (4294967296 : Int)) ((y.toNat : Int) % (4294967296 : Int)) = ((x <<< 8 ||| UInt32.ofNat y.toNat).toNat : Int) := by
 have hy := y.toNat_lt
 have e1 : (x.toNat : Int) * (256 : Int) % (4294967296 : Int) = ((x <<< 8).toNat : Int) := by
  rw [UInt32.toNat_shiftLeft, show (8 : UInt32).toNat % 32 = 8 from rfl, Nat.shiftLeft_eq]
  omega
 have e2 : (y.toNat : Int) % (4294967296 : Int) = ((UInt32.ofNat y.toNat).toNat : Int) := by
  rw [UInt32.toNat_ofNat']
  omega
 rw [e1, e2, w_or]
theorem ones_bit : ∀ j : Fin 32, (4294967295#32)[j] = true := by decide
theorem all_ones (x : UInt32) : (4294967295 : UInt32) ^^^ x = ~~~x := by
 apply UInt32.toBitVec_inj.1
 ext i hi
 have h2 : (4294967295 : UInt32).toBitVec[i] = true := ones_bit ⟨i, hi⟩
 simp only [UInt32.toBitVec_xor, UInt32.toBitVec_not, BitVec.getElem_xor, BitVec.getElem_not, h2]
 cases x.toBitVec[i] <;> rfl
theorem chK (e f g : UInt32) : bits .xor .u32 (bits .and .u32 (e.toNat : Int) (f.toNat : Int)) (bits .and .u32 (bits .xor .u32 (if IntKind.u32.signed = true then -1 else IntKind.u32.max) (e.toNat : Int)) (g.toNat : Int)) = ((choose e f g).toNat : Int) := by
 have h : (if IntKind.u32.signed = true then -1 else IntKind.u32.max) = (((4294967295 : UInt32).toNat : Nat) : Int) := rfl
 rw [h, w_and, w_xor, all_ones, w_and, w_xor]
 congr 2
 apply UInt32.toBitVec_inj.1
 unfold choose
 ext i hi
 simp only [UInt32.toBitVec_xor, UInt32.toBitVec_and, UInt32.toBitVec_or, UInt32.toBitVec_not, BitVec.getElem_xor, BitVec.getElem_and, BitVec.getElem_or, BitVec.getElem_not]
 cases e.toBitVec[i] <;> cases f.toBitVec[i] <;> cases g.toBitVec[i] <;> rfl
theorem moK (a b c : UInt32) : bits .xor .u32 (bits .xor .u32 (bits .and .u32 (a.toNat : Int) (b.toNat : Int)) (bits .and .u32 (a.toNat : Int) (c.toNat : Int))) (bits .and .u32 (b.toNat : Int) (c.toNat : Int)) = ((most a b c).toNat : Int) := by
 rw [w_and, w_and, w_and, w_xor, w_xor]
 congr 2
 apply UInt32.toBitVec_inj.1
 unfold most
 ext i hi
 simp only [UInt32.toBitVec_xor, UInt32.toBitVec_and, UInt32.toBitVec_or, BitVec.getElem_xor, BitVec.getElem_and, BitVec.getElem_or]
 cases a.toBitVec[i] <;> cases b.toBitVec[i] <;> cases c.toBitVec[i] <;> rfl
def zero8 : List UInt32 := List.replicate 8 0
theorem zero8_cells : (#[Value.int IntKind.u32 0, Value.int IntKind.u32 0, Value.int IntKind.u32 0, Value.int IntKind.u32 0, Value.int IntKind.u32 0, Value.int IntKind.u32 0, Value.int IntKind.u32 0, Value.int IntKind.u32 0] : Array Value) = (zero8.flatMap cU32).toArray := by kernel_rfl
set_option maxRecDepth 100000 in
set_option maxHeartbeats 4000000 in
theorem keep_hashed' (KL SL PL : List UInt32) (R : S8) (x0 x1 x2 x3 x4 x5 x6 x7 : UInt32) (vb vk : Value) (l : List UInt8) (w : World) (hb : RB w vb l) (hk : RW w vk KL) (h64 : 64 ≤ l.length)
 (hKL : KL.length = 64) (hSL : SL.length = 64) (hst : StInv R KL SL 0 ⟨x0, x1, x2, x3, x4, x5, x6, x7⟩) (hpk : pkN l 64 = PL ++ List.replicate 48 0) (hPL : PL.length = 16) (hsc : SchedInv SL PL) :
 Calls Tryz.prog 40 #[aggW [x0, x1, x2, x3, x4, x5, x6, x7], vb, vk] w fun e w' => e = .returned (aggW [x0 + R.a, x1 + R.b, x2 + R.c, x3 + R.d, x4 + R.e, x5 + R.f, x6 + R.g, x7 + R.h]) ∧ Below w.heap.size w w' := by
 have hal := arr_len
 have hel := arr_elem
 have hlm : l.length ≤ 140737488351232 := by obtain ⟨_, _, _, _, _, hre, _⟩ := hb; omega
 have hB := hid hb
 obtain ⟨a1, c1, rfl, -⟩ := hb
 replace hpk := hid hpk
 replace hsc := hid hsc
 replace hst := hid hst
 obtain ⟨bk, ok, ck, rfl, hlk, -, -, hck⟩ := hk.block' qtzkd_1
 rw [hKL]
 replace hck := hid hck
 replace hKL := hid hKL
 replace hSL := hid hSL
 clear hk
 show Calls _ _ #[.agg #[.int .u32 (x0.toNat : Int), .int .u32 (x1.toNat : Int), .int .u32 (x2.toNat : Int), .int .u32 (x3.toNat : Int), .int .u32 (x4.toNat : Int), .int .u32 (x5.toNat : Int), .int .u32 (x6.toNat : Int), .int .u32 (x7.toNat : Int)], _, _] _ _
 go_enter Tryz.func40, Tryz.ntmps40
 go_upto_region 2 with fail
 rw [zero64_cells, zero8_cells]
 generalize hw3 : ((w.alloc (.cells #[.int .u32 (x0.toNat : Int), .int .u32 (x1.toNat : Int), .int .u32 (x2.toNat : Int), .int .u32 (x3.toNat : Int), .int .u32 (x4.toNat : Int), .int .u32 (x5.toNat : Int), .int .u32 (x6.toNat : Int), .int .u32 (x7.toNat : Int)] 99)).alloc (.cells (zero8.flatMap cU32).toArray 99)).alloc (.cells (zero64.flatMap cU32).toArray 147) = w3
 have hH := hid (show BW w3 w.heap.size 99 [x0, x1, x2, x3, x4, x5, x6, x7] by rw [← hw3]; exact ((bw_new w _ _ [x0, x1, x2, x3, x4, x5, x6, x7] _ rfl rfl).alloc _).alloc _)
 have hZ := hid (show BW w3 (w.heap.size + 1) 99 zero8 by rw [← hw3]; exact (bw_new _ _ _ _ _ (by simp) rfl).alloc _)
 have hW := hid (show BW w3 (w.heap.size + 1 + 1) 147 (pkN l 0) by rw [← hw3]; exact bw_new _ _ _ _ _ (by simp) rfl)
 have hb3 := hid (show Below w.heap.size w w3 by rw [← hw3]; exact b_alloc (b_alloc (b_alloc (Below.refl _ _) _) _) _)
 have hs3 : w3.heap.size = w.heap.size + 1 + 1 + 1 := by rw [← hw3]; simp
 clear hw3
 obtain ⟨bb, bo, bc, hbs, hbl, -, -, hbat⟩ := RB.block hB.out qtzkd_1
 simp only [Value.slice.injEq] at hbs
 obtain ⟨rfl, -, rfl⟩ := hbs
 replace hbat := hid hbat
 go_wp2_with fail
 go_loopw [8, 19] (fun _ i wr => ∃ n : Nat, i = .int .i64 (n : Int) ∧ n ≤ 64 ∧ Hid (BW wr (w.heap.size + 1 + 1) 147 (pkN l n)) ∧ Hid (Below (w.heap.size + 1 + 1) w3 wr)) (fun _ i _ => 64 - (intOf i).toNat)
 case atStart => exact ⟨0, rfl, by omega, hW, hid (Below.refl _ _)⟩
 clear hW
 obtain ⟨n, rfl, hn, hW, hbr⟩ := hrel
 by_cases hlt : n < 64
 · have cw := hW.out.cellD (n / 4) (by rw [pkN_len]; omega)
   have cf := hW.out.frozen (n / 4)
   have hl := hW.out.lt
   have cb : wr.cell? ⟨bb, bo + n, none⟩ = some (.int .u8 ((l[n]'qtzkd_1).toNat : Int)) := by
    rw [hbr.out.cell (by show bb < _; omega), hb3.out.cell (by show bb < _; omega)]
    exact hbat.out n qtzkd_1
   generalize hx : (pkN l n).getD (n / 4) 0 = x at cw
   generalize hy : l[n]'qtzkd_1 = y at cb
   replace hx := hid hx
   replace hy := hid hy
   replace hs3 := hid hs3
   have n0 : (n : Int) < 64 := by omega
   replace hlt := hid hlt
   go_upto_region 5 with fail
   have e1 : ((n : Int) / 4).toNat = n / 4 := by omega
   have e2 : (0 : Int) ≤ (n : Int) / 4 := by omega
   have e3 : (n : Int) / 4 < 64 := by omega
   have e4 : (n : Int) < (l.length : Int) := by omega
   go_region
   clear e1 e2 e3 e4 cw cb cf
   go_wp2_with fail
   go_roundw
   case rel =>
    refine ⟨n + 1, by simp, by omega, ?_, hid (Below.drew (hbr.out.setCell (p := ⟨w.heap.size + 1 + 1, n / 4, none⟩) (Nat.le_refl _) _))⟩
    have h1 := hW.out.set (n / 4) (x <<< 8 ||| UInt32.ofNat y.toNat)
    rw [← pk_val x y] at h1
    refine hid ?_
    show BW (World.drew _) _ _ _
    rw [pkN, hx.out, List.getD_eq_getElem?_getD, List.getElem?_eq_getElem (by omega : n < l.length), Option.getD_some, hy.out]
    exact h1
   case measure => simp [intOf]; omega
 obtain rfl : n = 64 := by omega
 rw [hpk.out] at hW
 have hW2 : Hid (BW wr (w.heap.size + 1 + 1) 147 (PL ++ List.replicate (64 - PL.length) 0)) := hid (by rw [hPL]; exact hW.out)
 replace hPL := hid hPL
 clear hW hn hlt hpk
 obtain ⟨wo, rfl⟩ : ∃ wo : World, wo = wr := ⟨wr, rfl⟩
 go_wp2_with fail
 go_loopw [9, 10, 11] (fun i _ _ wr => ∃ wl : List UInt32, i = .int .i64 (wl.length : Int) ∧ 16 ≤ wl.length ∧ wl.length ≤ 64 ∧ Hid (SchedInv SL wl) ∧ Hid (BW wr (w.heap.size + 1 + 1) 147 (wl ++ List.replicate (64 - wl.length) 0)) ∧ Hid (Below (w.heap.size + 1 + 1) w3 wr)) (fun i _ _ _ => 64 - (intOf i).toNat)
 case atStart => exact ⟨PL, by rw [hPL.out]; rfl, by rw [hPL.out]; decide, by rw [hPL.out]; decide, hsc, hW2, hbr⟩
 clear hW2 hsc hbr
 obtain ⟨wl, rfl, hlo, hhi, hsc, hrow, hb⟩ := hrel
 by_cases hlt : wl.length < 64
 · have c15 := hrow.out.pre (wl.length - 15) qtzkd_1
   have c2 := hrow.out.pre (wl.length - 2) qtzkd_1
   have c16 := hrow.out.pre (wl.length - 16) qtzkd_1
   have c7 := hrow.out.pre (wl.length - 7) qtzkd_1
   have hg := hrow.out.lt
   have df := hrow.out.frozen wl.length
   have d0 := hrow.out.cell wl.length 0 (by rw [List.getElem?_append_right (Nat.le_refl _), Nat.sub_self, List.getElem?_replicate, if_pos qtzkd_1])
   generalize h16 : wl.getD (wl.length - 16) 0 = x16 at c16
   generalize h15 : wl.getD (wl.length - 15) 0 = x15 at c15
   generalize h7 : wl.getD (wl.length - 7) 0 = x7' at c7
   generalize h2 : wl.getD (wl.length - 2) 0 = x2' at c2
   have hnx := hid (sched_next hsc.out hlt h16 h15 h7 h2)
   clear h16 h15 h7 h2 hsc
   have q0 : (wl.length : Int) < 64 := by omega
   have qA : IntKind.i64.wrap ((wl.length : Int) - 15) = (wl.length : Int) - 15 := IntWalk.i64_in _ qtzkd_1
   have nA : ((wl.length : Int) - 15).toNat = wl.length - 15 := by omega
   have eA : (0 : Int) ≤ (wl.length : Int) - 15 := by omega
   have sA : (wl.length : Int) - 15 < 64 := by omega
   have qB : IntKind.i64.wrap ((wl.length : Int) - 2) = (wl.length : Int) - 2 := IntWalk.i64_in _ qtzkd_1
   have nB : ((wl.length : Int) - 2).toNat = wl.length - 2 := by omega
   have eB : (0 : Int) ≤ (wl.length : Int) - 2 := by omega
   have sB : (wl.length : Int) - 2 < 64 := by omega
   replace hlt := hid hlt
   go_upto_region 10 with fail
   go_quiet (fail)
   have k16 : (wr.drewN nq).cell? ⟨w.heap.size + 1 + 1, wl.length - 16, none⟩ = some (.int .u32 (x16.toNat : Int)) := c16
   have k7 : (wr.drewN nq).cell? ⟨w.heap.size + 1 + 1, wl.length - 7, none⟩ = some (.int .u32 (x7'.toNat : Int)) := c7
   have kd0 : (wr.drewN nq).cell? ⟨w.heap.size + 1 + 1, wl.length, none⟩ = some (.int .u32 ((0 : UInt32).toNat : Int)) := d0
   have kdf : (wr.drewN nq).frozen? ⟨w.heap.size + 1 + 1, wl.length, none⟩ = false := df
   have hrow' : Hid (BW (wr.drewN nq) (w.heap.size + 1 + 1) 147 (wl ++ List.replicate (64 - wl.length) 0)) := hid hrow.out
   have hb' : Hid (Below (w.heap.size + 1 + 1) w3 (wr.drewN nq)) := hid (below_drewN hb.out _)
   have hg' : w.heap.size + 1 + 1 < (wr.drewN nq).heap.size := hg
   clear qA nA eA sA qB nB eB sB c15 c2 hrow hb hg c16 c7 d0 df
   generalize wr.drewN nq = W1 at *
   have qC : IntKind.i64.wrap ((wl.length : Int) - 16) = (wl.length : Int) - 16 := IntWalk.i64_in _ qtzkd_1
   have nC : ((wl.length : Int) - 16).toNat = wl.length - 16 := by omega
   have eC : (0 : Int) ≤ (wl.length : Int) - 16 := by omega
   have sC : (wl.length : Int) - 16 < 64 := by omega
   have qD : IntKind.i64.wrap ((wl.length : Int) - 7) = (wl.length : Int) - 7 := IntWalk.i64_in _ qtzkd_1
   have nD : ((wl.length : Int) - 7).toNat = wl.length - 7 := by omega
   have eD : (0 : Int) ≤ (wl.length : Int) - 7 := by omega
   have sD : (wl.length : Int) - 7 < 64 := by omega
   have pC : (16 : Int) ≤ (wl.length : Int) := by omega
   have pD : (7 : Int) ≤ (wl.length : Int) := by omega
   go_upto_region 11 with fail
   refine wp_region_still_tail 29 (by kernel_rfl) (by kernel_rfl) ?_
   simp only [List.take_succ_cons, List.take_zero, List.drop_succ_cons, List.drop_zero]
   iterate 11 still_step
   still_call (bits_still x15 7 25 _ qtzkd_2 qtzkd_2 qtzkd_2)
   still_step
   still_call (bits_still x15 18 14 _ qtzkd_2 qtzkd_2 qtzkd_2)
   iterate 6 still_step
   still_call (bits_still x2' 17 15 _ qtzkd_2 qtzkd_2 qtzkd_2)
   still_step
   still_call (bits_still x2' 19 13 _ qtzkd_2 qtzkd_2 qtzkd_2)
   iterate 6 still_step
   refine wpStill_nil ?_
   change wpList _ _ _ _ _ W1.drew
   have jd0 : W1.drew.cell? ⟨w.heap.size + 1 + 1, wl.length, none⟩ = some (.int .u32 ((0 : UInt32).toNat : Int)) := kd0
   have jdf : W1.drew.frozen? ⟨w.heap.size + 1 + 1, wl.length, none⟩ = false := kdf
   clear qC nC eC sC qD nD eD sD pC pD kd0 kdf k16 k7
   go_wp2_with fail
   go_roundw
   case rel =>
    (repeat apply Exists.intro)
    refine ⟨⟨wl ++ [x16 + mixW x15 2 + x7' + mixW x2' 3], by simp, by simp; omega, by simp; have := hlt.out; omega, hnx, ?_, hid (Below.drew (hb'.out.setCell (p := ⟨w.heap.size + 1 + 1, wl.length, none⟩) (Nat.le_refl _) _))⟩, rfl⟩
    have h1 := hrow'.out.set wl.length (x16 + mixW x15 2 + x7' + mixW x2' 3)
    have hv : ((x16.toNat : Int) + (x7'.toNat : Int) + bits .xor .u32 (bits .xor .u32 ((rot x15 7).toNat : Int) ((rot x15 18).toNat : Int)) ((x15.toNat : Int) / 8) + bits .xor .u32 (bits .xor .u32 ((rot x2' 17).toNat : Int) ((rot x2' 19).toNat : Int)) ((x2'.toNat : Int) / 1024)) % 4294967296 = ((x16 + mixW x15 2 + x7' + mixW x2' 3).toNat : Int) := by
     rw [mixA, mixB]
     simp only [UInt32.toNat_add]
     omega
    rw [zeros_set wl _ hlt.out, ← hv] at h1
    exact hid h1
   case measure => have := hlt.out; simp [intOf]; omega
 have hlen : wl.length = 64 := by omega
 have hS : SL = wl := by have h1 := hsc.out; unfold SchedInv at h1; rw [h1, hlen]; rfl
 have hrow2 : Hid (BW wr (w.heap.size + 1 + 1) 147 SL) := by
  have h1 := hrow.out
  rw [hlen, show 64 - 64 = 0 from rfl, List.replicate_zero, List.append_nil, ← hS] at h1
  exact hid h1
 have hsz := hb.out.size
 have hHr := hid (show BW wr w.heap.size 99 [x0, x1, x2, x3, x4, x5, x6, x7] from (hb.out.block w.heap.size qtzkd_1).trans hH.out)
 have hZr := hid (show BW wr (w.heap.size + 1) 99 zero8 from (hb.out.block (w.heap.size + 1) qtzkd_1).trans hZ.out)
 have hbw := hid (hb3.out.trans (hb.out.mono (show w.heap.size ≤ w.heap.size + 1 + 1 by omega)))
 have d0 := hHr.out.cell 0 x0 rfl
 have d1 := hHr.out.cell 1 x1 rfl
 have d2 := hHr.out.cell 2 x2 rfl
 have d3 := hHr.out.cell 3 x3 rfl
 have d4 := hHr.out.cell 4 x4 rfl
 have d5 := hHr.out.cell 5 x5 rfl
 have d6 := hHr.out.cell 6 x6 rfl
 have d7 := hHr.out.cell 7 x7 rfl
 have q0 : ¬ ((wl.length : Int) < 64) := by omega
 clear hlo hhi hlt hsc hrow hS hlen hb hb3 hH hZ
 go_upto_region 13 with fail
 have hV := hid (bw_new wr 99 #[.int .u32 (x0.toNat : Int), .int .u32 (x1.toNat : Int), .int .u32 (x2.toNat : Int), .int .u32 (x3.toNat : Int), .int .u32 (x4.toNat : Int), .int .u32 (x5.toNat : Int), .int .u32 (x6.toNat : Int), .int .u32 (x7.toNat : Int)] [x0, x1, x2, x3, x4, x5, x6, x7] wr.heap.size rfl rfl)
 have hHo := hid (hHr.out.alloc (.cells #[.int .u32 (x0.toNat : Int), .int .u32 (x1.toNat : Int), .int .u32 (x2.toNat : Int), .int .u32 (x3.toNat : Int), .int .u32 (x4.toNat : Int), .int .u32 (x5.toNat : Int), .int .u32 (x6.toNat : Int), .int .u32 (x7.toNat : Int)] 99))
 have hZo := hid (hZr.out.alloc (.cells #[.int .u32 (x0.toNat : Int), .int .u32 (x1.toNat : Int), .int .u32 (x2.toNat : Int), .int .u32 (x3.toNat : Int), .int .u32 (x4.toNat : Int), .int .u32 (x5.toNat : Int), .int .u32 (x6.toNat : Int), .int .u32 (x7.toNat : Int)] 99))
 have hWo := hid (hrow2.out.alloc (.cells #[.int .u32 (x0.toNat : Int), .int .u32 (x1.toNat : Int), .int .u32 (x2.toNat : Int), .int .u32 (x3.toNat : Int), .int .u32 (x4.toNat : Int), .int .u32 (x5.toNat : Int), .int .u32 (x6.toNat : Int), .int .u32 (x7.toNat : Int)] 99))
 have hbo := hid (b_alloc hbw.out (.cells #[.int .u32 (x0.toNat : Int), .int .u32 (x1.toNat : Int), .int .u32 (x2.toNat : Int), .int .u32 (x3.toNat : Int), .int .u32 (x4.toNat : Int), .int .u32 (x5.toNat : Int), .int .u32 (x6.toNat : Int), .int .u32 (x7.toNat : Int)] 99))
 have hlw := hrow2.out.lt
 clear d0 d1 d2 d3 d4 d5 d6 d7 hHr hZr hrow2 hbw hsz hs3
 obtain ⟨V, hVe⟩ : ∃ V, V = wr.heap.size := ⟨_, rfl⟩
 rw [← hVe] at hV hlw ⊢
 clear hVe
 generalize wr.alloc (.cells #[.int .u32 (x0.toNat : Int), .int .u32 (x1.toNat : Int), .int .u32 (x2.toNat : Int), .int .u32 (x3.toNat : Int), .int .u32 (x4.toNat : Int), .int .u32 (x5.toNat : Int), .int .u32 (x6.toNat : Int), .int .u32 (x7.toNat : Int)] 99) = wo at *
 go_wp2_with fail
 go_loopw [13, 14, 15, 16, 17, 79] (fun _ _ _ _ _ i wr => ∃ (t : Nat) (s : S8), i = .int .i64 (t : Int) ∧ t ≤ 64 ∧ Hid (BW wr V 99 s.list) ∧ Hid (StInv R KL SL t s) ∧ Hid (Below V wo wr)) (fun _ _ _ _ _ i _ => 64 - (intOf i).toNat)
 case atStart => exact ⟨0, ⟨x0, x1, x2, x3, x4, x5, x6, x7⟩, rfl, by omega, hV, hst, hid (Below.refl _ _)⟩
 obtain ⟨t, ⟨xa, xb, xc, xd, xe, xf, xg, xh⟩, rfl, ht, hv, hinv, hbel⟩ := hrel
 replace hv : Hid (BW wr V 99 [xa, xb, xc, xd, xe, xf, xg, xh]) := hv
 by_cases hlt : t < 64
 · have ck : wr.cell? ⟨bk, ok + t, none⟩ = some (.int .u32 ((KL.getD t 0).toNat : Int)) := cell_stays (hbo.out.trans (hbel.out.mono qtzkd_1)) hlk (hck.out t _ (by rw [List.getD_eq_getElem?_getD, List.getElem?_eq_getElem (by have := hKL.out; omega)]; rfl))
   have hWr : BW wr (w.heap.size + 1 + 1) 147 SL := (hbel.out.block _ hlw).trans hWo.out
   have cw := hWr.cellD t (by have := hSL.out; omega)
   generalize hkt : KL.getD t 0 = kt at ck
   generalize hwt : SL.getD t 0 = wt at cw
   have hnx := hid (st_next hinv.out hlt hkt hwt)
   clear hkt hwt hinv hWr
   have t0 : (t : Int) < 64 := by omega
   have e0 := hv.out.cell 0 xa rfl
   have e4 := hv.out.cell 4 xe rfl
   replace hlt := hid hlt
   go_upto_region 16 with fail
   go_quiet (fail)
   have hv1 : Hid (BW (wr.drewN nq) V 99 [xa, xb, xc, xd, xe, xf, xg, xh]) := hid hv.out
   have hb1 : Hid (Below V wo (wr.drewN nq)) := hid (below_drewN hbel.out _)
   have ck1 : (wr.drewN nq).cell? ⟨bk, ok + t, none⟩ = some (.int .u32 (kt.toNat : Int)) := ck
   have cw1 : (wr.drewN nq).cell? ⟨w.heap.size + 1 + 1, t, none⟩ = some (.int .u32 (wt.toNat : Int)) := cw
   clear hv hbel ck cw e0 e4
   generalize wr.drewN nq = W1 at *
   have e5 := hv1.out.cell 5 xf rfl
   have e6 := hv1.out.cell 6 xg rfl
   have e7 := hv1.out.cell 7 xh rfl
   go_upto_region 17 with fail
   go_quiet (exact quiet_left1 (bits_any xe _ _ qtzkd_2 qtzkd_2))
   rw [mixC, chK, u_add5]
   have hv2 : Hid (BW (W1.drewN nq) V 99 [xa, xb, xc, xd, xe, xf, xg, xh]) := hid hv1.out
   have hb2 : Hid (Below V wo (W1.drewN nq)) := hid (below_drewN hb1.out _)
   have hstep : Hid (StInv R KL SL (t + 1) (step8 ⟨xa, xb, xc, xd, xe, xf, xg, xh⟩ kt wt)) := hnx
   have hon : one8 ⟨xa, xb, xc, xd, xe, xf, xg, xh⟩ kt wt = xh + mixW xe 1 + choose xe xf xg + kt + wt := rfl
   have htw : two8 ⟨xa, xb, xc, xd, xe, xf, xg, xh⟩ = mixW xa 0 + most xa xb xc := rfl
   unfold step8 at hstep
   rw [hon, htw] at hstep
   clear hon htw hnx hv1 hb1 ck1 cw1 e5 e6 e7
   generalize W1.drewN nq = W2 at *
   generalize xh + mixW xe 1 + choose xe xf xg + kt + wt = ON at *
   have e1 := hv2.out.cell 1 xb rfl
   have e2 := hv2.out.cell 2 xc rfl
   go_upto_region 18 with fail
   go_quiet (exact quiet_left1 (bits_any xa _ _ qtzkd_2 qtzkd_2))
   rw [mixD, moK, u_add2]
   have hv3 : Hid (BW (W2.drewN nq) V 99 [xa, xb, xc, xd, xe, xf, xg, xh]) := hid hv2.out
   have hb3 : Hid (Below V wo (W2.drewN nq)) := hid (below_drewN hb2.out _)
   clear hv2 hb2 e1 e2
   generalize W2.drewN nq = W3 at *
   generalize mixW xa 0 + most xa xb xc = TW at *
   have e0 := hv3.out.cell 0 xa rfl
   have e1 := hv3.out.cell 1 xb rfl
   have e2 := hv3.out.cell 2 xc rfl
   have e3 := hv3.out.cell 3 xd rfl
   have e4 := hv3.out.cell 4 xe rfl
   have e5 := hv3.out.cell 5 xf rfl
   have e6 := hv3.out.cell 6 xg rfl
   have e7 := hv3.out.cell 7 xh rfl
   have f0 := hv3.out.frozen 0
   have f1 := hv3.out.frozen 1
   have f2 := hv3.out.frozen 2
   have f3 := hv3.out.frozen 3
   have f4 := hv3.out.frozen 4
   have f5 := hv3.out.frozen 5
   have f6 := hv3.out.frozen 6
   have f7 := hv3.out.frozen 7
   go_upto_region 20 with fail
   rw [u_add2 ON TW, u_add2 xd ON]
   have h9 := (((((((hv3.out.set 0 (ON + TW)).set 1 xa).set 2 xb).set 3 xc).set 4 (xd + ON)).set 5 xe).set 6 xf).set 7 xg
   have g9 : Below V wo _ := (((((((hb3.out.setCell (p := ⟨V, 0, none⟩) (Nat.le_refl _) (.int .u32 ((ON + TW).toNat : Int))).setCell (p := ⟨V, 1, none⟩) (Nat.le_refl _) (.int .u32 (xa.toNat : Int))).setCell (p := ⟨V, 2, none⟩) (Nat.le_refl _) (.int .u32 (xb.toNat : Int))).setCell (p := ⟨V, 3, none⟩) (Nat.le_refl _) (.int .u32 (xc.toNat : Int))).setCell (p := ⟨V, 4, none⟩) (Nat.le_refl _) (.int .u32 ((xd + ON).toNat : Int))).setCell (p := ⟨V, 5, none⟩) (Nat.le_refl _) (.int .u32 (xe.toNat : Int))).setCell (p := ⟨V, 6, none⟩) (Nat.le_refl _) (.int .u32 (xf.toNat : Int))).setCell (p := ⟨V, 7, none⟩) (Nat.le_refl _) (.int .u32 (xg.toNat : Int))
   replace h9 := hid h9
   replace g9 := hid g9
   clear e0 e1 e2 e3 e4 e5 e6 e7 f0 f1 f2 f3 f4 f5 f6 f7 hv3 hb3
   go_wp2_with fail
   go_roundw
   case rel => exact ⟨t + 1, ⟨ON + TW, xa, xb, xc, xd + ON, xe, xf, xg⟩, by go_num, by have := hlt.out; omega, hid h9.out, hstep, hid g9.out⟩
   case measure => have := hlt.out; simp [intOf]; omega
 obtain rfl : t = 64 := by omega
 have hR : R = ⟨xa, xb, xc, xd, xe, xf, xg, xh⟩ := st_end hinv.out
 subst hR
 have hHr := hid ((hbel.out.block w.heap.size qtzkd_1).trans hHo.out : BW wr w.heap.size 99 [x0, x1, x2, x3, x4, x5, x6, x7])
 have hZr := hid ((hbel.out.block (w.heap.size + 1) qtzkd_1).trans hZo.out : BW wr (w.heap.size + 1) 99 zero8)
 have hbr := hid (hbo.out.trans (hbel.out.mono (show w.heap.size ≤ V by omega)))
 have hVl : w.heap.size + 1 + 1 < V := hlw
 clear hinv hbel hHo hZo hbo hWo hV hst hck hlw hlt ht
 obtain ⟨wz, rfl⟩ : ∃ wz : World, wz = wr := ⟨wr, rfl⟩
 show Code.wp _ _ _ _ _
 go_wp2_with fail
 go_loopw [18, 160] (fun _ i wr => ∃ n : Nat, i = .int .i64 (n : Int) ∧ n ≤ 8 ∧ Hid (BW wr w.heap.size 99 (addN [x0, x1, x2, x3, x4, x5, x6, x7] [xa, xb, xc, xd, xe, xf, xg, xh] n)) ∧ Hid (BW wr V 99 [xa, xb, xc, xd, xe, xf, xg, xh]) ∧ Hid (BW wr (w.heap.size + 1) 99 zero8) ∧ Hid (Below w.heap.size w wr)) (fun _ i _ => 8 - (intOf i).toNat)
 case atStart => exact ⟨0, rfl, by omega, hHr, hv, hZr, hbr⟩
 clear hHr hZr hbr hv
 obtain ⟨n, rfl, hn, hx, hy, hz, hb⟩ := hrel
 by_cases hlt : n < 8
 · have cx := hx.out.cellD n (by rw [addN_len]; exact hlt)
   rw [addN_rest _ _ n n (Nat.le_refl _)] at cx
   have cy := hy.out.cellD n hlt
   have cf := hx.out.frozen n
   have hlx := hx.out.lt
   have hx9 := hid (fun px => hx.out.set n px)
   generalize hpx : [x0, x1, x2, x3, x4, x5, x6, x7].getD n 0 = px at cx
   generalize hpy : [xa, xb, xc, xd, xe, xf, xg, xh].getD n 0 = py at cy
   replace hpx := hid hpx
   replace hpy := hid hpy
   have n0 : (n : Int) < 8 := by omega
   replace hlt := hid hlt
   go_upto_region 24 with fail
   go_region
   clear cx cy cf hlx
   go_wp2_with fail
   go_roundw
   case rel =>
    refine ⟨n + 1, by go_num, by have := hlt.out; omega, hid ?_, hid ?_, hid ?_, hid (Below.drew (hb.out.setCell (p := ⟨w.heap.size, n, none⟩) (Nat.le_refl _) _))⟩
    · rw [addN, hpx.out, hpy.out, u_add2]
      exact hx9.out (px + py)
    · exact BW.set_other hy.out _ _ (show V ≠ w.heap.size by omega)
    exact BW.set_other hz.out _ _ (show w.heap.size + 1 ≠ w.heap.size by omega)
   case measure => have := hlt.out; simp [intOf]; omega
 obtain rfl : n = 8 := by omega
 have hxx : Hid (BW wr w.heap.size 99 [x0 + xa, x1 + xb, x2 + xc, x3 + xd, x4 + xe, x5 + xf, x6 + xg, x7 + xh]) := hid hx.out
 clear hx hn hlt hy
 obtain ⟨s0, hs0⟩ : ∃ s, Hid (s = x0 + xa) := ⟨_, hid rfl⟩
 obtain ⟨s1, hs1⟩ : ∃ s, Hid (s = x1 + xb) := ⟨_, hid rfl⟩
 obtain ⟨s2, hs2⟩ : ∃ s, Hid (s = x2 + xc) := ⟨_, hid rfl⟩
 obtain ⟨s3, hs3⟩ : ∃ s, Hid (s = x3 + xd) := ⟨_, hid rfl⟩
 obtain ⟨s4, hs4⟩ : ∃ s, Hid (s = x4 + xe) := ⟨_, hid rfl⟩
 obtain ⟨s5, hs5⟩ : ∃ s, Hid (s = x5 + xf) := ⟨_, hid rfl⟩
 obtain ⟨s6, hs6⟩ : ∃ s, Hid (s = x6 + xg) := ⟨_, hid rfl⟩
 obtain ⟨s7, hs7⟩ : ∃ s, Hid (s = x7 + xh) := ⟨_, hid rfl⟩
 rw [← hs0.out, ← hs1.out, ← hs2.out, ← hs3.out, ← hs4.out, ← hs5.out, ← hs6.out, ← hs7.out] at hxx
 have e0 := hxx.out.cell 0 s0 rfl
 have e1 := hxx.out.cell 1 (s1) rfl
 have e2 := hxx.out.cell 2 (s2) rfl
 have e3 := hxx.out.cell 3 (s3) rfl
 have e4 := hxx.out.cell 4 (s4) rfl
 have e5 := hxx.out.cell 5 (s5) rfl
 have e6 := hxx.out.cell 6 (s6) rfl
 have e7 := hxx.out.cell 7 (s7) rfl
 have z0 := hz.out.cell 0 0 rfl
 have z1 := hz.out.cell 1 0 rfl
 have z2 := hz.out.cell 2 0 rfl
 have z3 := hz.out.cell 3 0 rfl
 have z4 := hz.out.cell 4 0 rfl
 have z5 := hz.out.cell 5 0 rfl
 have z6 := hz.out.cell 6 0 rfl
 have z7 := hz.out.cell 7 0 rfl
 have f0 := hz.out.frozen 0
 have f1 := hz.out.frozen 1
 have f2 := hz.out.frozen 2
 have f3 := hz.out.frozen 3
 have f4 := hz.out.frozen 4
 have f5 := hz.out.frozen 5
 have f6 := hz.out.frozen 6
 have f7 := hz.out.frozen 7
 go_wp2_with fail
 have h9 := ((((((((hz.out.set 0 (s0)).set 1 (s1)).set 2 (s2)).set 3 (s3)).set 4 (s4)).set 5 (s5)).set 6 (s6)).set 7 (s7))
 have r0 := h9.cell 0 s0 rfl
 have r1 := h9.cell 1 (s1) rfl
 have r2 := h9.cell 2 (s2) rfl
 have r3 := h9.cell 3 (s3) rfl
 have r4 := h9.cell 4 (s4) rfl
 have r5 := h9.cell 5 (s5) rfl
 have r6 := h9.cell 6 (s6) rfl
 have r7 := h9.cell 7 (s7) rfl
 refine bodyPost_ret (by simp [results, Tryz.results40, go_sem, r0, r1, r2, r3, r4, r5, r6, r7]; try rfl) rfl ?_
 exact ⟨by rw [hs0.out, hs1.out, hs2.out, hs3.out, hs4.out, hs5.out, hs6.out, hs7.out]; rfl, ((((((((hb.out.setCell (p := ⟨w.heap.size + 1, 0, none⟩) (show w.heap.size ≤ w.heap.size + 1 by omega) (.int .u32 ((s0).toNat : Int))).setCell (p := ⟨w.heap.size + 1, 1, none⟩) (show w.heap.size ≤ w.heap.size + 1 by omega) (.int .u32 ((s1).toNat : Int))).setCell (p := ⟨w.heap.size + 1, 2, none⟩) (show w.heap.size ≤ w.heap.size + 1 by omega) (.int .u32 ((s2).toNat : Int))).setCell (p := ⟨w.heap.size + 1, 3, none⟩) (show w.heap.size ≤ w.heap.size + 1 by omega) (.int .u32 ((s3).toNat : Int))).setCell (p := ⟨w.heap.size + 1, 4, none⟩) (show w.heap.size ≤ w.heap.size + 1 by omega) (.int .u32 ((s4).toNat : Int))).setCell (p := ⟨w.heap.size + 1, 5, none⟩) (show w.heap.size ≤ w.heap.size + 1 by omega) (.int .u32 ((s5).toNat : Int))).setCell (p := ⟨w.heap.size + 1, 6, none⟩) (show w.heap.size ≤ w.heap.size + 1 by omega) (.int .u32 ((s6).toNat : Int))).setCell (p := ⟨w.heap.size + 1, 7, none⟩) (show w.heap.size ≤ w.heap.size + 1 by omega) (.int .u32 ((s7).toNat : Int)))⟩
end Go.Proofs.YtpkpgehiplhkpaaGreat
