/-
  The reference's firstRoots: the first bits of the roots of the first primes. The loops' own plain functions; their values are reckoned by the kernel.
-/
import Derived.Test.YtkkfjfhbikipbaaWord4
import Derived.Test.YtkkfjfhbikipbaaShelf
import Derived.Laws.Externs
namespace Go.Proofs.Ytkkfjfhbikipbaa
open Go.RowKit

def fitsB (p : Nat) (cube : Bool) (t : Nat) : Bool :=
  if cube then
    (((t * t % 18446744073709551616 * t / 18446744073709551616 + t * t / 18446744073709551616 * t % 18446744073709551616) / 18446744073709551616 == 0) &&
      (decide ((t * t % 18446744073709551616 * t / 18446744073709551616 + t * t / 18446744073709551616 * t % 18446744073709551616) % 18446744073709551616 < p * 4294967296) ||
        ((t * t % 18446744073709551616 * t / 18446744073709551616 + t * t / 18446744073709551616 * t % 18446744073709551616) % 18446744073709551616 == p * 4294967296 && t * t % 18446744073709551616 * t % 18446744073709551616 == 0)))
  else (decide (t * t / 18446744073709551616 < p) || (t * t / 18446744073709551616 == p && t * t % 18446744073709551616 == 0))
def rootStep (p : Nat) (cube : Bool) (r k : Nat) : Nat := if fitsB p cube (r ||| 2 ^ k) then r ||| 2 ^ k else r
def rootRest (p : Nat) (cube : Bool) : Nat → Nat → Nat
  | 0, r => r
  | n + 1, r => rootRest p cube n (rootStep p cube r n)
def primeRest (p : Nat) : Nat → Nat → Bool → Bool
  | 0, _, b => b
  | f + 1, q, b => if q * q ≤ p then primeRest p f (q + 1) (b && p % q != 0) else b
def primeB (p : Nat) : Bool := primeRest p p 2 true
def rootsRest (many : Nat) (cube : Bool) : Nat → Nat → List UInt32 → List UInt32
  | 0, _, out => out
  | f + 1, p, out => if out.length < many then rootsRest many cube f (p + 1) (if primeB p then out ++ [UInt32.ofNat (rootRest p cube 36 0)] else out) else out

theorem add64_law (x y : Nat) (w : World) : (callFunc 171 #[.int .u64 (x : Int), .int .u64 (y : Int), .int .u64 0]).run Try.prog w =
    .ok (.value (.tuple #[.int .u64 (((x + y) % 18446744073709551616 : Nat) : Int), .int .u64 (((x + y) / 18446744073709551616 : Nat) : Int)])) w := by
  rw [run_callFunc_extern Try.func171 (by kernel_rfl) (by kernel_rfl) (by kernel_rfl) (e := add64Entry) (by kernel_rfl), run_add64 x y 0 (by omega) (by omega) (by omega) (by omega)]
  simp only [Result.andThen]
  congr 5 <;> omega

theorem or_bit (r m : Nat) (hr : r < 68719476736) (hm : m < 36) : bits .or .u64 (r : Int) (IntKind.u64.wrap (2 ^ m)) = ((r ||| 2 ^ m : Nat) : Int) := by
  have h2 : 2 ^ m < 2 ^ 36 := Nat.pow_lt_pow_right (by decide) hm
  have e : (2 : Int) ^ m = ((2 ^ m : Nat) : Int) := by rw [Int.natCast_pow]; rfl
  rw [e]
  generalize 2 ^ m = q at *
  rw [IntWalk.u64_in _ (by omega), u64_or_nat _ _ (by omega) (by omega)]

/-- How the test of a square falls out. -/
theorem sq_ways (hi lo p : Nat) : (decide (hi < p) = true) ∨ (decide (hi < p) = false ∧ hi = p ∧ lo = 0) ∨ (decide (hi < p) = false ∧ hi = p ∧ lo ≠ 0) ∨ (decide (hi < p) = false ∧ hi ≠ p) := by
  by_cases h1 : hi < p
  · exact .inl (by simp [h1])
  · by_cases h2 : hi = p
    · by_cases h3 : lo = 0
      · exact .inr (.inl ⟨by simp [h1], h2, h3⟩)
      · exact .inr (.inr (.inl ⟨by simp [h1], h2, h3⟩))
    · exact .inr (.inr (.inr ⟨by simp [h1], h2⟩))

set_option maxRecDepth 100000 in
set_option maxHeartbeats 4000000 in
theorem ref_firstRoots (many F : Nat) (cube : Bool) (w : World) (hF : (rootsRest many cube F 2 []).length = many) (hF2 : F ≤ 1000) (hm : many ≤ 1000) :
    Calls Try.prog 102 #[.int .i64 (many : Int), .bool cube] w fun e w' => ∃ v, e = .returned v ∧ OS 111 1 cU32 w' w.heap.size v (rootsRest many cube F 2 []) ∧ Below w.heap.size w w' := by
  obtain ⟨i0, hi, hz0, hz1, hz2⟩ := info_parts info_u32
  have hres := hid (rfl : rootsRest many cube F 2 [] = rootsRest many cube F 2 [])
  generalize hRES : rootsRest many cube F 2 [] = RES at *
  replace hres : Hid (RES = rootsRest many cube F 2 []) := hid hRES.symm
  clear hRES
  replace hF := hid hF
  go_enter Try.func102, Try.ntmps102
  go_wp2_with fail
  go_loopw [5, 6, 7, 8, 9, 10, 11, 12, 13, 14, 15, 16, 17, 18, 19, 20, 21] (fun v pv _ _ _ _ _ _ _ _ _ _ _ _ _ _ _ wr => ∃ (f p : Nat) (out : List UInt32), pv = .int .u64 (p : Int) ∧ f + p = F + 2 ∧ 2 ≤ p ∧ OS 111 1 cU32 wr w.heap.size v out ∧ out.length ≤ many ∧ Hid (RES = rootsRest many cube f p out) ∧ Below w.heap.size w wr)
    (fun _ pv _ _ _ _ _ _ _ _ _ _ _ _ _ _ _ _ => F + 2 - (intOf pv).toNat)
  case atStart => exact ⟨F, 2, [], rfl, rfl, by omega, OS.nil, by simp, hres, Below.refl _ _⟩
  case round =>
    obtain ⟨f, p, out, rfl, hfp, hp2, hown, hlen, hR, hb⟩ := hrel
    obtain ⟨ad, cp, hv, hlc, hcm, hno⟩ := OS.len_le hown
    subst hv
    by_cases hlt : out.length < many
    · cases f with
      | zero =>
        exfalso
        have h1 := hR.out
        rw [rootsRest] at h1
        have h2 := hF.out
        rw [h1] at h2
        omega
      | succ f =>
        have hR2 : Hid (RES = rootsRest many cube f (p + 1) (if primeB p then out ++ [UInt32.ofNat (rootRest p cube 36 0)] else out)) := by
          have h1 := hR.out
          rw [rootsRest, if_pos hlt] at h1
          exact hid h1
        have hpr : Hid (primeB p = primeRest p p 2 true) := hid rfl
        generalize primeB p = PB at *
        have hRR : Hid (rootRest p cube 36 0 = rootRest p cube 36 0) := hid rfl
        generalize hrr0 : rootRest p cube 36 0 = RR at hR2
        replace hRR : Hid (RR = rootRest p cube 36 0) := hid hrr0.symm
        clear hrr0
        clear hR
        replace hfp := hid hfp
        go_wp2_with fail
        go_loop [7, 8] (fun b q => ∃ (ff qq : Nat) (bb : Bool), b = .bool bb ∧ q = .int .u64 (qq : Int) ∧ 2 ≤ qq ∧ ff + qq = p + 2 ∧ Hid (PB = primeRest p ff qq bb)) (fun _ q => p + 2 - (intOf q).toNat)
        case atStart => exact ⟨p, 2, true, rfl, rfl, by omega, rfl, hpr⟩
        case round =>
          obtain ⟨ff, qq, bb, rfl, rfl, hq2, hff, hP⟩ := hrel
          have hp1 : p ≤ 1002 := by have := hfp.out; omega
          have hqb : qq ≤ 1004 := by omega
          have hqq : qq * qq ≤ 1004 * 1004 := Nat.mul_le_mul (by omega) (by omega)
          have hw1 : IntKind.u64.wrap ((qq : Int) * (qq : Int)) = ((qq * qq : Nat) : Int) := by rw [← Int.natCast_mul]; exact IntWalk.u64_in _ (by omega)
          have hw2 : (((qq : Int) * (qq : Int)) % 18446744073709551616) = ((qq * qq : Nat) : Int) := by rw [← Int.natCast_mul]; omega
          have hlow : 2 * qq ≤ qq * qq := Nat.mul_le_mul_right _ hq2
          by_cases hle : qq * qq ≤ p
          · cases ff with
            | zero => exfalso; omega
            | succ ff =>
              have hP2 : Hid (PB = primeRest p ff (qq + 1) (bb && p % qq != 0)) := by
                have h1 := hP.out
                rw [primeRest, if_pos hle] at h1
                exact hid h1
              replace hff := hid hff
              have hrem : ((p : Int) % (qq : Int) != 0) = (p % qq != 0) := by
                rw [← Int.natCast_emod, bne, bne]
                congr 1
                rw [Bool.eq_iff_iff]
                simp only [beq_iff_eq]
                omega
              clear hP
              generalize hz : (p % qq != 0) = z at *
              generalize hs : qq * qq = s at *
              replace hz := hid hz
              replace hs := hid hs
              clear hlow hqq
              cases bb
              · go_wp2_with fail
                go_round
                case rel => exact ⟨ff, qq + 1, false, rfl, by go_num, by omega, by have := hff.out; omega, hP2⟩
                case measure => have := hff.out; simp [intOf]; omega
              · go_wp2_with fail
                go_round
                case rel => exact ⟨ff, qq + 1, z, rfl, by go_num, by omega, by have := hff.out; omega, hP2⟩
                case measure => have := hff.out; simp [intOf]; omega
          · have hP2 : Hid (PB = bb) := by
              have h1 := hP.out
              cases ff with
              | zero => exact hid h1
              | succ ff => rw [primeRest, if_neg hle] at h1; exact hid h1
            have hPP := hP2.out
            subst hPP
            clear hP2 hP
            replace hff := hid hff
            generalize hs : qq * qq = s at *
            replace hs := hid hs
            clear hlow hqq
            cases PB
            · go_wp2_with fail
              go_roundw
              case rel => exact ⟨f, p + 1, out, by go_num, by have := hfp.out; omega, by omega, hown, by omega, hR2, hb⟩
              case measure => have := hfp.out; simp [intOf]; omega
            · go_wp2_with fail
              go_loop [9, 10, 11, 12, 13, 14, 15, 16, 17, 18, 19, 20, 21] (fun r i _ _ _ _ _ _ _ _ _ _ _ => ∃ (n rr : Nat) (b : Int), r = .int .u64 (rr : Int) ∧ i = .int .i64 b ∧ Hid (b = (n : Int) - 1) ∧ n ≤ 36 ∧ -1 ≤ b ∧ b ≤ 35 ∧ rr < 68719476736 ∧ Hid (RR = rootRest p cube n rr)) (fun _ i _ _ _ _ _ _ _ _ _ _ _ => (intOf i + 1).toNat)
              case atStart => exact ⟨36, 0, 35, rfl, rfl, rfl, by omega, by omega, by omega, by omega, hRR⟩
              case round =>
                obtain ⟨n, rr, b, rfl, rfl, hbn, hn36, hb1, hb2, hrr, hRt⟩ := hrel
                cases n with
                | zero =>
                  obtain rfl : b = -1 := by have := hbn.out; omega
                  have hRr : Hid (rr = RR) := by have h1 := hRt.out; rw [rootRest] at h1; exact hid h1.symm
                  have hv : (rr : Int) % 4294967296 = ((UInt32.ofNat rr).toNat : Int) := by rw [UInt32.toNat_ofNat']; omega
                  replace hv := hid hv
                  clear hRt hbn
                  go_wp2_with (at_builtin; go_must (refine wpL_append flat_u32 rfl (.tmp 109) (.tmp 112) 23 rfl 111 i0 (.int .u32 0) Try.underlying23 hi hz0 hz1 hz2 rfl w.heap.size _ out rfl (OS.alloc hown _) _ [UInt32.ofNat rr] rfl (one_u32 _ _ _ _ _ (by first | rfl | simp) hv.out) ?c1 ?c2 ?c3 ?_))
                  case c1 => first | omega | (simp; omega)
                  case c2 => simp [maxLen]; omega
                  case c3 => have := hb.size; simp; omega
                  intro v' w2 hown1 hgr
                  have hb2 := b_grown (b_alloc hb _) hgr (OS.block hown)
                  have hR3 : Hid (RES = rootsRest many cube f (p + 1) (out ++ [UInt32.ofNat rr])) := by rw [hRr.out]; exact hid (by simpa using hR2.out)
                  clear hgr hb hown hR2
                  go_wp2_with fail
                  go_roundw
                  case rel => exact ⟨f, p + 1, out ++ [UInt32.ofNat rr], by go_num, by have := hfp.out; omega, by omega, hown1, by simp; omega, hR3, hb2⟩
                  case measure => have := hfp.out; simp [intOf]; omega
                | succ m =>
                  obtain rfl : b = (m : Int) := by have := hbn.out; omega
                  have hor := or_bit rr m hrr (by omega)
                  have hRt2 : Hid (RR = rootRest p cube m (rootStep p cube rr m)) := hid hRt.out
                  clear hRt hbn
                  have htb : rr ||| 2 ^ m < 68719476736 := Nat.or_lt_two_pow (n := 36) hrr (Nat.pow_lt_pow_right (by decide) (by omega))
                  have hst : Hid (rootStep p cube rr m = if fitsB p cube (rr ||| 2 ^ m) then rr ||| 2 ^ m else rr) := hid rfl
                  generalize rootStep p cube rr m = rs at *
                  generalize rr ||| 2 ^ m = tt at *
                  have hi64 : tt * tt < 4722366482869645213696 := Nat.lt_of_lt_of_le (Nat.mul_lt_mul'' htb htb) (by decide)
                  have hhi : tt * tt / 18446744073709551616 < 256 := by omega
                  have hlo : tt * tt % 18446744073709551616 < 18446744073709551616 := Nat.mod_lt _ (by decide)
                  clear hi64
                  unfold fitsB at hst
                  generalize hghi : tt * tt / 18446744073709551616 = hi at hst hhi
                  generalize hglo : tt * tt % 18446744073709551616 = lo at hst hlo
                  have HM := fun wz => Try.bits_Mul64 tt tt (by omega) (by omega) wz
                  rw [hghi, hglo] at HM
                  replace HM := hid HM
                  clear hghi hglo
                  cases cube
                  · simp only [Bool.false_eq_true, if_false] at hst
                    rcases sq_ways hi lo p with f1 | ⟨f1, f2, f3⟩ | ⟨f1, f2, f3⟩ | ⟨f1, f2⟩
                    · have hz : Hid (rs = tt) := by
                        have h1 := hst.out
                        rw [h1]
                        exact hid (by simp [f1])
                      clear hst
                      go_wp2_with fail
                      refine (HM.out _).mono ?_
                      rintro e w1 ⟨rfl, rfl⟩
                      go_wp2_with fail
                      go_round
                      case rel => exact ⟨m, tt, (m : Int) - 1, rfl, rfl, hid rfl, by omega, by omega, by omega, by omega, by rw [← hz.out]; exact hRt2⟩
                      case measure => simp [intOf]
                    · have hz : Hid (rs = tt) := by
                        have h1 := hst.out
                        rw [h1]
                        exact hid (by simp [f2, f3])
                      have f4 : (hi == p) = true := by simp [f2]
                      have f5 : ((hi : Int) == (p : Int)) = true := by simp [f2]
                      have f6 : (lo == 0) = true := by simp [f3]
                      have f7 : ((lo : Int) == 0) = true := by simp [f3]
                      replace f2 := hid f2
                      replace f3 := hid f3
                      clear hst
                      go_wp2_with fail
                      refine (HM.out _).mono ?_
                      rintro e w1 ⟨rfl, rfl⟩
                      go_wp2_with fail
                      go_round
                      case rel => exact ⟨m, tt, (m : Int) - 1, rfl, rfl, hid rfl, by omega, by omega, by omega, by omega, by rw [← hz.out]; exact hRt2⟩
                      case measure => simp [intOf]
                    · have hz : Hid (rs = rr) := by
                        have h1 := hst.out
                        rw [h1]
                        exact hid (by simp [f2, f3])
                      have f4 : (hi == p) = true := by simp [f2]
                      have f5 : ((hi : Int) == (p : Int)) = true := by simp [f2]
                      have f6 : (lo == 0) = false := by simp [f3]
                      have f7 : ((lo : Int) == 0) = false := by simp [f3]
                      replace f2 := hid f2
                      replace f3 := hid f3
                      clear hst
                      go_wp2_with fail
                      refine (HM.out _).mono ?_
                      rintro e w1 ⟨rfl, rfl⟩
                      go_wp2_with fail
                      go_round
                      case rel => exact ⟨m, rr, (m : Int) - 1, rfl, rfl, hid rfl, by omega, by omega, by omega, by omega, by rw [← hz.out]; exact hRt2⟩
                      case measure => simp [intOf]
                    · have hz : Hid (rs = rr) := by
                        have h1 := hst.out
                        rw [h1]
                        exact hid (by simp [f1, f2])
                      have f4 : (hi == p) = false := by simp [f2]
                      have f5 : ((hi : Int) == (p : Int)) = false := by simp; omega
                      replace f2 := hid f2
                      clear hst
                      go_wp2_with fail
                      refine (HM.out _).mono ?_
                      rintro e w1 ⟨rfl, rfl⟩
                      go_wp2_with fail
                      go_round
                      case rel => exact ⟨m, rr, (m : Int) - 1, rfl, rfl, hid rfl, by omega, by omega, by omega, by omega, by rw [← hz.out]; exact hRt2⟩
                      case measure => simp [intOf]
                  · simp only [if_true] at hst
                    have a64 : lo * tt < 18446744073709551616 * 18446744073709551616 := Nat.mul_lt_mul'' hlo (by omega)
                    have ha : lo * tt / 18446744073709551616 < 18446744073709551616 := by omega
                    have hbb : lo * tt % 18446744073709551616 < 18446744073709551616 := Nat.mod_lt _ (by decide)
                    have hc : hi * tt % 18446744073709551616 < 18446744073709551616 := Nat.mod_lt _ (by decide)
                    have HM2 := hid (fun wz => Try.bits_Mul64 lo tt (by omega) (by omega) wz)
                    have HM3 := hid (fun wz => Try.bits_Mul64 hi tt (by omega) (by omega) wz)
                    clear a64
                    generalize lo * tt / 18446744073709551616 = a at hst HM2 ha
                    generalize lo * tt % 18446744073709551616 = lb at hst HM2 hbb
                    generalize hi * tt % 18446744073709551616 = c at hst HM3 hc
                    have hadd := add64_law a c
                    have htop : (a + c) % 18446744073709551616 < 18446744073709551616 := Nat.mod_lt _ (by decide)
                    have hov : (a + c) / 18446744073709551616 < 18446744073709551616 := by omega
                    generalize (a + c) % 18446744073709551616 = top at hst hadd htop
                    generalize (a + c) / 18446744073709551616 = ov at hst hadd hov
                    have hp1 : p ≤ 1002 := by have := hfp.out; omega
                    have hsq : ∃ o : Bool, Hid (o = (decide (hi < p) || (hi == p && lo == 0))) := ⟨_, hid rfl⟩
                    have hcase : (ov ≠ 0) ∨ (ov = 0 ∧ decide (top < p * 4294967296) = true) ∨ (ov = 0 ∧ decide (top < p * 4294967296) = false ∧ top = p * 4294967296 ∧ lb = 0) ∨ (ov = 0 ∧ decide (top < p * 4294967296) = false ∧ top = p * 4294967296 ∧ lb ≠ 0) ∨ (ov = 0 ∧ decide (top < p * 4294967296) = false ∧ top ≠ p * 4294967296) := by
                      rcases sq_ways top lb (p * 4294967296) with h | h | h | h <;> by_cases h0 : ov = 0 <;> simp [h, h0]
                    rcases hcase with g0 | ⟨g0, g1⟩ | ⟨g0, g1, g2, g3⟩ | ⟨g0, g1, g2, g3⟩ | ⟨g0, g1, g2⟩
                    · have hz : Hid (rs = rr) := by
                        have h1 := hst.out
                        rw [h1]
                        exact hid (by simp [g0])
                      clear hst
                      have k0 : (ov == 0) = false := by simp [g0]
                      have k1 : ((ov : Int) == 0) = false := by simp [g0]
                      replace g0 := hid g0
                      rcases sq_ways hi lo p with f1 | ⟨f1, f2, f3⟩ | ⟨f1, f2, f3⟩ | ⟨f1, f2⟩
                      · go_wp2_with fail
                        refine (HM.out _).mono ?_
                        rintro e w1 ⟨rfl, rfl⟩
                        go_wp2_with fail
                        refine (HM2.out _).mono ?_
                        rintro e w1 ⟨rfl, rfl⟩
                        go_wp2_with fail
                        refine (HM3.out _).mono ?_
                        rintro e w1 ⟨rfl, rfl⟩
                        go_wp2_with fail
                        go_round
                        case rel => exact ⟨m, rr, (m : Int) - 1, rfl, rfl, hid rfl, by omega, by omega, by omega, by omega, by rw [← hz.out]; exact hRt2⟩
                        case measure => simp [intOf]
                      · have f4 : (hi == p) = true := by simp [f2]
                        have f5 : ((hi : Int) == (p : Int)) = true := by simp [f2]
                        have f6 : (lo == 0) = true := by simp [f3]
                        have f7 : ((lo : Int) == 0) = true := by simp [f3]
                        replace f2 := hid f2
                        replace f3 := hid f3
                        go_wp2_with fail
                        refine (HM.out _).mono ?_
                        rintro e w1 ⟨rfl, rfl⟩
                        go_wp2_with fail
                        refine (HM2.out _).mono ?_
                        rintro e w1 ⟨rfl, rfl⟩
                        go_wp2_with fail
                        refine (HM3.out _).mono ?_
                        rintro e w1 ⟨rfl, rfl⟩
                        go_wp2_with fail
                        go_round
                        case rel => exact ⟨m, rr, (m : Int) - 1, rfl, rfl, hid rfl, by omega, by omega, by omega, by omega, by rw [← hz.out]; exact hRt2⟩
                        case measure => simp [intOf]
                      · have f4 : (hi == p) = true := by simp [f2]
                        have f5 : ((hi : Int) == (p : Int)) = true := by simp [f2]
                        have f6 : (lo == 0) = false := by simp [f3]
                        have f7 : ((lo : Int) == 0) = false := by simp [f3]
                        replace f2 := hid f2
                        replace f3 := hid f3
                        go_wp2_with fail
                        refine (HM.out _).mono ?_
                        rintro e w1 ⟨rfl, rfl⟩
                        go_wp2_with fail
                        refine (HM2.out _).mono ?_
                        rintro e w1 ⟨rfl, rfl⟩
                        go_wp2_with fail
                        refine (HM3.out _).mono ?_
                        rintro e w1 ⟨rfl, rfl⟩
                        go_wp2_with fail
                        go_round
                        case rel => exact ⟨m, rr, (m : Int) - 1, rfl, rfl, hid rfl, by omega, by omega, by omega, by omega, by rw [← hz.out]; exact hRt2⟩
                        case measure => simp [intOf]
                      · have f4 : (hi == p) = false := by simp [f2]
                        have f5 : ((hi : Int) == (p : Int)) = false := by simp; omega
                        replace f2 := hid f2
                        go_wp2_with fail
                        refine (HM.out _).mono ?_
                        rintro e w1 ⟨rfl, rfl⟩
                        go_wp2_with fail
                        refine (HM2.out _).mono ?_
                        rintro e w1 ⟨rfl, rfl⟩
                        go_wp2_with fail
                        refine (HM3.out _).mono ?_
                        rintro e w1 ⟨rfl, rfl⟩
                        go_wp2_with fail
                        go_round
                        case rel => exact ⟨m, rr, (m : Int) - 1, rfl, rfl, hid rfl, by omega, by omega, by omega, by omega, by rw [← hz.out]; exact hRt2⟩
                        case measure => simp [intOf]
                    · have hz : Hid (rs = tt) := by
                        have h1 := hst.out
                        rw [h1]
                        exact hid (by simp [g0, g1])
                      clear hst
                      have k0 : (ov == 0) = true := by simp [g0]
                      have k1 : ((ov : Int) == 0) = true := by simp [g0]
                      replace g0 := hid g0
                      have k2 : decide ((top : Int) < ((p : Int) * 4294967296)) = true := by simp at g1; simp; omega
                      clear g1
                      rcases sq_ways hi lo p with f1 | ⟨f1, f2, f3⟩ | ⟨f1, f2, f3⟩ | ⟨f1, f2⟩
                      · go_wp2_with fail
                        refine (HM.out _).mono ?_
                        rintro e w1 ⟨rfl, rfl⟩
                        go_wp2_with fail
                        refine (HM2.out _).mono ?_
                        rintro e w1 ⟨rfl, rfl⟩
                        go_wp2_with fail
                        refine (HM3.out _).mono ?_
                        rintro e w1 ⟨rfl, rfl⟩
                        go_wp2_with fail
                        go_round
                        case rel => exact ⟨m, tt, (m : Int) - 1, rfl, rfl, hid rfl, by omega, by omega, by omega, by omega, by rw [← hz.out]; exact hRt2⟩
                        case measure => simp [intOf]
                      · have f4 : (hi == p) = true := by simp [f2]
                        have f5 : ((hi : Int) == (p : Int)) = true := by simp [f2]
                        have f6 : (lo == 0) = true := by simp [f3]
                        have f7 : ((lo : Int) == 0) = true := by simp [f3]
                        replace f2 := hid f2
                        replace f3 := hid f3
                        go_wp2_with fail
                        refine (HM.out _).mono ?_
                        rintro e w1 ⟨rfl, rfl⟩
                        go_wp2_with fail
                        refine (HM2.out _).mono ?_
                        rintro e w1 ⟨rfl, rfl⟩
                        go_wp2_with fail
                        refine (HM3.out _).mono ?_
                        rintro e w1 ⟨rfl, rfl⟩
                        go_wp2_with fail
                        go_round
                        case rel => exact ⟨m, tt, (m : Int) - 1, rfl, rfl, hid rfl, by omega, by omega, by omega, by omega, by rw [← hz.out]; exact hRt2⟩
                        case measure => simp [intOf]
                      · have f4 : (hi == p) = true := by simp [f2]
                        have f5 : ((hi : Int) == (p : Int)) = true := by simp [f2]
                        have f6 : (lo == 0) = false := by simp [f3]
                        have f7 : ((lo : Int) == 0) = false := by simp [f3]
                        replace f2 := hid f2
                        replace f3 := hid f3
                        go_wp2_with fail
                        refine (HM.out _).mono ?_
                        rintro e w1 ⟨rfl, rfl⟩
                        go_wp2_with fail
                        refine (HM2.out _).mono ?_
                        rintro e w1 ⟨rfl, rfl⟩
                        go_wp2_with fail
                        refine (HM3.out _).mono ?_
                        rintro e w1 ⟨rfl, rfl⟩
                        go_wp2_with fail
                        go_round
                        case rel => exact ⟨m, tt, (m : Int) - 1, rfl, rfl, hid rfl, by omega, by omega, by omega, by omega, by rw [← hz.out]; exact hRt2⟩
                        case measure => simp [intOf]
                      · have f4 : (hi == p) = false := by simp [f2]
                        have f5 : ((hi : Int) == (p : Int)) = false := by simp; omega
                        replace f2 := hid f2
                        go_wp2_with fail
                        refine (HM.out _).mono ?_
                        rintro e w1 ⟨rfl, rfl⟩
                        go_wp2_with fail
                        refine (HM2.out _).mono ?_
                        rintro e w1 ⟨rfl, rfl⟩
                        go_wp2_with fail
                        refine (HM3.out _).mono ?_
                        rintro e w1 ⟨rfl, rfl⟩
                        go_wp2_with fail
                        go_round
                        case rel => exact ⟨m, tt, (m : Int) - 1, rfl, rfl, hid rfl, by omega, by omega, by omega, by omega, by rw [← hz.out]; exact hRt2⟩
                        case measure => simp [intOf]
                    · have hz : Hid (rs = tt) := by
                        have h1 := hst.out
                        rw [h1]
                        exact hid (by simp [g0, g2, g3])
                      clear hst
                      have k0 : (ov == 0) = true := by simp [g0]
                      have k1 : ((ov : Int) == 0) = true := by simp [g0]
                      replace g0 := hid g0
                      have k2 : decide ((top : Int) < ((p : Int) * 4294967296)) = false := by simp at g1; simp; omega
                      clear g1
                      have k3 : ((top : Int) == ((p : Int) * 4294967296)) = true := by simp; omega
                      have k4 : (lb == 0) = true := by simp [g3]
                      have k5 : ((lb : Int) == 0) = true := by simp [g3]
                      replace g2 := hid g2
                      replace g3 := hid g3
                      rcases sq_ways hi lo p with f1 | ⟨f1, f2, f3⟩ | ⟨f1, f2, f3⟩ | ⟨f1, f2⟩
                      · go_wp2_with fail
                        refine (HM.out _).mono ?_
                        rintro e w1 ⟨rfl, rfl⟩
                        go_wp2_with fail
                        refine (HM2.out _).mono ?_
                        rintro e w1 ⟨rfl, rfl⟩
                        go_wp2_with fail
                        refine (HM3.out _).mono ?_
                        rintro e w1 ⟨rfl, rfl⟩
                        go_wp2_with fail
                        go_round
                        case rel => exact ⟨m, tt, (m : Int) - 1, rfl, rfl, hid rfl, by omega, by omega, by omega, by omega, by rw [← hz.out]; exact hRt2⟩
                        case measure => simp [intOf]
                      · have f4 : (hi == p) = true := by simp [f2]
                        have f5 : ((hi : Int) == (p : Int)) = true := by simp [f2]
                        have f6 : (lo == 0) = true := by simp [f3]
                        have f7 : ((lo : Int) == 0) = true := by simp [f3]
                        replace f2 := hid f2
                        replace f3 := hid f3
                        go_wp2_with fail
                        refine (HM.out _).mono ?_
                        rintro e w1 ⟨rfl, rfl⟩
                        go_wp2_with fail
                        refine (HM2.out _).mono ?_
                        rintro e w1 ⟨rfl, rfl⟩
                        go_wp2_with fail
                        refine (HM3.out _).mono ?_
                        rintro e w1 ⟨rfl, rfl⟩
                        go_wp2_with fail
                        go_round
                        case rel => exact ⟨m, tt, (m : Int) - 1, rfl, rfl, hid rfl, by omega, by omega, by omega, by omega, by rw [← hz.out]; exact hRt2⟩
                        case measure => simp [intOf]
                      · have f4 : (hi == p) = true := by simp [f2]
                        have f5 : ((hi : Int) == (p : Int)) = true := by simp [f2]
                        have f6 : (lo == 0) = false := by simp [f3]
                        have f7 : ((lo : Int) == 0) = false := by simp [f3]
                        replace f2 := hid f2
                        replace f3 := hid f3
                        go_wp2_with fail
                        refine (HM.out _).mono ?_
                        rintro e w1 ⟨rfl, rfl⟩
                        go_wp2_with fail
                        refine (HM2.out _).mono ?_
                        rintro e w1 ⟨rfl, rfl⟩
                        go_wp2_with fail
                        refine (HM3.out _).mono ?_
                        rintro e w1 ⟨rfl, rfl⟩
                        go_wp2_with fail
                        go_round
                        case rel => exact ⟨m, tt, (m : Int) - 1, rfl, rfl, hid rfl, by omega, by omega, by omega, by omega, by rw [← hz.out]; exact hRt2⟩
                        case measure => simp [intOf]
                      · have f4 : (hi == p) = false := by simp [f2]
                        have f5 : ((hi : Int) == (p : Int)) = false := by simp; omega
                        replace f2 := hid f2
                        go_wp2_with fail
                        refine (HM.out _).mono ?_
                        rintro e w1 ⟨rfl, rfl⟩
                        go_wp2_with fail
                        refine (HM2.out _).mono ?_
                        rintro e w1 ⟨rfl, rfl⟩
                        go_wp2_with fail
                        refine (HM3.out _).mono ?_
                        rintro e w1 ⟨rfl, rfl⟩
                        go_wp2_with fail
                        go_round
                        case rel => exact ⟨m, tt, (m : Int) - 1, rfl, rfl, hid rfl, by omega, by omega, by omega, by omega, by rw [← hz.out]; exact hRt2⟩
                        case measure => simp [intOf]
                    · have hz : Hid (rs = rr) := by
                        have h1 := hst.out
                        rw [h1]
                        exact hid (by simp [g0, g2, g3])
                      clear hst
                      have k0 : (ov == 0) = true := by simp [g0]
                      have k1 : ((ov : Int) == 0) = true := by simp [g0]
                      replace g0 := hid g0
                      have k2 : decide ((top : Int) < ((p : Int) * 4294967296)) = false := by simp at g1; simp; omega
                      clear g1
                      have k3 : ((top : Int) == ((p : Int) * 4294967296)) = true := by simp; omega
                      have k4 : (lb == 0) = false := by simp [g3]
                      have k5 : ((lb : Int) == 0) = false := by simp [g3]
                      replace g2 := hid g2
                      replace g3 := hid g3
                      rcases sq_ways hi lo p with f1 | ⟨f1, f2, f3⟩ | ⟨f1, f2, f3⟩ | ⟨f1, f2⟩
                      · go_wp2_with fail
                        refine (HM.out _).mono ?_
                        rintro e w1 ⟨rfl, rfl⟩
                        go_wp2_with fail
                        refine (HM2.out _).mono ?_
                        rintro e w1 ⟨rfl, rfl⟩
                        go_wp2_with fail
                        refine (HM3.out _).mono ?_
                        rintro e w1 ⟨rfl, rfl⟩
                        go_wp2_with fail
                        go_round
                        case rel => exact ⟨m, rr, (m : Int) - 1, rfl, rfl, hid rfl, by omega, by omega, by omega, by omega, by rw [← hz.out]; exact hRt2⟩
                        case measure => simp [intOf]
                      · have f4 : (hi == p) = true := by simp [f2]
                        have f5 : ((hi : Int) == (p : Int)) = true := by simp [f2]
                        have f6 : (lo == 0) = true := by simp [f3]
                        have f7 : ((lo : Int) == 0) = true := by simp [f3]
                        replace f2 := hid f2
                        replace f3 := hid f3
                        go_wp2_with fail
                        refine (HM.out _).mono ?_
                        rintro e w1 ⟨rfl, rfl⟩
                        go_wp2_with fail
                        refine (HM2.out _).mono ?_
                        rintro e w1 ⟨rfl, rfl⟩
                        go_wp2_with fail
                        refine (HM3.out _).mono ?_
                        rintro e w1 ⟨rfl, rfl⟩
                        go_wp2_with fail
                        go_round
                        case rel => exact ⟨m, rr, (m : Int) - 1, rfl, rfl, hid rfl, by omega, by omega, by omega, by omega, by rw [← hz.out]; exact hRt2⟩
                        case measure => simp [intOf]
                      · have f4 : (hi == p) = true := by simp [f2]
                        have f5 : ((hi : Int) == (p : Int)) = true := by simp [f2]
                        have f6 : (lo == 0) = false := by simp [f3]
                        have f7 : ((lo : Int) == 0) = false := by simp [f3]
                        replace f2 := hid f2
                        replace f3 := hid f3
                        go_wp2_with fail
                        refine (HM.out _).mono ?_
                        rintro e w1 ⟨rfl, rfl⟩
                        go_wp2_with fail
                        refine (HM2.out _).mono ?_
                        rintro e w1 ⟨rfl, rfl⟩
                        go_wp2_with fail
                        refine (HM3.out _).mono ?_
                        rintro e w1 ⟨rfl, rfl⟩
                        go_wp2_with fail
                        go_round
                        case rel => exact ⟨m, rr, (m : Int) - 1, rfl, rfl, hid rfl, by omega, by omega, by omega, by omega, by rw [← hz.out]; exact hRt2⟩
                        case measure => simp [intOf]
                      · have f4 : (hi == p) = false := by simp [f2]
                        have f5 : ((hi : Int) == (p : Int)) = false := by simp; omega
                        replace f2 := hid f2
                        go_wp2_with fail
                        refine (HM.out _).mono ?_
                        rintro e w1 ⟨rfl, rfl⟩
                        go_wp2_with fail
                        refine (HM2.out _).mono ?_
                        rintro e w1 ⟨rfl, rfl⟩
                        go_wp2_with fail
                        refine (HM3.out _).mono ?_
                        rintro e w1 ⟨rfl, rfl⟩
                        go_wp2_with fail
                        go_round
                        case rel => exact ⟨m, rr, (m : Int) - 1, rfl, rfl, hid rfl, by omega, by omega, by omega, by omega, by rw [← hz.out]; exact hRt2⟩
                        case measure => simp [intOf]
                    · have hz : Hid (rs = rr) := by
                        have h1 := hst.out
                        rw [h1]
                        exact hid (by simp [g0, g1, g2])
                      clear hst
                      have k0 : (ov == 0) = true := by simp [g0]
                      have k1 : ((ov : Int) == 0) = true := by simp [g0]
                      replace g0 := hid g0
                      have k2 : decide ((top : Int) < ((p : Int) * 4294967296)) = false := by simp at g1; simp; omega
                      clear g1
                      have k3 : ((top : Int) == ((p : Int) * 4294967296)) = false := by simp; omega
                      replace g2 := hid g2
                      rcases sq_ways hi lo p with f1 | ⟨f1, f2, f3⟩ | ⟨f1, f2, f3⟩ | ⟨f1, f2⟩
                      · go_wp2_with fail
                        refine (HM.out _).mono ?_
                        rintro e w1 ⟨rfl, rfl⟩
                        go_wp2_with fail
                        refine (HM2.out _).mono ?_
                        rintro e w1 ⟨rfl, rfl⟩
                        go_wp2_with fail
                        refine (HM3.out _).mono ?_
                        rintro e w1 ⟨rfl, rfl⟩
                        go_wp2_with fail
                        go_round
                        case rel => exact ⟨m, rr, (m : Int) - 1, rfl, rfl, hid rfl, by omega, by omega, by omega, by omega, by rw [← hz.out]; exact hRt2⟩
                        case measure => simp [intOf]
                      · have f4 : (hi == p) = true := by simp [f2]
                        have f5 : ((hi : Int) == (p : Int)) = true := by simp [f2]
                        have f6 : (lo == 0) = true := by simp [f3]
                        have f7 : ((lo : Int) == 0) = true := by simp [f3]
                        replace f2 := hid f2
                        replace f3 := hid f3
                        go_wp2_with fail
                        refine (HM.out _).mono ?_
                        rintro e w1 ⟨rfl, rfl⟩
                        go_wp2_with fail
                        refine (HM2.out _).mono ?_
                        rintro e w1 ⟨rfl, rfl⟩
                        go_wp2_with fail
                        refine (HM3.out _).mono ?_
                        rintro e w1 ⟨rfl, rfl⟩
                        go_wp2_with fail
                        go_round
                        case rel => exact ⟨m, rr, (m : Int) - 1, rfl, rfl, hid rfl, by omega, by omega, by omega, by omega, by rw [← hz.out]; exact hRt2⟩
                        case measure => simp [intOf]
                      · have f4 : (hi == p) = true := by simp [f2]
                        have f5 : ((hi : Int) == (p : Int)) = true := by simp [f2]
                        have f6 : (lo == 0) = false := by simp [f3]
                        have f7 : ((lo : Int) == 0) = false := by simp [f3]
                        replace f2 := hid f2
                        replace f3 := hid f3
                        go_wp2_with fail
                        refine (HM.out _).mono ?_
                        rintro e w1 ⟨rfl, rfl⟩
                        go_wp2_with fail
                        refine (HM2.out _).mono ?_
                        rintro e w1 ⟨rfl, rfl⟩
                        go_wp2_with fail
                        refine (HM3.out _).mono ?_
                        rintro e w1 ⟨rfl, rfl⟩
                        go_wp2_with fail
                        go_round
                        case rel => exact ⟨m, rr, (m : Int) - 1, rfl, rfl, hid rfl, by omega, by omega, by omega, by omega, by rw [← hz.out]; exact hRt2⟩
                        case measure => simp [intOf]
                      · have f4 : (hi == p) = false := by simp [f2]
                        have f5 : ((hi : Int) == (p : Int)) = false := by simp; omega
                        replace f2 := hid f2
                        go_wp2_with fail
                        refine (HM.out _).mono ?_
                        rintro e w1 ⟨rfl, rfl⟩
                        go_wp2_with fail
                        refine (HM2.out _).mono ?_
                        rintro e w1 ⟨rfl, rfl⟩
                        go_wp2_with fail
                        refine (HM3.out _).mono ?_
                        rintro e w1 ⟨rfl, rfl⟩
                        go_wp2_with fail
                        go_round
                        case rel => exact ⟨m, rr, (m : Int) - 1, rfl, rfl, hid rfl, by omega, by omega, by omega, by omega, by rw [← hz.out]; exact hRt2⟩
                        case measure => simp [intOf]
    · have hfin : Hid (RES = out) := by
        have h1 := hR.out
        cases f with
        | zero => exact hid h1
        | succ f => rw [rootsRest, if_neg hlt] at h1; exact hid h1
      clear hR
      go_wp2_with fail
      go_ret
      exact ⟨_, rfl, by rw [hfin.out]; exact hown, hb⟩
end Go.Proofs.Ytkkfjfhbikipbaa
