/-
  slices.BinarySearchFunc on records (Entry) whose keys rise.
-/
import Derived.Test.YtcbopanekmpllaaKE
import Derived.Test.YtcbopanekmpllaaSrt
import Derived.Test.YtcbopanekmpllaaShelf
import Derived.Deep.LoopGhost
import Derived.IntWalk
namespace Go.Proofs.Ytcbopanekmpllaa
open Go.RowKit

set_option maxRecDepth 100000 in
set_option maxHeartbeats 400000 in
theorem put1_E (x : Entry) (a : Option Addr) (n c : Nat) (s : ByteArray) (w : World) :
    Calls Try.prog 72 #[.agg #[.string x.key, .slice a n c, .int .i64 x.pins, .int .i64 x.stamp], .string s] w fun e w' => e = .returned (.int .i64 (cmpB x.key s)) ∧ Below w.heap.size w w' := by
  have h := fun W => Try.strings_Compare x.key s W
  rw [cmpB_eq] at h
  replace h := hid h
  go_enter Try.func72, Try.ntmps72
  go_wp2_with fail
  ((with_reducible refine (h.out _).mono ?_); rintro e w1 ⟨rfl, rfl⟩)
  go_wp2_with fail
  go_ret
  exact ⟨rfl, b_alloc (Below.refl _ _) _⟩

set_option maxRecDepth 100000 in
set_option maxHeartbeats 1000000 in
theorem bin_E (v : Value) (l : List Entry) (s : ByteArray) (w : World) (h : RE w v l) (hr : Rising (fun x : Entry => x.key) l) :
    Calls Try.prog 71 #[v, .string s, .func (.func 72) #[] #[]] w fun e w' =>
      e = .returned (.tuple #[.int .i64 (lowAt (fun x : Entry => x.key) s l : Nat), .bool (hasKey (fun x : Entry => x.key) s l)]) ∧ Below w.heap.size w w' := by
  obtain ⟨a, c, rfl, hlc, hcm, hre, hno, hat⟩ := h
  unfold maxLen at hcm
  replace hat := hid hat
  have eg := enters_of Try.func72 (by kernel_rfl) rfl
  have hput := hid (fun x a n c W => put1_E x a n c s W)
  have honly := hid (fun i (hi : i ≤ l.length) h1 h2 => lowAt_only (key := fun x : Entry => x.key) (s := s) hi h1 h2)
  have hhas := hid (fun x (hx : l[lowAt (fun x : Entry => x.key) s l]? = some x) => hasKey_some hx)
  have hnot := hid (fun (hx : l[lowAt (fun x : Entry => x.key) s l]? = none) => hasKey_none hx)
  replace hr := hid hr
  generalize lowAt (fun x : Entry => x.key) s l = cnt at *
  generalize hasKey (fun x : Entry => x.key) s l = fin at *
  clear hno
  go_enter Try.func71, Try.ntmps71
  go_wp2_with fail
  go_loopg [9, 10] l.length (fun kx s9 s10 wr => ∃ lo hi : Nat, s9 = .int .i64 lo ∧ s10 = .int .i64 hi ∧ lo ≤ hi ∧ hi ≤ l.length ∧ hi - lo ≤ kx ∧ Hid (Below w.heap.size w wr) ∧
    Hid ((∀ j x, j < lo → l[j]? = some x → slt x.key s = true) ∧ (∀ j x, hi ≤ j → l[j]? = some x → slt x.key s = false)))
  case atStart => exact ⟨0, l.length, rfl, rfl, Nat.zero_le _, Nat.le_refl _, by omega, hid (Below.refl _ _), hid ⟨fun j x hj => absurd hj (Nat.not_lt_zero _), fun j x h1 h2 => by rw [List.getElem?_eq_none h1] at h2; cases h2⟩⟩
  case round =>
    obtain ⟨lo, hi, rfl, rfl, hlh, hin, hg, hb, I⟩ := hrel
    by_cases hlt : lo < hi
    · have hm : (lo + hi) / 2 < l.length := by omega
      have hx : l[(lo + hi) / 2]? = some l[(lo + hi) / 2] := List.getElem?_eq_getElem hm
      generalize l[(lo + hi) / 2] = x at hx
      obtain ⟨bb, off, rfl, hbb, he⟩ := hat.out _ x hx
      obtain ⟨dv, c0, c1, c2, c3, rdv, okx⟩ := EEntry.stable _ _ _ _ _ hb.out hbb he
      obtain ⟨da, dc, rfl, -⟩ := id rdv
      have hcall := hput.out x da x.parts.length dc wr
      have hx' := hid hx
      clear he hx rdv okx
      cases hk : slt x.key s with
      | true =>
        rw [cmpB_lt hk] at hcall
        have I2 := hid (show (∀ j x, j < (lo + hi) / 2 + 1 → l[j]? = some x → slt x.key s = true) ∧ (∀ j x, hi ≤ j → l[j]? = some x → slt x.key s = false) from ⟨fun j y hj hy => rising_low hr.out hx'.out hk (by omega) hy, I.out.2⟩)
        replace hcall := hid hcall
        clear hk
        go_wp2_with fail
        ((with_reducible refine hcall.out.mono ?_); rintro e w1 ⟨rfl, b1⟩)
        have hb1 := hid (b_call hb.out b1)
        clear b1
        go_wp2_with fail
        go_roundg (hi - ((lo + hi) / 2 + 1))
        case measure => omega
        case rel => exact ⟨(lo + hi) / 2 + 1, hi, by rw [show ((lo : Int) + (hi : Int)) / 2 + 1 = (((lo + hi) / 2 + 1 : Nat) : Int) by omega], rfl, by omega, hin, Nat.le_refl _, hb1, I2⟩
      | false =>
        have I2 := hid (show (∀ j x, j < lo → l[j]? = some x → slt x.key s = true) ∧ (∀ j x, (lo + hi) / 2 ≤ j → l[j]? = some x → slt x.key s = false) from ⟨I.out.1, fun j y hj hy => rising_high hr.out hx'.out hk hj hy⟩)
        obtain ⟨z, hz, hz0⟩ := cmpB_ge hk
        rw [hz] at hcall
        have q : decide (z < 0) = false := by simp; omega
        replace hcall := hid hcall
        replace hz := hid hz
        clear hk hz0
        go_wp2_with fail
        ((with_reducible refine hcall.out.mono ?_); rintro e w1 ⟨rfl, b1⟩)
        have hb1 := hid (b_call hb.out b1)
        clear b1
        go_wp2_with fail
        go_roundg ((lo + hi) / 2 - lo)
        case measure => omega
        case rel => exact ⟨lo, (lo + hi) / 2, rfl, by rw [show ((lo : Int) + (hi : Int)) / 2 = (((lo + hi) / 2 : Nat) : Int) by omega], by omega, by omega, Nat.le_refl _, hb1, I2⟩
    · obtain rfl : hi = lo := by omega
      have ecnt := honly.out hi hin I.out.1 (fun x hx => I.out.2 hi x (Nat.le_refl _) hx)
      subst ecnt
      by_cases hn : cnt < l.length
      · have hx : l[cnt]? = some l[cnt] := List.getElem?_eq_getElem hn
        generalize l[cnt] = x at hx
        obtain ⟨bb, off, rfl, hbb, he⟩ := hat.out _ x hx
        obtain ⟨dv, c0, c1, c2, c3, rdv, okx⟩ := EEntry.stable _ _ _ _ _ hb.out hbb he
        obtain ⟨da, dc, rfl, -⟩ := id rdv
        have hcall := hput.out x da x.parts.length dc wr
        have hfin : Hid (fin = (x.key.toList == s.toList)) := hid (hhas.out x hx)
        clear he hx rdv okx
        have hz := cmpB_zero x.key s
        generalize cmpB x.key s = z at *
        have q : (z == 0) = fin := by rw [hfin.out, hz]
        replace hcall := hid hcall
        replace hz := hid hz
        go_wp2_with fail
        ((with_reducible refine hcall.out.mono ?_); rintro e w1 ⟨rfl, b1⟩)
        have hb1 := hid (b_call hb.out b1)
        clear b1
        go_wp2_with fail
        go_ret2
        exact ⟨rfl, hb1.out⟩
      · have hfin : Hid (fin = false) := hid (hnot.out (List.getElem?_eq_none (by omega)))
        go_wp2_with fail
        go_ret2
        rw [hfin.out]
        exact ⟨rfl, hb.out⟩
end Go.Proofs.Ytcbopanekmpllaa
