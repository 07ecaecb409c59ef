/-
  sha.Step: what it answers.
-/
import Derived.Test.YtojebioolflbkaaSched
import Derived.Deep.QuietTactic
import Derived.BigQuiet
import Derived.Deep.RegionLaw
namespace Go.Proofs.Ytojebioolflbkaa
open Go.RowKit

theorem quiet_left1 {P : Program} {f : FuncId} {args : Array Value} {w : World} {n : Nat} {v : Value}
    (h : Calls P f args (w.drewN n) fun e w' => e = .returned v ∧ w.drewN n = w') : Calls P f args (w.drewN n) fun e w'' => e = .returned v ∧ ∃ m, w'' = w.drewN m :=
  h.mono fun _ _ ⟨he, hm⟩ => ⟨he, n, hm.symm⟩

theorem quiet_add_left1 {P : Program} {f : FuncId} {args : Array Value} {w : World} {a n : Nat} {v : Value}
    (h : Calls P f args (w.drewN (a + n)) fun e w' => e = .returned v ∧ w.drewN (a + n) = w') :
    Calls P f args (w.drewN (a + n)) fun e w'' => e = .returned v ∧ ∃ m, w'' = w.drewN (a + m) :=
  h.mono fun _ _ ⟨he, hm⟩ => ⟨he, n, hm.symm⟩

/-- The eight words that a step turns. -/
structure S8 where
  a : UInt32
  b : UInt32
  c : UInt32
  d : UInt32
  e : UInt32
  f : UInt32
  g : UInt32
  h : UInt32
def S8.list (s : S8) : List UInt32 := [s.a, s.b, s.c, s.d, s.e, s.f, s.g, s.h]
def one8 (s : S8) (k w : UInt32) : UInt32 := s.h + mixW s.e 1 + choose s.e s.f s.g + k + w
def two8 (s : S8) : UInt32 := mixW s.a 0 + most s.a s.b s.c
def step8 (s : S8) (k w : UInt32) : S8 := ⟨one8 s k w + two8 s, s.a, s.b, s.c, s.d + one8 s k w, s.e, s.f, s.g⟩
def stepsN (ks ws : List UInt32) : Nat → S8 → S8
  | 0, s => s
  | n + 1, s => stepsN ks ws n (step8 s (ks.getD (64 - (n + 1)) 0) (ws.getD (64 - (n + 1)) 0))
def StInv (R : S8) (ks ws : List UInt32) (t : Nat) (s : S8) : Prop := R = stepsN ks ws (64 - t) s
theorem st_next {R : S8} {ks ws : List UInt32} {t : Nat} {s : S8} (h : StInv R ks ws t s) (ht : t < 64) {k w : UInt32} (hk : ks.getD t 0 = k) (hw : ws.getD t 0 = w) : StInv R ks ws (t + 1) (step8 s k w) := by
  unfold StInv at h ⊢
  obtain ⟨q, hq⟩ : ∃ q, 64 - t = q + 1 := ⟨64 - t - 1, by omega⟩
  rw [hq, stepsN, show 64 - (q + 1) = t by omega, hk, hw] at h
  rw [show 64 - (t + 1) = q by omega]
  exact h
theorem st_end {R : S8} {ks ws : List UInt32} {s : S8} (h : StInv R ks ws 64 s) : R = s := h
def s8Of (l : List UInt32) : S8 := ⟨l.getD 0 0, l.getD 1 0, l.getD 2 0, l.getD 3 0, l.getD 4 0, l.getD 5 0, l.getD 6 0, l.getD 7 0⟩
theorem s8Of_list (l : List UInt32) (h : l.length = 8) : (s8Of l).list = l := by
  match l, h with
  | [a, b, c, d, e, f, g, i], _ => rfl
/-- Eight words behind a block of sixteen. -/
def compress (h b : List UInt32) : List UInt32 := List.zipWith (· + ·) (stepsN roundW (sched b) 64 (s8Of h)).list h
theorem compress_len (h b : List UInt32) (hl : h.length = 8) : (compress h b).length = 8 := by
  unfold compress
  rw [List.length_zipWith, hl]; rfl
def stepErr (h b : List UInt32) : Int := if h.length = 8 ∧ b.length = 16 then 0 else 1
def stepOut (h b : List UInt32) : List UInt32 := if h.length = 8 ∧ b.length = 16 then compress h b else []

/-- A block whose row begins with these words; behind them stands something. -/
def BJ (w : World) (g : Nat) (t : TypeId) (l : List UInt32) (J : List Value) : Prop := w.heap[g]? = some (.cells (l.flatMap cU32 ++ J).toArray t (0, 0))
theorem BJ.cell {w : World} {g : Nat} {t : TypeId} {l : List UInt32} {J : List Value} (h : BJ w g t l J) (k : Nat) (x : UInt32) (hk : l[k]? = some x) : w.cell? ⟨g, k, none⟩ = some (.int .u32 (x.toNat : Int)) := by
  have hl : k < l.length := (List.getElem?_eq_some_iff.1 hk).1
  rw [cell_of_row w g k _ t (0, 0) h, List.getElem?_toArray, List.getElem?_append_left (by rw [fm32_len]; exact hl), flat_get (cells := cU32) (fun _ => rfl) (by decide)]
  simp [hk, cU32, Nat.mod_one]
theorem BJ.frozen {w : World} {g : Nat} {t : TypeId} {l : List UInt32} {J : List Value} (h : BJ w g t l J) (k : Nat) : w.frozen? ⟨g, k, none⟩ = false := frozen_of_row w g k _ t h
theorem BJ.lt {w : World} {g : Nat} {t : TypeId} {l : List UInt32} {J : List Value} (h : BJ w g t l J) : g < w.heap.size := (Array.getElem?_eq_some_iff.1 h).1
theorem BJ.below {w w' : World} {g : Nat} {t : TypeId} {l : List UInt32} {J : List Value} (h : BJ w g t l J) (hb : Below w.heap.size w w') : BJ w' g t l J := (hb.block g h.lt).trans h
theorem BJ.set {w : World} {g : Nat} {t : TypeId} {l : List UInt32} {J : List Value} (h : BJ w g t l J) (k : Nat) (y : UInt32) (hk : k < l.length) : BJ (w.setCell ⟨g, k, none⟩ (.int .u32 (y.toNat : Int))) g t (l.set k y) J := by
  unfold BJ
  have e : (l.flatMap cU32 ++ J).set k (.int .u32 (y.toNat : Int)) = (l.set k y).flatMap cU32 ++ J := by
    rw [List.set_append_left _ _ (by rw [fm32_len]; exact hk), flat1_set l k y _ (fun _ => rfl) rfl]
  rw [heap_setCell_same w g k _ t _ h, ← e]
  simp
theorem BW.other {w : World} {g : Nat} {t : TypeId} {l : List UInt32} (h : BW w g t l) (a : Addr) (v : Value) (hne : g ≠ a.block) : BW (w.setCell a v) g t l := h.set_other a v hne
theorem BJ.reads {w : World} {g cap : Nat} {t : TypeId} {l : List UInt32} {J : List Value} (h : BJ w g t l J) (hc : l.length ≤ cap) (hm : cap ≤ maxLen) (hs : l.length ≤ 1000) : RW w (.slice (some ⟨g, 0, none⟩) l.length cap) l := by
  refine ⟨_, _, rfl, hc, hm, by omega, fun h => by simp at h, fun k x hk => ⟨g, 0, rfl, h.lt, ?_⟩⟩
  have := h.cell k x hk
  unfold EU32
  rw [show 0 + k * 1 = k by omega]
  exact this
/-- An owned row is such a block. -/
theorem OS.bj {e : TypeId} {w : World} {B : Nat} {v : Value} {l : List UInt32} (h : OS e 1 cU32 w B v l) (hne : 0 < l.length) : ∃ g cap J, v = .slice (some ⟨g, 0, none⟩) l.length cap ∧ B ≤ g ∧ l.length ≤ cap ∧ cap ≤ maxLen ∧ BJ w g e l J ∧ l.length + J.length = cap := by
  obtain ⟨h1, h2⟩ := h
  rcases h2 with ⟨rfl, hn⟩ | ⟨g, cap, cur, rfl, hg, hh, hnc, hcm, hcs, htake⟩
  · omega
  · have hcut : cur.toList = l.flatMap cU32 ++ cur.toList.drop (l.length * 1) := by rw [← htake, List.take_append_drop]
    refine ⟨g, cap, cur.toList.drop (l.length * 1), rfl, hg, hnc, hcm, ?_, ?_⟩
    · unfold BJ
      rw [← hcut]
      exact hh
    · have : cur.toList.length = cap * 1 := by rw [Array.length_toList]; exact hcs
      rw [List.length_drop, this]; omega
theorem u_add2 (a b : UInt32) : ((a.toNat : Int) + (b.toNat : Int)) % 4294967296 = ((a + b).toNat : Int) := by
  rw [UInt32.toNat_add]; omega
theorem u_add5 (a b c d e : UInt32) : (((a.toNat : Int) + (b.toNat : Int) + (c.toNat : Int) + (d.toNat : Int)) % 4294967296 + (e.toNat : Int)) % 4294967296 = ((a + b + c + d + e).toNat : Int) := by
  simp only [UInt32.toNat_add]; omega

end Go.Proofs.Ytojebioolflbkaa
