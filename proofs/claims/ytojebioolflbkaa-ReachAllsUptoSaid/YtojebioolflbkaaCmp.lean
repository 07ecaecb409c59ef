/-
  The reference's compressed and ShaStep: what each answers; the law ShaSteps: its walk. The reference's ShaStep; the law ShaSteps: its walk.
-/
import Derived.Test.YtojebioolflbkaaStep
import Derived.Deep.RegionHeld3
import Derived.Deep.AppendLies
import Derived.StillTailTactics
namespace Go.Proofs.Ytojebioolflbkaa
open Go.RowKit

theorem RW.block' {w : World} {v : Value} {l : List UInt32} (h : RW w v l) (hne : 0 < l.length) : ∃ b off c, v = .slice (some ⟨b, off, none⟩) l.length c ∧ b < w.heap.size ∧ l.length ≤ c ∧ c ≤ maxLen ∧ ∀ k x, l[k]? = some x → w.cell? ⟨b, off + k, none⟩ = some (.int .u32 (x.toNat : Int)) := by
  obtain ⟨a, c, rfl, hlc, hcm, hre, hno, hat⟩ := h
  obtain ⟨b, off, rfl, hlt, _⟩ := hat 0 _ (List.getElem?_eq_getElem hne)
  refine ⟨b, off, c, rfl, hlt, hlc, hcm, fun k x hk => ?_⟩
  obtain ⟨b', off', hb, _, he⟩ := hat k _ hk
  simp only [Option.some.injEq, Addr.mk.injEq, and_true] at hb
  obtain ⟨rfl, rfl⟩ := hb
  rw [Nat.mul_one] at he
  exact he
theorem os_empty32 (w : World) (t : TypeId) (B k : Nat) (hk : k = w.heap.size) (hB : B ≤ w.heap.size) : OS t 1 cU32 (w.alloc (.cells #[] t)) B (.slice (some ⟨k, 0, none⟩) 0 0) [] := by
  subst hk
  refine ⟨rfl, .inr ⟨w.heap.size, 0, #[], rfl, hB, heap_alloc_new w _, Nat.le_refl _, by simp [maxLen], rfl, rfl⟩⟩
/-- The length of a slice's value. -/
def lenOf : Value → Nat
  | .slice _ n _ => n
  | _ => 0
theorem mix2_def (x : UInt32) : mixW x 2 = (rot x 7 ^^^ rot x 18) ^^^ (x >>> 3) := rfl
theorem mix3_def (x : UInt32) : mixW x 3 = (rot x 17 ^^^ rot x 19) ^^^ (x >>> 10) := rfl

theorem mixA (x : UInt32) : bits .xor .u32 (bits .xor .u32 ((rot x 7).toNat : Int) ((rot x 18).toNat : Int)) ((x.toNat : Int) / 8) = ((mixW x 2).toNat : Int) := by
  rw [shr3, xor3]; rfl
theorem mixB (x : UInt32) : bits .xor .u32 (bits .xor .u32 ((rot x 17).toNat : Int) ((rot x 19).toNat : Int)) ((x.toNat : Int) / 1024) = ((mixW x 3).toNat : Int) := by
  rw [shr10, xor3]; rfl

theorem mixC (x : UInt32) : bits .xor .u32 (bits .xor .u32 ((rot x 6).toNat : Int) ((rot x 11).toNat : Int)) ((rot x 25).toNat : Int) = ((mixW x 1).toNat : Int) := by
  rw [xor3]; rfl
theorem mixD (x : UInt32) : bits .xor .u32 (bits .xor .u32 ((rot x 2).toNat : Int) ((rot x 13).toNat : Int)) ((rot x 22).toNat : Int) = ((mixW x 0).toNat : Int) := by
  rw [xor3]; rfl
theorem choose_alt (e f g : UInt32) : g ^^^ (e &&& (f ^^^ g)) = choose e f g := by
  apply UInt32.toBitVec_inj.1
  unfold choose
  ext i hi
  simp only [UInt32.toBitVec_xor, UInt32.toBitVec_and, UInt32.toBitVec_or, UInt32.toBitVec_not, BitVec.getElem_xor, BitVec.getElem_and, BitVec.getElem_or, BitVec.getElem_not]
  cases e.toBitVec[i] <;> cases f.toBitVec[i] <;> cases g.toBitVec[i] <;> rfl
theorem most_alt (a b c : UInt32) : (a &&& b) ||| (c &&& (a ||| b)) = most a b c := by
  apply UInt32.toBitVec_inj.1
  unfold most
  ext i hi
  simp only [UInt32.toBitVec_and, UInt32.toBitVec_or, BitVec.getElem_and, BitVec.getElem_or]
  cases a.toBitVec[i] <;> cases b.toBitVec[i] <;> cases c.toBitVec[i] <;> rfl
theorem u_add3 (a b c : UInt32) : ((a.toNat : Int) + ((b.toNat : Int) + (c.toNat : Int))) % 4294967296 = ((a + (b + c)).toNat : Int) := by
  simp only [UInt32.toNat_add]; omega
theorem u_add3' (a b c : UInt32) : ((a.toNat : Int) + ((b.toNat : Int) + (c.toNat : Int)) % 4294967296) % 4294967296 = ((a + (b + c)).toNat : Int) := by
  simp only [UInt32.toNat_add]; omega
theorem chA (e f g : UInt32) : bits .xor .u32 (g.toNat : Int) (bits .and .u32 (e.toNat : Int) (bits .xor .u32 (f.toNat : Int) (g.toNat : Int))) = ((choose e f g).toNat : Int) := by
  rw [w_xor, w_and, w_xor, choose_alt]
theorem moA (a b c : UInt32) : bits .or .u32 (bits .and .u32 (a.toNat : Int) (b.toNat : Int)) (bits .and .u32 (c.toNat : Int) (bits .or .u32 (a.toNat : Int) (b.toNat : Int))) = ((most a b c).toNat : Int) := by
  rw [w_and, w_or, w_and, w_or, most_alt]

end Go.Proofs.Ytojebioolflbkaa

namespace Go.Proofs.Ytojebioolflbkaa
open Go.RowKit

end Go.Proofs.Ytojebioolflbkaa
