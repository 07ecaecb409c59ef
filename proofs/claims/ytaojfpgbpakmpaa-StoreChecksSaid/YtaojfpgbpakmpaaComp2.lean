/-
  The reference's ShaStep; the law ShaSteps: its walk.
-/
import Derived.Test.YtaojfpgbpakmpaaComp
namespace Go.Proofs.Ytaojfpgbpakmpaa
open Go.RowKit

theorem ref_compressed (vh vb vk : Value) (h b : List UInt32) (w : World) (hh : RW w vh h) (hb : RW w vb b) (hk : RW w vk roundW) (h8 : h.length = 8) (h16 : b.length = 16) :
    Calls Try.prog 199 #[vh, vb, vk] w fun e w' => ∃ v', e = .returned v' ∧ RW w' v' (compress h b) ∧ Below w.heap.size w w' := by
  refine ref_compressed' roundW (sched b) (stepsN roundW (sched b) 64 (s8Of h)) _ vh vb vk h b w hh hb hk h8 h16 roundW_len ?_ rfl (by unfold SchedInv; rw [h16]; rfl) rfl
  unfold sched
  rw [schedN_len, h16]

end Go.Proofs.Ytaojfpgbpakmpaa
