/-
  The reference's ActionBytes: what it answers.
-/
import Derived.Test.YtoeolhlmngnjnaaAct2
namespace Go.Proofs.Ytoeolhlmngnjnaa
open Go.RowKit

set_option maxRecDepth 100000 in
set_option maxHeartbeats 1000000 in
theorem ref_ActionBytes_ok (s : ByteArray) (v : Value) (l : List Part) (w : World) (hs : s.size ≤ 140737488351232) (h : RP w v l) (hz : actFault s l = 0) :
    Calls Try.prog 8 #[.agg #[.string s, v]] w fun e w' => ∃ v', e = .returned (.tuple #[v', .int .i64 0]) ∧ RB w' v' (actBytes s l) ∧ Below w.heap.size w w' := by
  have hch := fun w (g : RP w v l) => ref_ActionFault s v l w hs g
  obtain ⟨hs60, hzp⟩ := actFault_zero hz
  have hen := fun w (g : RP w v l) => ref_PartsBytes v l w g
  have hr : encRes l = encParts l := by unfold encRes; rw [if_pos hzp]
  rw [hz] at hch
  rw [hzp, hr] at hen
  have hel := encParts_len hzp
  replace hch := hid hch
  replace hen := hid hen
  clear hr
  have hP := hid h
  obtain ⟨a, c, rfl, -⟩ := h
  have k1 := conv_i32 s.size (by omega)
  have k2 := conv_rune s.size (by omega)
  have hsz := one_size s.size
  have hone : Hid ((one s.size).data.toList = varint s.size) := hid (by rw [varint_one _ (by omega)]; rfl)
  generalize one s.size = sg at *
  go_enter Try.func8, Try.ntmps8
  go_wp2_with fail
  ((with_reducible refine (hch.out _ (hP.out.mono EPart.stable (b_alloc (Below.refl _ _) _))).mono ?_); rintro e w1 ⟨rfl, b1⟩)
  obtain ⟨bc1, bf1⟩ := bcell b1
  have hs1 : w.heap.size < w1.heap.size := by have := b1.size; simp at this; omega
  have hb1 := hid (b_call (b_alloc (Below.refl w.heap.size w) _) b1)
  go_wp2_with fail
  ((with_reducible refine (hen.out _ (hP.out.mono EPart.stable hb1.out)).mono ?_); rintro e w2 ⟨v2, rfl, r2, b2⟩)
  obtain ⟨bc2, bf2⟩ := bcell b2
  have hs2 : w.heap.size < w2.heap.size := Nat.lt_of_lt_of_le hs1 b2.size
  have hb2 := hid (b_call hb1.out b2)
  obtain ⟨a2, c2, rfl, -⟩ := id r2
  have cd := run_string_of 27 5 Try.underlying27 Try.underlying5 9 Try.underlying9 r2
  have hd2 : Hid ((bstr (encParts l)).data.toList = encParts l) := hid (by simp [bstr])
  have hz2 : (bstr (encParts l)).size ≤ 1000 := Nat.le_trans (Nat.le_of_eq (bstr_size _)) hel
  generalize bstr (encParts l) = sd at *
  have hfin : Hid ((((⟨#[65, 65, 49]⟩ : ByteArray) ++ sg) ++ s ++ sd).data.toList = actBytes s l) := hid (by
    simp only [toList_add, hone.out, hd2.out, actBytes, textBytes, List.append_assoc])
  have hsf : (((⟨#[65, 65, 49]⟩ : ByteArray) ++ sg) ++ s ++ sd).size ≤ 2000 := by
    simp only [ByteArray.size_append, hsz]
    have : (⟨#[65, 65, 49]⟩ : ByteArray).size = 3 := rfl
    omega
  have hcv := fun t : ByteArray => Lib.run_convert_string_bytes (P := Try.prog) w2 9 27 5 t Try.underlying9 Try.underlying27 Try.underlying5
  have hrd := conv_reads w2 5 (((⟨#[65, 65, 49]⟩ : ByteArray) ++ sg) ++ s ++ sd) (by omega)
  have hbl := hid (b_call hb2.out (conv_below w2 5 (((⟨#[65, 65, 49]⟩ : ByteArray) ++ sg) ++ s ++ sd)))
  rw [hfin.out] at hrd
  replace hrd := hid hrd
  clear b1 b2 r2 hsf
  go_wp2_with fail
  go_ret2
  refine ⟨_, rfl, ?_, hbl.out⟩
  have hr9 := hrd.out
  simp only [ByteArray.size_append, hsz] at hr9 ⊢
  exact hr9

set_option maxRecDepth 100000 in
theorem ref_ActionBytes (s : ByteArray) (v : Value) (l : List Part) (w : World) (hs : s.size ≤ 140737488351232) (h : RP w v l) :
    Calls Try.prog 8 #[.agg #[.string s, v]] w fun e w' => ∃ v', e = .returned (.tuple #[v', .int .i64 (actFault s l)]) ∧ RB w' v' (actRes s l) ∧ Below w.heap.size w w' := by
  by_cases hz : actFault s l = 0
  · unfold actRes
    rw [if_pos hz, hz]
    exact ref_ActionBytes_ok s v l w hs h hz
  · have ht : (actFault s l != 0) = true := by simp [hz]
    have hr : actRes s l = [] := by unfold actRes; rw [if_neg hz]
    rw [hr]
    have hch := ref_ActionFault s v l _ hs (h.mono EPart.stable (b_alloc (Below.refl w.heap.size w) (Obj.cells #[.string s, v] 24)))
    generalize actFault s l = z at *
    clear hr
    replace hch := hid hch
    obtain ⟨a, c, rfl, -⟩ := h
    go_enter Try.func8, Try.ntmps8
    go_wp2_with fail
    ((with_reducible refine hch.out.mono ?_); rintro e w1 ⟨rfl, b1⟩)
    have hb1 := hid (b_call (b_alloc (Below.refl w.heap.size w) _) b1)
    clear b1
    go_wp2_with fail
    go_ret2
    exact ⟨_, rfl, RS.nil, hb1.out⟩
end Go.Proofs.Ytoeolhlmngnjnaa
