/-
  The reference's PartsBytes: what it answers.
-/
import Derived.Test.YtaojfpgbpakmpaaEnc
namespace Go.Proofs.Ytaojfpgbpakmpaa
open Go.RowKit

/-- The string of one byte. -/
def one (n : Nat) : ByteArray := ⟨#[UInt8.ofNat n]⟩
theorem one_size (n : Nat) : (one n).size = 1 := rfl
theorem conv_i32 (n : Nat) (h : n < 128) (W : World) : (convert 3 21 (.int .i64 (n : Int))).run Try.prog W = .ok (.int .i32 (n : Int)) W := by
  rw [run_convert_int W 3 21 .i64 (n : Int) (by rw [Try.underlying3]; rfl) (by kernel_rfl)]
  have hk : (Try.prog).intKind 21 = .i32 := by kernel_rfl
  have hw : IntKind.i32.wrap (n : Int) = (n : Int) := by
    simp [IntKind.wrap, IntKind.signed, IntKind.bits]
    omega
  rw [hk, hw]
theorem conv_rune (n : Nat) (h : n < 128) (W : World) : (convert 21 9 (.int .i32 (n : Int))).run Try.prog W = .ok (.string (one n)) W := by
  rw [run_convert_int_string W 21 9 .i32 (n : Int) (by rw [Try.underlying21]; rfl) Try.underlying9]
  have hv : Utf8.valid (n : Int) = true := by simp [Utf8.valid]; omega
  have he : Utf8.encode (n : Int) = one n := by
    unfold Utf8.encode
    simp only [hv, if_true, Int.toNat_natCast]
    rw [if_pos h]
    rfl
  rw [he]

theorem varint_one (n : Nat) (h : n < 128) : varint n = [UInt8.ofNat n] := by
  rw [varint_small n h]
  rfl
theorem bstr_size (l : List UInt8) : (bstr l).size = l.length := by show l.toArray.size = l.length; simp
theorem toList_add (a b : ByteArray) : (a ++ b).data.toList = a.data.toList ++ b.data.toList := by simp

set_option maxRecDepth 100000 in
set_option maxHeartbeats 1000000 in
theorem ref_PartsBytes_ok (v : Value) (l : List Part) (w : World) (h : RP w v l) (hz : partsFault l = 0) :
    Calls Try.prog 119 #[v] w fun e w' => ∃ v', e = .returned (.tuple #[v', .int .i64 0]) ∧ RB w' v' (encParts l) ∧ Below w.heap.size w w' := by
  have hP := hid h
  obtain ⟨a, c, rfl, hlc, hcm, hre, hno, hat⟩ := h
  unfold maxLen at hcm
  clear hno
  have hch := fun w (g : RP w (.slice a l.length c) l) => ref_PartsFault _ l w g
  rw [hz] at hch
  replace hch := hid hch
  obtain ⟨hl8, hall⟩ := partsFault_zero hz
  replace hall := hid hall
  replace hat := hid hat
  clear hz
  go_enter Try.func119, Try.ntmps119
  go_wp2_with fail
  ((with_reducible refine (hch.out _ hP.out).mono ?_); rintro e w1 ⟨rfl, b1⟩)
  have hs1 := b1.size
  have hP1 := hid (hP.out.mono EPart.stable b1)
  have k1 := conv_i32 l.length (by omega)
  have k2 := conv_rune l.length (by omega)
  have hsz := one_size l.length
  generalize hone : one l.length = sg at *
  replace hone := hid hone
  go_wp2_with fail
  have hst : Hid ((((⟨#[65, 77, 49]⟩ : ByteArray) ++ sg).data.toList = [65, 77, 49] ++ varint l.length ++ (l.take 0).flatMap encPart)) := hid (by
    rw [toList_add, ← hone.out, varint_one _ (by omega)]; rfl)
  clear k1 k2
  go_loopw [5, 24] (fun sv i wr => ∃ (k : Nat) (s : ByteArray), k ≤ l.length ∧ sv = .string s ∧ i = .int .i64 k ∧ Hid (s.data.toList = [65, 77, 49] ++ varint l.length ++ (l.take k).flatMap encPart) ∧ Hid (Below w.heap.size w wr)) (fun _ i _ => l.length - (intOf i).toNat)
  case atStart => exact ⟨0, _, by omega, rfl, rfl, hst, hid b1⟩
  case round =>
    obtain ⟨k, s, hk, rfl, rfl, hs, hb⟩ := hrel
    have hv5 := varint_len5 l.length (by omega)
    have hss : s.size ≤ 500 := by
      have h1 : s.data.toList.length = s.size := by rw [Array.length_toList]; rfl
      have h2 := encs_len (l := l.take k) (fun y hy => hall.out y (List.mem_of_mem_take hy))
      have h3 := List.length_take_le k l
      rw [hs.out] at h1
      simp only [List.length_append, List.length_cons, List.length_nil] at h1
      omega
    by_cases hlt : k < l.length
    · have hx : l[k]? = some l[k] := List.getElem?_eq_getElem hlt
      generalize l[k] = x at hx
      obtain ⟨bb, off, rfl, hbb, he⟩ := hat.out k _ hx
      obtain ⟨c0, c1, c2, s0, s1, wf⟩ := EPart.stable _ _ _ _ _ hb.out hbb he
      have hbw : bb < wr.heap.size := Nat.lt_of_lt_of_le hbb hb.out.size
      obtain ⟨hn, hd, g0, g1⟩ := hall.out x (List.mem_of_getElem? hx)
      clear he
      obtain ⟨l1, l2, l3⟩ := encPart_len ⟨hn, hd, g0, g1⟩
      have hnx := hid (encs_next ([65, 77, 49] ++ varint l.length) hx)
      have hname := (textFault_zero hn).2.1
      have k1 := conv_i32 x.name.size (by omega)
      have k2 := conv_rune x.name.size (by omega)
      have hsz1 := one_size x.name.size
      generalize hone1 : one x.name.size = sn at *
      replace hone1 := hid hone1
      go_wp2_with fail
      have bx : Hid ((wr.alloc (Obj.cells #[.string x.name, .string x.digest, .int .i64 x.size] 143)).heap[wr.heap.size]? = some (.cells #[.string x.name, .string x.digest, .int .i64 x.size] 143 (0, 0))) := hid (heap_alloc_new wr _)
      have hb' := hid (b_alloc hb.out (Obj.cells #[.string x.name, .string x.digest, .int .i64 x.size] 143))
      generalize wr.alloc (Obj.cells #[.string x.name, .string x.digest, .int .i64 x.size] 143) = wa at *
      generalize wr.heap.size = q at *
      clear hb c0 c1 c2
      have hq0 : q < wa.heap.size := (Array.getElem?_eq_some_iff.1 bx.out).1
      ((with_reducible refine (ref_HexBytes_any x.digest wa s1).mono ?_); rintro e wd ⟨vd, rfl, rd, bd⟩)
      replace bx := hid ((bd.block q hq0).trans bx.out)
      replace hb' := hid (b_call hb'.out bd)
      have e2 : wd.cell? ⟨q, 2, none⟩ = some (.int .i64 x.size) := by rw [Lib.cell_of_heap bx.out]; rfl
      have hq0 : q < wd.heap.size := (Array.getElem?_eq_some_iff.1 bx.out).1
      obtain ⟨da, dc, rfl, -⟩ := id rd
      replace rd := hid rd
      clear bd
      go_wp2_with fail
      ((with_reducible refine (ref_WireNumber x.size wd (by omega) (by omega)).mono ?_); rintro e we ⟨vn, rfl, on, be⟩)
      replace bx := hid ((be.block q hq0).trans bx.out)
      replace hb' := hid (b_call hb'.out be)
      have rn := reads_u8 on (by omega)
      obtain ⟨na, nc, rfl, -⟩ := id rn
      have e0 : we.cell? ⟨q, 0, none⟩ = some (.string x.name) := by rw [Lib.cell_of_heap bx.out]; rfl
      have cd := run_string_of 38 5 Try.underlying38 Try.underlying5 9 Try.underlying9 (rd.out.mono EU8.stable be)
      rw [l2] at cd
      have cn := run_string_of 38 5 Try.underlying38 Try.underlying5 9 Try.underlying9 rn
      have hb1 : Hid ((bstr (hexRes x.digest)).data.toList = hexRes x.digest) := hid (by simp [bstr])
      have hb2 : Hid ((bstr (varint x.size.toNat)).data.toList = varint x.size.toNat) := hid (by simp [bstr])
      have hz1 : (bstr (hexRes x.digest)).size = 32 := (bstr_size _).trans l2
      have hz2 : (bstr (varint x.size.toNat)).size ≤ 5 := Nat.le_trans (Nat.le_of_eq (bstr_size _)) l3
      generalize bstr (hexRes x.digest) = sd at *
      generalize bstr (varint x.size.toNat) = sv at *
      clear rn on be e2
      go_wp2_with fail
      have hfin : Hid ((s ++ (sn ++ x.name ++ sd ++ sv)).data.toList = [65, 77, 49] ++ varint l.length ++ (l.take (k + 1)).flatMap encPart) := hid (by
        rw [← hnx.out]
        simp only [toList_add, hs.out, hb1.out, hb2.out, ← hone1.out, textBytes, varint_one x.name.size (by omega), one, List.append_assoc])
      go_roundw
      case rel => exact ⟨k + 1, _, by omega, rfl, by go_num, hfin, hb'⟩
      case measure => simp [intOf]; omega
    · obtain rfl : k = l.length := by omega
      rw [List.take_length] at hs
      have hcv := Lib.run_convert_string_bytes (P := Try.prog) wr 9 38 5 s Try.underlying9 Try.underlying38 Try.underlying5
      have hrd := conv_reads wr 5 s (by omega)
      have hbl := hid (b_call hb.out (conv_below wr 5 s))
      generalize Lib.bytesWorld wr 5 s = w2 at hcv hrd hbl
      generalize grownCap wr s.size 0 5 = c2 at hcv hrd
      generalize wr.heap.size = b2 at hcv hrd
      rw [hs.out] at hrd
      replace hrd : Hid (RB w2 (.slice (some ⟨b2, 0, none⟩) s.size c2) (encParts l)) := hid hrd
      clear hs hb
      go_wp2_with fail
      go_ret2
      exact ⟨_, rfl, hrd.out, hbl.out⟩
set_option maxRecDepth 100000 in
theorem ref_PartsBytes (v : Value) (l : List Part) (w : World) (h : RP w v l) :
    Calls Try.prog 119 #[v] w fun e w' => ∃ v', e = .returned (.tuple #[v', .int .i64 (partsFault l)]) ∧ RB w' v' (encRes l) ∧ Below w.heap.size w w' := by
  by_cases hz : partsFault l = 0
  · unfold encRes
    rw [if_pos hz, hz]
    exact ref_PartsBytes_ok v l w h hz
  · have ht : (partsFault l != 0) = true := by simp [hz]
    have hr : encRes l = [] := by unfold encRes; rw [if_neg hz]
    rw [hr]
    have hch := ref_PartsFault _ l w h
    generalize partsFault l = z at *
    clear hr
    replace hch := hid hch
    go_enter Try.func119, Try.ntmps119
    go_wp2_with fail
    ((with_reducible refine hch.out.mono ?_); rintro e w1 ⟨rfl, b1⟩)
    go_wp2_with fail
    go_ret2
    exact ⟨_, rfl, RS.nil, b1⟩
end Go.Proofs.Ytaojfpgbpakmpaa
