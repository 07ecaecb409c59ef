/-
  hex.Text and the reference's HexText: the text of bytes. The builder that hex.Text makes is written byte by byte.
-/
import Derived.Test.YtaojfpgbpakmpaaHex
import Derived.Test.YtaojfpgbpakmpaaWord3
import Derived.Lib.Builder
import Derived.Laws.Externs
namespace Go.Proofs.Ytaojfpgbpakmpaa
open Go.RowKit

theorem size_builder : (Try.prog.info? 194).map (·.size) = some 2 := by kernel_rfl
theorem lies_builder : liesAt Try.prog Try.prog.depth 194 (2 / Try.prog.cellsOf 194) 0 194 1 = true := by kernel_rfl

set_option maxRecDepth 100000 in
set_option maxHeartbeats 1000000 in
/-- copyCheck at a builder that was written before. -/
theorem b_check_used (b : Nat) (w : World) (h0 : w.cell? ⟨b, 0, none⟩ = some (.pointer (some ⟨b, 0, none⟩))) :
    Calls Try.prog 206 #[.pointer (some ⟨b, 0, none⟩)] w fun e w' => e = .returned (.tuple #[]) ∧ w = w' := by
  obtain ⟨j, hj, _⟩ := Option.map_eq_some_iff.1 size_builder
  go_enter Try.func206, Try.ntmps206
  go_wp2_with fail
  rw [Lib.run_neq_ptr_same w _ Try.underlying192 hj]
  go_wp2_with fail
  go_end0
  exact ⟨rfl, rfl⟩

set_option maxRecDepth 100000 in
set_option maxHeartbeats 1000000 in
/-- copyCheck at a fresh builder. -/
theorem b_check_fresh (b : Nat) (w : World) (h0 : w.cell? ⟨b, 0, none⟩ = some (.pointer none)) (hsh : w.shape? b = some (194, 2)) (hfz : w.frozen? ⟨b, 0, none⟩ = false) :
    Calls Try.prog 206 #[.pointer (some ⟨b, 0, none⟩)] w fun e w' => e = .returned (.tuple #[]) ∧ w' = w.setCell ⟨b, 0, none⟩ (.pointer (some ⟨b, 0, none⟩)) := by
  obtain ⟨j, hj, hjs⟩ := Option.map_eq_some_iff.1 size_builder
  go_enter Try.func206, Try.ntmps206
  go_wp2_with fail
  rw [Lib.run_to_unsafe w ⟨b, 0, none⟩ Try.underlying192 Try.underlying221 hj (by rw [hjs]; decide) hsh (Nat.zero_lt_succ 1)]
  simp only [Result.andThen]
  rw [Oper.upon_value]
  go_wp2_with fail
  rw [run_callFunc_extern Try.func219 (by kernel_rfl) (by kernel_rfl) (by kernel_rfl) (e := Extern.AbiNoEscape.same) (by kernel_rfl)]
  rw [Lib.run_noEscape]
  simp only [Result.andThen]
  rw [Oper.upon_value]
  go_wp2_with fail
  rw [Lib.run_from_unsafe w ⟨b, 0, none⟩ Try.underlying221 Try.underlying192 hj hsh lies_builder]
  simp only [Result.andThen]
  rw [Oper.upon_value]
  go_wp2_with fail
  go_end0
  exact ⟨rfl, rfl⟩

abbrev IsB (B b : Nat) (l : List UInt8) (w : World) : Prop := Lib.IsBuilder 194 5 B b (Lib.byteCells l) w
abbrev BAt (B b : Nat) (l : List UInt8) (w : World) : Prop := Lib.BuilderAt 194 5 B b (.pointer (some ⟨b, 0, none⟩)) (Lib.byteCells l) w

theorem b_check (B b : Nat) (l : List UInt8) (w : World) (h : IsB B b l w) :
    Calls Try.prog 206 #[.pointer (some ⟨b, 0, none⟩)] w fun e w' => e = .returned (.tuple #[]) ∧ BAt B b l w' ∧ Below B w w' := by
  rcases h with h | h
  · refine (b_check_fresh b w h.cell0 h.shape h.frozen0).mono ?_
    rintro e w' ⟨rfl, rfl⟩
    exact ⟨rfl, h.used _, (Below.refl B w).setCell (p := ⟨b, 0, none⟩) h.1 _⟩
  · refine (b_check_used b w h.cell0).mono ?_
    rintro e w' ⟨rfl, rfl⟩
    exact ⟨rfl, h, Below.refl B _⟩

theorem byteCells_len (l : List UInt8) : (Lib.byteCells l).length = l.length := by simp [Lib.byteCells]
theorem byteCells_snoc (l : List UInt8) (c : UInt8) : Lib.byteCells (l ++ [c]) = Lib.byteCells l ++ [.int .u8 (c.toNat : Int)] := by simp [Lib.byteCells]

set_option maxRecDepth 100000 in
set_option maxHeartbeats 2000000 in
theorem b_write (B b : Nat) (l : List UInt8) (c : UInt8) (w : World) (h : IsB B b l w) (hlen : l.length + 1 ≤ 140737488355328) (hBw : B ≤ w.heap.size) :
    Calls Try.prog 182 #[.pointer (some ⟨b, 0, none⟩), .int .u8 (c.toNat : Int)] w fun e w' => e = .returned .nilIface ∧ BAt B b (l ++ [c]) w' ∧ Below B w w' := by
  obtain ⟨i0, hi, hz0, hz1, hz2⟩ := info_parts info_u8
  have hl : (Lib.byteCells l).length = l.length := byteCells_len l
  go_enter Try.func182, Try.ntmps182
  go_wp2_with fail
  refine (b_check B b l _ h).mono ?_
  rintro e w1 ⟨rfl, h1, hb1⟩
  obtain ⟨hB, v, hbk, hown, hne⟩ := h1
  have c0 : w1.cell? ⟨b, 0, none⟩ = some (.pointer (some ⟨b, 0, none⟩)) := by rw [Lib.cell_of_heap hbk]; rfl
  have c1 : w1.cell? ⟨b, 1, none⟩ = some v := by rw [Lib.cell_of_heap hbk]; rfl
  replace hl := hid hl
  go_wp2_with (at_builtin; refine wpList_append_own _ rfl _ _ 38 rfl B 5 i0 (.int .u8 0) 1 1 Try.underlying38 hi hz0 hz1 hz2 rfl (by decide) _ _ _ rfl (hown.alloc _) ⟨w1.heap.size, 0, none⟩ 1 1 [.int .u8 (c.toNat : Int)] rfl rfl ?c1 ?c2 ?c3 ?c4 ?c5 ?_)
  case c1 =>
    intro j u hj
    match j, hj with
    | 0, hj => simp at hj; subst hj; simp [Addr.add]
  case c2 => intro u hu; simp at hu; subst hu; rfl
  case c3 => rw [hl.out]; unfold maxLen; omega
  case c4 => rw [hl.out]; omega
  case c5 => have := hb1.size; simp; omega
  intro v' w2 hown' hgrow _
  have hlt : b < w1.heap.size := by
    rcases Nat.lt_or_ge b w1.heap.size with h' | h'
    · exact h'
    · simp [Array.getElem?_eq_none h'] at hbk
  have hb2 : w2.heap[b]? = some (.cells #[.pointer (some ⟨b, 0, none⟩), v] 194 (0, 0)) := by
    rw [hgrow.block b (by simp; omega) (fun e => hne e.symm), Lib.alloc_old w1 _ b hlt]
    exact hbk
  have d0 : w2.cell? ⟨b, 0, none⟩ = some (.pointer (some ⟨b, 0, none⟩)) := by rw [Lib.cell_of_heap hb2]; rfl
  have d1 : w2.cell? ⟨b, 1, none⟩ = some v := by rw [Lib.cell_of_heap hb2]; rfl
  have f1 : w2.frozen? ⟨b, 1, none⟩ = false := Lib.frozen_of_heap hb2 1
  obtain ⟨g, cap, rfl⟩ : ∃ g cap, v' = .slice (some ⟨g, 0, none⟩) ((Lib.byteCells l).length + 1) cap := by
    rcases hown'.2 with ⟨_, h0⟩ | ⟨g, cap, cur, hv, _⟩
    · omega
    · exact ⟨g, cap, hv⟩
  go_wp2_with fail
  go_ret
  refine ⟨rfl, ?_, ?_⟩
  · unfold BAt
    rw [byteCells_snoc]
    exact Lib.BuilderAt.put (T := 194) (e := 5) hB hb2 (bs' := Lib.byteCells l ++ [.int .u8 (c.toNat : Int)]) (by simpa using hown') (by decide)
  · exact ((hb1.alloc (by have := hb1.size; omega) _).grown hgrow (by have := hb1.size; simp; omega) (fun k hk => (hown.lt k hk).1)).setCell (p := ⟨b, 1, none⟩) hB _

/-- A hexadecimal digit. -/
def hexDig (n : Nat) : UInt8 := hexDigits.getD n 0
def hexTwo (c : UInt8) : List UInt8 := [hexDig (c.toNat / 16), hexDig (c.toNat % 16)]
/-- The text of bytes. -/
def hexOf (l : List UInt8) : List UInt8 := l.flatMap hexTwo
theorem hexOf_len (l : List UInt8) : (hexOf l).length = 2 * l.length := by
  unfold hexOf
  induction l with
  | nil => rfl
  | cons c l ih => rw [List.flatMap_cons, List.length_append, ih]; simp [hexTwo]; omega
theorem hexOf_snoc (l : List UInt8) (k : Nat) (h : k < l.length) : hexOf (l.take (k + 1)) = hexOf (l.take k) ++ [hexDig (l[k].toNat / 16)] ++ [hexDig (l[k].toNat % 16)] := by
  unfold hexOf
  rw [List.take_succ_eq_append_getElem h, List.flatMap_append]
  simp [hexTwo]
theorem dig_at (n : Int) (k : Nat) (hn : n = (k : Int)) (hk : k < 16) (w : World) : (Instr.index 9 (.string ⟨#[48, 49, 50, 51, 52, 53, 54, 55, 56, 57, 97, 98, 99, 100, 101, 102]⟩) (.int .u8 n)).run Try.prog w = .ok (.int .u8 ((hexDig k).toNat : Int)) w := by
  subst hn
  rw [run_index_string w 9 _ .u8 k Try.underlying9, dif_pos (by have : (ByteArray.mk #[48, 49, 50, 51, 52, 53, 54, 55, 56, 57, 97, 98, 99, 100, 101, 102]).size = 16 := rfl; omega)]
  have key : ∀ j : Fin 16, ((ByteArray.mk #[48, 49, 50, 51, 52, 53, 54, 55, 56, 57, 97, 98, 99, 100, 101, 102])[j.val]'j.isLt) = hexDig j.val := by decide
  have := key ⟨k, hk⟩
  simp only [Int.toNat_natCast]
  rw [← this]

set_option maxRecDepth 100000 in
set_option maxHeartbeats 2000000 in
theorem hex_Text (v : Value) (l : List UInt8) (w : World) (hl : RB w v l) (h : l.length ≤ 35184372088832) :
    Calls Try.prog 132 #[v] w fun e w' => e = .returned (.string (bstr (hexOf l))) ∧ Below w.heap.size w w' := by
  have hR := hl
  obtain ⟨a, c, rfl, hlc, hcm, hre, hno, _⟩ := hl
  unfold maxLen at hcm
  generalize hB : w.heap.size = B at *
  have hst : IsB B B (hexOf (l.take 0)) (w.alloc (.cells #[.pointer none, .slice none 0 0] 194)) := by
    refine .inl ⟨Nat.le_refl _, .slice none 0 0, ?_, World.ownsRow_nil _ _ _ _, by simp [Value.ownBlock]⟩
    rw [← hB]
    exact heap_alloc_new w _
  have hb0 : Below B w (w.alloc (.cells #[.pointer none, .slice none 0 0] 194)) := (Below.refl B w).alloc (by omega) _
  go_enter Try.func132, Try.ntmps132
  go_wp2_with fail
  go_loopw [8] (fun i wr => ∃ (k : Nat), i = .int .i64 (k : Int) ∧ k ≤ l.length ∧ IsB B B (hexOf (l.take k)) wr ∧ Below B w wr) (fun i _ => l.length - (intOf i).toNat)
  case atStart => exact ⟨0, rfl, by omega, hst, hb0⟩
  case round =>
    obtain ⟨k, rfl, hk, hI, hb⟩ := hrel
    by_cases hlt : k < l.length
    · obtain ⟨b, off, c', hv, hbl, _, _, hc⟩ := RB.block hR (by omega)
      simp only [Value.slice.injEq] at hv
      obtain ⟨rfl, -, -⟩ := hv
      have c0 := cell_stays (hB ▸ hb) hbl (hc k hlt)
      have hs := hb.size
      have hsn := hid (hexOf_snoc l k hlt)
      have hlen := hid (hexOf_len (l.take k))
      have hq := l[k].toNat_lt
      clear hc hR hst hb0
      generalize l[k] = x0 at *
      have d1 := dig_at ((x0.toNat : Int) / 16) (x0.toNat / 16) (by omega) (by omega)
      have d2 := dig_at ((x0.toNat : Int) % 16) (x0.toNat % 16) (by omega) (by omega)
      go_wp2_with fail
      refine (b_write B B _ (hexDig (x0.toNat / 16)) _ hI (by rw [hlen.out, List.length_take]; omega) (by omega)).mono ?_
      rintro e w1 ⟨rfl, h1, b1⟩
      have hs1 := b1.size
      go_wp2_with fail
      refine (b_write B B _ (hexDig (x0.toNat % 16)) _ (.inr h1) (by rw [List.length_append, hlen.out, List.length_take]; simp; omega) (by omega)).mono ?_
      rintro e w2 ⟨rfl, h2, b2⟩
      rw [← hsn.out] at h2
      clear d1 d2
      go_wp2_with fail
      go_roundw
      case rel => exact ⟨k + 1, by go_num, by omega, .inr h2, (hb.trans b1).trans b2⟩
      case measure => simp [intOf]; omega
    · obtain rfl : k = l.length := by omega
      rw [List.take_length] at hI
      have hs := hb.size
      go_wp2_with fail
      refine (Try.Builder_String_any B B _ _ hI (by omega)).mono ?_
      rintro e w1 ⟨rfl, b1⟩
      go_wp2_with fail
      go_ret
      exact ⟨rfl, hb.trans b1⟩
end Go.Proofs.Ytaojfpgbpakmpaa
