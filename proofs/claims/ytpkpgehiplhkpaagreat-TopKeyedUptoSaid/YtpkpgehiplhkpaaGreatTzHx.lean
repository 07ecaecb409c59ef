import Derived.Test.YtpkpgehiplhkpaaGreatTzShelf
import Derived.Test.YtpkpgehiplhkpaaGreatTzWrd
namespace Go.Proofs.YtpkpgehiplhkpaaGreat
open Go.RowKit
theorem qtzhx_3 {P : Prop} (h : P := by omega) : P := h
theorem qtzhx_2 {P : Prop} (h : P := by
 rintro e w' ⟨rfl, rfl⟩
 refine ⟨_, by rw [e1], ?_, Below.refl _ _⟩
 unfold hexRes; rw [if_neg (by rw [e1]; decide)]; exact RS.nil) : P := h
theorem qtzhx_1 {P : Prop} (h : P := by
 replace hm := hid hm
 go_wp2_with fail
 go_quiet (exact Calls.quiet_of_same (index_hexv _ _))
 clear hwr
 go_wp2_with fail
 go_ret2
 exact ⟨rfl, below_drewN hb _⟩) : P := h
def hexDigits : List UInt8 := [48, 49, 50, 51, 52, 53, 54, 55, 56, 57, 97, 98, 99, 100, 101, 102]
def hexv (c : UInt8) : Int := Lib.indexByte hexDigits c
theorem hexv_range (c : UInt8) : -1 ≤ hexv c ∧ hexv c ≤ 15 := by
 have key : ∀ k : Fin 256, -1 ≤ hexv (UInt8.ofNat k.val) ∧ hexv (UInt8.ofNat k.val) ≤ 15 := by decide +kernel
 have h := key ⟨c.toNat, c.toNat_lt⟩
 rw [show UInt8.ofNat c.toNat = c by simp] at h
 exact h
theorem index_hexv (c : UInt8) (w : World) : Calls Tryz.prog 115 #[.string ⟨#[48, 49, 50, 51, 52, 53, 54, 55, 56, 57, 97, 98, 99, 100, 101, 102]⟩, .int .u8 (c.toNat : Int)] w fun e w' => e = .returned (.int .i64 (hexv c)) ∧ w' = w := by
 refine (Tryz.strings_IndexByte _ _ _).mono ?_
 rintro e w' ⟨rfl, rfl⟩
 refine ⟨?_, rfl⟩
 rw [Int.toNat_natCast, show c.toNat.toUInt8 = c by simp]
 rfl
def AllHex (s : ByteArray) : Prop := ∀ k (h : k < s.size), 0 ≤ hexv s[k]
def hexAt (s : ByteArray) (k : Nat) : UInt8 := if h : 2 * k + 1 < s.size then UInt8.ofNat (16 * (hexv s[2 * k]).toNat + (hexv (s[2 * k + 1]'h)).toNat) else 0
def hexDec (s : ByteArray) (k : Nat) : List UInt8 := (List.range k).map (hexAt s)
theorem hexDec_len (s : ByteArray) (k : Nat) : (hexDec s k).length = k := by simp [hexDec]
theorem hexDec_snoc (s : ByteArray) (k : Nat) : hexDec s (k + 1) = hexDec s k ++ [hexAt s k] := by simp [hexDec, List.range_succ]
theorem hexAt_val (s : ByteArray) (k m : Nat) (hm : m = 2 * k) (h : m + 1 < s.size) (h0 : 0 ≤ hexv s[m]) (h1 : 0 ≤ hexv s[m + 1])   : 16 * hexv s[m] + hexv s[m + 1] = ((hexAt s k).toNat : Int) := by
 subst hm
 unfold hexAt
 have r0 := hexv_range s[2 * k]
 have r1 := hexv_range s[2 * k + 1]
 rw [dif_pos h, UInt8.toNat_ofNat']
 omega
set_option maxRecDepth 100000 in
set_option maxHeartbeats 1000000 in
theorem hex_Bytes (s : ByteArray) (w : World) (h : s.size ≤ 4000) (h2 : s.size % 2 = 0) (ha : AllHex s) :
 Calls Tryz.prog 61 #[.string s] w fun e w' => ∃ v, e = .returned (.tuple #[v, .int .i64 0]) ∧ OS 5 1 cU8 w' w.heap.size v (hexDec s (s.size / 2)) ∧ Below w.heap.size w w' := by
 obtain ⟨i0, hi, hz0, hz1, hz2⟩ := info_parts info_u8
 obtain ⟨w1, hmk, how, hgr⟩ := run_make_own w w.heap.size 41 5 i0 (.int .u8 0) 1 Tryz.underlying41 hi hz0 hz1 .i64 .i64 (s.size / 2) (by rw [hz2]; omega) (by simp [maxLen]; omega) (Nat.le_refl _)
 have ho1 : OS 5 1 cU8 w1 w.heap.size (.slice (some ⟨w.heap.size, 0, none⟩) 0 (s.size / 2)) [] := how
 rw [Int.natCast_ediv] at hmk
 simp only [Int.cast_ofNat_Int] at hmk
 have hb1 : Below w.heap.size w w1 := b_grown (v := .slice none 0 0) (Below.refl _ _) hgr (fun k hk => by simp [Value.ownBlock] at hk)
 clear how hgr
 have q2 : ((s.size : Int) % 2 != 0) = false := by simp; omega
 have q4 : decide (4000 < (s.size : Int)) = false := by simp; omega
 generalize hB : w.heap.size = B at *
 generalize Value.slice (some ⟨B, 0, none⟩) 0 (s.size / 2) = v1 at *
 go_enter Tryz.func61, Tryz.ntmps61
 go_wp2_with fail
 go_loopw [4, 5] (fun v i wr => ∃ (m : Nat), i = .int .i64 (m : Int) ∧ m % 2 = 0 ∧ m ≤ s.size ∧ OS 5 1 cU8 wr B v (hexDec s (m / 2)) ∧ Below B w wr) (fun _ i _ => s.size - (intOf i).toNat)
 case atStart => exact ⟨0, rfl, rfl, by omega, ho1, hb1⟩
 obtain ⟨m, rfl, hm, hk, hown, hb⟩ := hrel
 by_cases hlt : m < s.size
 · have hlt1 : m + 1 < s.size := by omega
   have h0 := ha m hlt
   have h1 := ha (m + 1) hlt1
   have hv := hid (hexAt_val s (m / 2) m qtzhx_3 hlt1 h0 h1)
   have hs := hb.size
   have r0 := hexv_range s[m]
   have r1 := hexv_range s[m + 1]
   replace hm := hid hm
   have hwr : IntKind.i64.wrap ((m : Int) + 1) = (m : Int) + 1 := IntWalk.i64_in _ qtzhx_3
   have hge : (0 : Int) ≤ (m : Int) + 1 := by omega
   have hlz : (m : Int) + 1 < (s.size : Int) := by omega
   go_wp2_with fail
   go_quiet (exact Calls.quiet_of_same (index_hexv _ _))
   clear hwr
   go_wp2_with (at_builtin; go_must (refine wpL_append flat_u8 rfl (.tmp 40) (.tmp 46) 41 rfl 5 i0 (.int .u8 0) Tryz.underlying41 hi hz0 hz1 hz2 rfl B _ (hexDec s (m / 2)) rfl (OS.alloc (OS.drewN hown _) _) _ [hexAt s (m / 2)] rfl (one_u8 _ _ _ _ _ (by simp) hv.out) ?c1 ?c2 ?c3 ?_))
   case c1 => rw [hexDec_len]; simp; omega
   case c2 => rw [hexDec_len]; simp [maxLen]; omega
   case c3 => simp; omega
   intro v' w2 hown1 hgr
   rw [← hexDec_snoc] at hown1
   have hb2 := b_grown (b_alloc (below_drewN (hB ▸ hb) _) _) hgr (hB ▸ OS.block hown)
   clear hgr hb hown
   go_wp2_with fail
   go_roundw
   case rel => exact ⟨m + 2, by go_num, by have := hm.out; omega, by have := hm.out; omega, by rw [show (m + 2) / 2 = m / 2 + 1 by omega]; exact hown1, hB ▸ hb2⟩
   case measure => simp [intOf]; omega
 go_wp2_with fail
 go_ret2
 obtain rfl : m = s.size := by omega
 exact ⟨_, rfl, hown, hb⟩
set_option maxRecDepth 100000 in
set_option maxHeartbeats 1000000 in
theorem hex_Bytes_no (s : ByteArray) (w : World) (h : s.size ≤ 4000) (h2 : s.size % 2 = 0) (ha : ¬ AllHex s) :
 Calls Tryz.prog 61 #[.string s] w fun e w' => e = .returned (.tuple #[.slice none 0 0, .int .i64 3]) ∧ Below w.heap.size w w' := by
 obtain ⟨i0, hi, hz0, hz1, hz2⟩ := info_parts info_u8
 obtain ⟨w1, hmk, how, hgr⟩ := run_make_own w w.heap.size 41 5 i0 (.int .u8 0) 1 Tryz.underlying41 hi hz0 hz1 .i64 .i64 (s.size / 2) (by rw [hz2]; omega) (by simp [maxLen]; omega) (Nat.le_refl _)
 have ho1 : OS 5 1 cU8 w1 w.heap.size (.slice (some ⟨w.heap.size, 0, none⟩) 0 (s.size / 2)) [] := how
 rw [Int.natCast_ediv] at hmk
 simp only [Int.cast_ofNat_Int] at hmk
 have hb1 : Below w.heap.size w w1 := b_grown (v := .slice none 0 0) (Below.refl _ _) hgr (fun k hk => by simp [Value.ownBlock] at hk)
 clear how hgr
 have q2 : ((s.size : Int) % 2 != 0) = false := by simp; omega
 have q4 : decide (4000 < (s.size : Int)) = false := by simp; omega
 generalize hB : w.heap.size = B at *
 generalize Value.slice (some ⟨B, 0, none⟩) 0 (s.size / 2) = v1 at *
 replace ha := hid ha
 go_enter Tryz.func61, Tryz.ntmps61
 go_wp2_with fail
 go_loopw [4, 5] (fun v i wr => ∃ (m : Nat), i = .int .i64 (m : Int) ∧ m % 2 = 0 ∧ m ≤ s.size ∧ OS 5 1 cU8 wr B v (hexDec s (m / 2)) ∧ (∀ j (hj : j < s.size), j < m → 0 ≤ hexv s[j]) ∧ Below B w wr) (fun _ i _ => s.size - (intOf i).toNat)
 case atStart => exact ⟨0, rfl, rfl, by omega, ho1, (fun j _ hj => by omega), hb1⟩
 obtain ⟨m, rfl, hm, hk, hown, hall, hb⟩ := hrel
 replace hall := hid hall
 by_cases hlt : m < s.size
 · have hlt1 : m + 1 < s.size := by omega
   have hs := hb.size
   have r0 := hexv_range s[m]
   have r1 := hexv_range s[m + 1]
   have hwr : IntKind.i64.wrap ((m : Int) + 1) = (m : Int) + 1 := IntWalk.i64_in _ qtzhx_3
   have hge : (0 : Int) ≤ (m : Int) + 1 := by omega
   have hlz : (m : Int) + 1 < (s.size : Int) := by omega
   by_cases h0 : 0 ≤ hexv s[m]
   · by_cases h1 : 0 ≤ hexv s[m + 1]
     · have hv := hid (hexAt_val s (m / 2) m qtzhx_3 hlt1 h0 h1)
       replace hm := hid hm
       go_wp2_with fail
       go_quiet (exact Calls.quiet_of_same (index_hexv _ _))
       clear hwr
       go_wp2_with (at_builtin; go_must (refine wpL_append flat_u8 rfl (.tmp 40) (.tmp 46) 41 rfl 5 i0 (.int .u8 0) Tryz.underlying41 hi hz0 hz1 hz2 rfl B _ (hexDec s (m / 2)) rfl (OS.alloc (OS.drewN hown _) _) _ [hexAt s (m / 2)] rfl (one_u8 _ _ _ _ _ (by simp) hv.out) ?c1 ?c2 ?c3 ?_))
       case c1 => rw [hexDec_len]; simp; omega
       case c2 => rw [hexDec_len]; simp [maxLen]; omega
       case c3 => simp; omega
       intro v' w2 hown1 hgr
       rw [← hexDec_snoc] at hown1
       have hb2 := b_grown (b_alloc (below_drewN (hB ▸ hb) _) _) hgr (hB ▸ OS.block hown)
       clear hgr hb hown
       go_wp2_with fail
       go_roundw
       case rel => exact ⟨m + 2, by go_num, by have := hm.out; omega, by have := hm.out; omega, by rw [show (m + 2) / 2 = m / 2 + 1 by omega]; exact hown1, (fun j hj hjm => by
        by_cases e0 : j = m
        · subst e0; exact h0
        · by_cases e1 : j = m + 1
          · subst e1; exact h1
          · exact hall.out j hj qtzhx_3), hB ▸ hb2⟩
       case measure => simp [intOf]; omega
     have h1' : hexv s[m + 1] < 0 := by omega
     exact qtzhx_1
   have h0' : hexv s[m] < 0 := by omega
   exact qtzhx_1
 exact absurd (fun j hj => hall.out j hj qtzhx_3) ha.out
set_option maxRecDepth 100000 in
theorem hex_Bytes_size (s : ByteArray) (w : World) (h : 4000 < s.size) (hm : s.size ≤ 140737488351232) :
 Calls Tryz.prog 61 #[.string s] w fun e w' => e = .returned (.tuple #[.slice none 0 0, .int .i64 1]) ∧ w = w' := by
 go_enter Tryz.func61, Tryz.ntmps61
 go_wp2_with fail
 go_ret2
 exact ⟨rfl, rfl⟩
set_option maxRecDepth 100000 in
theorem hex_Bytes_odd (s : ByteArray) (w : World) (h : s.size ≤ 4000) (h2 : s.size % 2 = 1) :
 Calls Tryz.prog 61 #[.string s] w fun e w' => e = .returned (.tuple #[.slice none 0 0, .int .i64 3]) ∧ w = w' := by
 have q : ((s.size : Int) % 2 != 0) = true := by simp; omega
 go_enter Tryz.func61, Tryz.ntmps61
 go_wp2_with fail
 go_ret2
 exact ⟨rfl, rfl⟩
set_option maxRecDepth 100000 in
theorem hex_Check (s : ByteArray) (w : World) (h : s.size = 64) (ha : AllHex s) :
 Calls Tryz.prog 113 #[.string s] w fun e w' => e = .returned (.int .i64 0) ∧ Below w.heap.size w w' := by
 replace ha := hid ha
 go_enter Tryz.func113, Tryz.ntmps113
 go_wp2_with fail
 refine (hex_Bytes s _ qtzhx_3 qtzhx_3 ha.out).mono ?_
 rintro e w1 ⟨v, rfl, _, hb⟩
 go_wp2_with fail
 go_ret
 exact ⟨rfl, hb⟩
set_option maxRecDepth 100000 in
theorem hex_Check_no (s : ByteArray) (w : World) (h : s.size = 64) (ha : ¬ AllHex s) :
 Calls Tryz.prog 113 #[.string s] w fun e w' => e = .returned (.int .i64 3) ∧ Below w.heap.size w w' := by
 replace ha := hid ha
 go_enter Tryz.func113, Tryz.ntmps113
 go_wp2_with fail
 refine (hex_Bytes_no s _ qtzhx_3 qtzhx_3 ha.out).mono ?_
 rintro e w1 ⟨rfl, hb⟩
 go_wp2_with fail
 go_ret
 exact ⟨rfl, hb⟩
set_option maxRecDepth 100000 in
theorem hex_Check_size (s : ByteArray) (w : World) (h : s.size ≠ 64) (_hm : s.size ≤ 140737488351232) :
 Calls Tryz.prog 113 #[.string s] w fun e w' => e = .returned (.int .i64 1) ∧ w = w' := by
 have q : ((s.size : Int) != 64) = true := by simp; omega
 go_enter Tryz.func113, Tryz.ntmps113
 go_wp2_with fail
 go_ret
 exact ⟨rfl, rfl⟩
theorem size_builder : (Tryz.prog.info? 191).map (·.size) = some 2 := by kernel_rfl
theorem lies_builder : liesAt Tryz.prog Tryz.prog.depth 191 (2 / Tryz.prog.cellsOf 191) 0 191 1 = true := by kernel_rfl
set_option maxRecDepth 100000 in
set_option maxHeartbeats 1000000 in
theorem b_check_used (b : Nat) (w : World) (h0 : w.cell? ⟨b, 0, none⟩ = some (.pointer (some ⟨b, 0, none⟩))) :
 Calls Tryz.prog 190 #[.pointer (some ⟨b, 0, none⟩)] w fun e w' => e = .returned (.tuple #[]) ∧ w = w' := by
 obtain ⟨j, hj, _⟩ := Option.map_eq_some_iff.1 size_builder
 go_enter Tryz.func190, Tryz.ntmps190
 go_wp2_with fail
 rw [Lib.run_neq_ptr_same w _ Tryz.underlying189 hj]
 go_wp2_with fail
 go_end0
 exact ⟨rfl, rfl⟩
set_option maxRecDepth 100000 in
set_option maxHeartbeats 1000000 in
theorem b_check_fresh (b : Nat) (w : World) (h0 : w.cell? ⟨b, 0, none⟩ = some (.pointer none)) (hsh : w.shape? b = some (191, 2)) (hfz : w.frozen? ⟨b, 0, none⟩ = false) :
 Calls Tryz.prog 190 #[.pointer (some ⟨b, 0, none⟩)] w fun e w' => e = .returned (.tuple #[]) ∧ w' = w.setCell ⟨b, 0, none⟩ (.pointer (some ⟨b, 0, none⟩)) := by
 obtain ⟨j, hj, hjs⟩ := Option.map_eq_some_iff.1 size_builder
 go_enter Tryz.func190, Tryz.ntmps190
 go_wp2_with fail
 rw [Lib.run_to_unsafe w ⟨b, 0, none⟩ Tryz.underlying189 Tryz.underlying275 hj (by rw [hjs]; decide) hsh (Nat.zero_lt_succ 1)]
 simp only [Result.andThen]
 rw [Oper.upon_value]
 go_wp2_with fail
 rw [run_callFunc_extern Tryz.func243 (by kernel_rfl) (by kernel_rfl) (by kernel_rfl) (e := Extern.AbiNoEscape.same) (by kernel_rfl)]
 rw [Lib.run_noEscape]
 simp only [Result.andThen]
 rw [Oper.upon_value]
 go_wp2_with fail
 rw [Lib.run_from_unsafe w ⟨b, 0, none⟩ Tryz.underlying275 Tryz.underlying189 hj hsh lies_builder]
 simp only [Result.andThen]
 rw [Oper.upon_value]
 go_wp2_with fail
 go_end0
 exact ⟨rfl, rfl⟩
abbrev IsB (B b : Nat) (l : List UInt8) (w : World) : Prop := Lib.IsBuilder 191 5 B b (Lib.byteCells l) w
abbrev BAt (B b : Nat) (l : List UInt8) (w : World) : Prop := Lib.BuilderAt 191 5 B b (.pointer (some ⟨b, 0, none⟩)) (Lib.byteCells l) w
theorem b_check (B b : Nat) (l : List UInt8) (w : World) (h : IsB B b l w) :
 Calls Tryz.prog 190 #[.pointer (some ⟨b, 0, none⟩)] w fun e w' => e = .returned (.tuple #[]) ∧ BAt B b l w' ∧ Below B w w' := by
 rcases h with h | h
 · refine (b_check_fresh b w h.cell0 h.shape h.frozen0).mono ?_
   rintro e w' ⟨rfl, rfl⟩
   exact ⟨rfl, h.used _, (Below.refl B w).setCell (p := ⟨b, 0, none⟩) h.1 _⟩
 refine (b_check_used b w h.cell0).mono ?_
 rintro e w' ⟨rfl, rfl⟩
 exact ⟨rfl, h, Below.refl B _⟩
theorem byteCells_len (l : List UInt8) : (Lib.byteCells l).length = l.length := by simp [Lib.byteCells]
theorem byteCells_snoc (l : List UInt8) (c : UInt8) : Lib.byteCells (l ++ [c]) = Lib.byteCells l ++ [.int .u8 (c.toNat : Int)] := by simp [Lib.byteCells]
set_option maxRecDepth 100000 in
set_option maxHeartbeats 2000000 in
theorem b_write (B b : Nat) (l : List UInt8) (c : UInt8) (w : World) (h : IsB B b l w) (hlen : l.length + 1 ≤ 140737488355328) (hBw : B ≤ w.heap.size) :
 Calls Tryz.prog 117 #[.pointer (some ⟨b, 0, none⟩), .int .u8 (c.toNat : Int)] w fun e w' => e = .returned .nilIface ∧ BAt B b (l ++ [c]) w' ∧ Below B w w' := by
 obtain ⟨i0, hi, hz0, hz1, hz2⟩ := info_parts info_u8
 have hl : (Lib.byteCells l).length = l.length := byteCells_len l
 go_enter Tryz.func117, Tryz.ntmps117
 go_wp2_with fail
 refine (b_check B b l _ h).mono ?_
 rintro e w1 ⟨rfl, h1, hb1⟩
 obtain ⟨hB, v, hbk, hown, hne⟩ := h1
 have c0 : w1.cell? ⟨b, 0, none⟩ = some (.pointer (some ⟨b, 0, none⟩)) := by rw [Lib.cell_of_heap hbk]; rfl
 have c1 : w1.cell? ⟨b, 1, none⟩ = some v := by rw [Lib.cell_of_heap hbk]; rfl
 replace hl := hid hl
 go_wp2_with (at_builtin; refine wpList_append_own _ rfl _ _ 41 rfl B 5 i0 (.int .u8 0) 1 1 Tryz.underlying41 hi hz0 hz1 hz2 rfl (by decide) _ _ _ rfl (hown.alloc _) ⟨w1.heap.size, 0, none⟩ 1 1 [.int .u8 (c.toNat : Int)] rfl rfl ?c1 ?c2 ?c3 ?c4 ?c5 ?_)
 case c1 =>
  intro j u hj
  match j, hj with
  | 0, hj => simp at hj; subst hj; simp [Addr.add]
 case c2 => intro u hu; simp at hu; subst hu; rfl
 case c3 => rw [hl.out]; unfold maxLen; omega
 case c4 => rw [hl.out]; omega
 case c5 => have := hb1.size; simp; omega
 intro v' w2 hown' hgrow _
 have hlt : b < w1.heap.size := by
  rcases Nat.lt_or_ge b w1.heap.size with h' | h'
  · exact h'
  simp [Array.getElem?_eq_none h'] at hbk
 have hb2 : w2.heap[b]? = some (.cells #[.pointer (some ⟨b, 0, none⟩), v] 191 (0, 0)) := by
  rw [hgrow.block b (by simp; omega) (fun e => hne e.symm), Lib.alloc_old w1 _ b hlt]
  exact hbk
 have d0 : w2.cell? ⟨b, 0, none⟩ = some (.pointer (some ⟨b, 0, none⟩)) := by rw [Lib.cell_of_heap hb2]; rfl
 have d1 : w2.cell? ⟨b, 1, none⟩ = some v := by rw [Lib.cell_of_heap hb2]; rfl
 have f1 : w2.frozen? ⟨b, 1, none⟩ = false := Lib.frozen_of_heap hb2 1
 obtain ⟨g, cap, rfl⟩ : ∃ g cap, v' = .slice (some ⟨g, 0, none⟩) ((Lib.byteCells l).length + 1) cap := by
  rcases hown'.2 with ⟨_, h0⟩ | ⟨g, cap, cur, hv, _⟩
  · omega
  exact ⟨g, cap, hv⟩
 go_wp2_with fail
 go_ret
 refine ⟨rfl, ?_, ?_⟩
 · unfold BAt
   rw [byteCells_snoc]
   exact Lib.BuilderAt.put (T := 191) (e := 5) hB hb2 (bs' := Lib.byteCells l ++ [.int .u8 (c.toNat : Int)]) (by simpa using hown') (by decide)
 exact ((hb1.alloc (by have := hb1.size; omega) _).grown hgrow (by have := hb1.size; simp; omega) (fun k hk => (hown.lt k hk).1)).setCell (p := ⟨b, 1, none⟩) hB _
def hexDig (n : Nat) : UInt8 := hexDigits.getD n 0
def hexTwo (c : UInt8) : List UInt8 := [hexDig (c.toNat / 16), hexDig (c.toNat % 16)]
def hexOf (l : List UInt8) : List UInt8 := l.flatMap hexTwo
theorem hexOf_len (l : List UInt8) : (hexOf l).length = 2 * l.length := by
 unfold hexOf
 induction l with
 | nil => rfl
 | cons c l ih => rw [List.flatMap_cons, List.length_append, ih]; simp [hexTwo]; omega
theorem hexOf_snoc (l : List UInt8) (k : Nat) (h : k < l.length) : hexOf (l.take (k + 1)) = hexOf (l.take k) ++ [hexDig (l[k].toNat / 16)] ++ [hexDig (l[k].toNat % 16)] := by
 unfold hexOf
 rw [List.take_succ_eq_append_getElem h, List.flatMap_append]
 simp [hexTwo]
theorem dig_at (n : Int) (k : Nat) (hn : n = (k : Int)) (hk : k < 16) (w : World) : (Instr.index 9 (.string ⟨#[48, 49, 50, 51, 52, 53, 54, 55, 56, 57, 97, 98, 99, 100, 101, 102]⟩) (.int .u8 n)).run Tryz.prog w = .ok (.int .u8 ((hexDig k).toNat : Int)) w := by
 subst hn
 rw [run_index_string w 9 _ .u8 k Tryz.underlying9, dif_pos (by have : (ByteArray.mk #[48, 49, 50, 51, 52, 53, 54, 55, 56, 57, 97, 98, 99, 100, 101, 102]).size = 16 := rfl; omega)]
 have key : ∀ j : Fin 16, ((ByteArray.mk #[48, 49, 50, 51, 52, 53, 54, 55, 56, 57, 97, 98, 99, 100, 101, 102])[j.val]'j.isLt) = hexDig j.val := by decide
 have := key ⟨k, hk⟩
 simp only [Int.toNat_natCast]
 rw [← this]
set_option maxRecDepth 100000 in
set_option maxHeartbeats 2000000 in
theorem hex_Text (v : Value) (l : List UInt8) (w : World) (hl : RB w v l) (h : l.length ≤ 35184372088832) :
 Calls Tryz.prog 66 #[v] w fun e w' => e = .returned (.string (bstr (hexOf l))) ∧ Below w.heap.size w w' := by
 have hR := hl
 obtain ⟨a, c, rfl, hlc, hcm, hre, hno, _⟩ := hl
 unfold maxLen at hcm
 generalize hB : w.heap.size = B at *
 have hst : IsB B B (hexOf (l.take 0)) (w.alloc (.cells #[.pointer none, .slice none 0 0] 191)) := by
  refine .inl ⟨Nat.le_refl _, .slice none 0 0, ?_, World.ownsRow_nil _ _ _ _, by simp [Value.ownBlock]⟩
  rw [← hB]
  exact heap_alloc_new w _
 have hb0 : Below B w (w.alloc (.cells #[.pointer none, .slice none 0 0] 191)) := (Below.refl B w).alloc qtzhx_3 _
 go_enter Tryz.func66, Tryz.ntmps66
 go_wp2_with fail
 go_loopw [8] (fun i wr => ∃ (k : Nat), i = .int .i64 (k : Int) ∧ k ≤ l.length ∧ IsB B B (hexOf (l.take k)) wr ∧ Below B w wr) (fun i _ => l.length - (intOf i).toNat)
 case atStart => exact ⟨0, rfl, by omega, hst, hb0⟩
 obtain ⟨k, rfl, hk, hI, hb⟩ := hrel
 by_cases hlt : k < l.length
 · obtain ⟨b, off, c', hv, hbl, _, _, hc⟩ := RB.block hR qtzhx_3
   simp only [Value.slice.injEq] at hv
   obtain ⟨rfl, -, -⟩ := hv
   have c0 := cell_stays (hB ▸ hb) hbl (hc k hlt)
   have hs := hb.size
   have hsn := hid (hexOf_snoc l k hlt)
   have hlen := hid (hexOf_len (l.take k))
   have hq := l[k].toNat_lt
   clear hc hR hst hb0
   generalize l[k] = x0 at *
   have d1 := dig_at ((x0.toNat : Int) / 16) (x0.toNat / 16) qtzhx_3 qtzhx_3
   have d2 := dig_at ((x0.toNat : Int) % 16) (x0.toNat % 16) qtzhx_3 qtzhx_3
   go_wp2_with fail
   refine (b_write B B _ (hexDig (x0.toNat / 16)) _ hI (by rw [hlen.out, List.length_take]; omega) qtzhx_3).mono ?_
   rintro e w1 ⟨rfl, h1, b1⟩
   have hs1 := b1.size
   go_wp2_with fail
   refine (b_write B B _ (hexDig (x0.toNat % 16)) _ (.inr h1) (by rw [List.length_append, hlen.out, List.length_take]; simp; omega) qtzhx_3).mono ?_
   rintro e w2 ⟨rfl, h2, b2⟩
   rw [← hsn.out] at h2
   clear d1 d2
   go_wp2_with fail
   go_roundw
   case rel => exact ⟨k + 1, by go_num, by omega, .inr h2, (hb.trans b1).trans b2⟩
   case measure => simp [intOf]; omega
 obtain rfl : k = l.length := by omega
 rw [List.take_length] at hI
 have hs := hb.size
 go_wp2_with fail
 refine (Tryz.Builder_String_any B B _ _ hI qtzhx_3).mono ?_
 rintro e w1 ⟨rfl, b1⟩
 go_wp2_with fail
 go_ret
 exact ⟨rfl, hb.trans b1⟩
instance (s : ByteArray) : Decidable (AllHex s) := Nat.decidableBallLT s.size (fun k h => 0 ≤ hexv s[k])
def hexErr (s : ByteArray) : Int := if 4000 < s.size then 1 else if s.size % 2 = 0 ∧ AllHex s then 0 else 3
def hexRes (s : ByteArray) : List UInt8 := if hexErr s = 0 then hexDec s (s.size / 2) else []
def hexFault (s : ByteArray) : Int := if s.size = 64 then (if AllHex s then 0 else 3) else 1
theorem hexFault_zero {s : ByteArray} (h : hexFault s = 0) : s.size = 64 ∧ AllHex s := by
 unfold hexFault at h
 split at h
 · split at h
   · exact ⟨by assumption, by assumption⟩
   cases h
 cases h
theorem hexRes_ok {s : ByteArray} (h : hexFault s = 0) : hexErr s = 0 ∧ hexRes s = hexDec s 32 ∧ (hexRes s).length = 32 := by
 obtain ⟨h1, h2⟩ := hexFault_zero h
 have e : hexErr s = 0 := by unfold hexErr; rw [if_neg qtzhx_3, if_pos ⟨by omega, h2⟩]
 refine ⟨e, ?_, ?_⟩
 · unfold hexRes; rw [if_pos e, h1]
 unfold hexRes; rw [if_pos e, hexDec_len, h1]
theorem hex_Bytes_any (s : ByteArray) (w : World) (hs : s.size ≤ 140737488351232) :
 Calls Tryz.prog 61 #[.string s] w fun e w' => ∃ v, e = .returned (.tuple #[v, .int .i64 (hexErr s)]) ∧ RB w' v (hexRes s) ∧ Below w.heap.size w w' := by
 by_cases h : 4000 < s.size
 · have e1 : hexErr s = 1 := by unfold hexErr; rw [if_pos h]
   refine (hex_Bytes_size s w h hs).mono ?_
   exact qtzhx_2
 by_cases h2 : s.size % 2 = 0
 · by_cases ha : AllHex s
   · have e1 : hexErr s = 0 := by unfold hexErr; rw [if_neg h, if_pos ⟨h2, ha⟩]
     refine (hex_Bytes s w qtzhx_3 h2 ha).mono ?_
     rintro e w' ⟨v, rfl, ho, hb⟩
     refine ⟨v, by rw [e1], ?_, hb⟩
     unfold hexRes; rw [if_pos e1]; exact reads_u8 ho (by rw [hexDec_len]; omega)
   have e1 : hexErr s = 3 := by unfold hexErr; rw [if_neg h, if_neg (fun g => ha g.2)]
   refine (hex_Bytes_no s w qtzhx_3 h2 ha).mono ?_
   rintro e w' ⟨rfl, hb⟩
   refine ⟨_, by rw [e1], ?_, hb⟩
   unfold hexRes; rw [if_neg (by rw [e1]; decide)]; exact RS.nil
 have e1 : hexErr s = 3 := by unfold hexErr; rw [if_neg h, if_neg (fun g => h2 g.1)]
 refine (hex_Bytes_odd s w qtzhx_3 qtzhx_3).mono ?_
 exact qtzhx_2
theorem hex_Check_any (s : ByteArray) (w : World) (hs : s.size ≤ 140737488351232) :
 Calls Tryz.prog 113 #[.string s] w fun e w' => e = .returned (.int .i64 (hexFault s)) ∧ Below w.heap.size w w' := by
 by_cases h : s.size = 64
 · by_cases ha : AllHex s
   · have e1 : hexFault s = 0 := by unfold hexFault; rw [if_pos h, if_pos ha]
     rw [e1]; exact hex_Check s w h ha
   have e1 : hexFault s = 3 := by unfold hexFault; rw [if_pos h, if_neg ha]
   rw [e1]; exact hex_Check_no s w h ha
 have e1 : hexFault s = 1 := by unfold hexFault; rw [if_neg h]
 rw [e1]
 refine (hex_Check_size s w h hs).mono ?_
 rintro e w' ⟨rfl, rfl⟩
 exact ⟨rfl, Below.refl _ _⟩
end Go.Proofs.YtpkpgehiplhkpaaGreat
