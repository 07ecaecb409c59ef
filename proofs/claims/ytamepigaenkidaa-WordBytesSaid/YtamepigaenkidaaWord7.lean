/-
  The law WordBytes: its walk.
-/
import Derived.Test.YtamepigaenkidaaWord6
import Derived.Test.YtamepigaenkidaaSame
import Derived.Test.YtamepigaenkidaaWire
namespace Go.Proofs.Ytamepigaenkidaa
open Go.RowKit

theorem bytesW_short (l : List UInt32) (h : l.length ≤ 2000) : (bytesW l).length ≤ 140737488351232 := by rw [bytesW_len]; omega
theorem wordsDec_short (l : List UInt8) (h : l.length ≤ 2072) : (wordsDec l (l.length / 4)).length ≤ 35184372087808 := by rw [wordsDec_len]; omega

set_option maxRecDepth 100000 in
set_option maxHeartbeats 400000 in
theorem WordBytes_ok_ok (w : World) (v u : Value) (b : List UInt8) (l : List UInt32) (hb : RB w v b) (hl : RW w u l) (h1 : b.length ≤ 2072) (h2 : b.length % 4 = 0) (h3 : l.length ≤ 2000) :
    Calls Try.prog 13 #[v, u] w fun e w' => e = .returned (.bool true) ∧ Below w.heap.size w w' := by
  go_enter Try.func13, Try.ntmps13
  go_wp2_with fail
  have bel := Below.refl w.heap.size w
  refine (word_Words _ _ _ hb h1 h2).mono ?_
  rintro e w1 ⟨v1, rfl, o1, b1⟩
  replace bel := b_call bel b1
  replace hb := hb.mono EU8.stable b1
  replace hl := hl.mono EU32.stable b1
  have r1 := reads_u32 o1 (wordsDec_short b h1)
  clear o1 b1
  go_wp2_with fail
  refine (word_Bytes _ _ _ hl h3).mono ?_
  rintro e w2 ⟨v2, rfl, o2, b2⟩
  replace bel := b_call bel b2
  replace hb := hb.mono EU8.stable b2
  replace hl := hl.mono EU32.stable b2
  replace r1 := r1.mono EU32.stable b2
  have r2 := reads_u8 o2 (bytesW_short l h3)
  clear o2 b2
  go_wp2_with fail
  refine (ref_WordsOf _ _ _ hb h1 h2).mono ?_
  rintro e w3 ⟨v3, rfl, o3, b3⟩
  replace bel := b_call bel b3
  replace hb := hb.mono EU8.stable b3
  replace hl := hl.mono EU32.stable b3
  replace r1 := r1.mono EU32.stable b3
  replace r2 := r2.mono EU8.stable b3
  have r3 := reads_u32 o3 (wordsDec_short b h1)
  clear o3 b3
  go_wp2_with fail
  refine (ref_WordBytes _ _ _ hl h3).mono ?_
  rintro e w4 ⟨v4, rfl, o4, b4⟩
  replace bel := b_call bel b4
  replace hb := hb.mono EU8.stable b4
  replace hl := hl.mono EU32.stable b4
  replace r1 := r1.mono EU32.stable b4
  replace r2 := r2.mono EU8.stable b4
  replace r3 := r3.mono EU32.stable b4
  have r4 := reads_u8 o4 (bytesW_short l h3)
  clear o4 b4
  go_wp2_with fail
  refine (law_sameWords_yes _ _ _ _ r1 r3).mono ?_
  rintro e w5 ⟨rfl, b5⟩
  replace bel := b_call bel b5
  replace r2 := r2.mono EU8.stable b5
  replace r4 := r4.mono EU8.stable b5
  go_wp2_with fail
  refine (law_sameBytes_yes _ _ _ _ r2 r4).mono ?_
  rintro e w6 ⟨rfl, rfl⟩
  go_wp2_with fail
  go_ret
  exact ⟨rfl, bel⟩

set_option maxRecDepth 100000 in
set_option maxHeartbeats 400000 in
theorem WordBytes_ok_size (w : World) (v u : Value) (b : List UInt8) (l : List UInt32) (hb : RB w v b) (hl : RW w u l) (h1 : b.length ≤ 2072) (h2 : b.length % 4 = 0) (h3 : 2000 < l.length) :
    Calls Try.prog 13 #[v, u] w fun e w' => e = .returned (.bool true) ∧ Below w.heap.size w w' := by
  go_enter Try.func13, Try.ntmps13
  go_wp2_with fail
  have bel := Below.refl w.heap.size w
  refine (word_Words _ _ _ hb h1 h2).mono ?_
  rintro e w1 ⟨v1, rfl, o1, b1⟩
  replace bel := b_call bel b1
  replace hb := hb.mono EU8.stable b1
  replace hl := hl.mono EU32.stable b1
  have r1 := reads_u32 o1 (wordsDec_short b h1)
  clear o1 b1
  go_wp2_with fail
  refine (word_Bytes_size _ _ _ hl h3).mono ?_
  rintro e w2 ⟨rfl, rfl⟩
  go_wp2_with fail
  refine (ref_WordsOf _ _ _ hb h1 h2).mono ?_
  rintro e w3 ⟨v3, rfl, o3, b3⟩
  replace bel := b_call bel b3
  replace hb := hb.mono EU8.stable b3
  replace hl := hl.mono EU32.stable b3
  replace r1 := r1.mono EU32.stable b3
  have r3 := reads_u32 o3 (wordsDec_short b h1)
  clear o3 b3
  go_wp2_with fail
  refine (ref_WordBytes_size _ _ _ hl h3).mono ?_
  rintro e w4 ⟨rfl, rfl⟩
  go_wp2_with fail
  refine (law_sameWords_yes _ _ _ _ r1 r3).mono ?_
  rintro e w5 ⟨rfl, b5⟩
  replace bel := b_call bel b5
  go_wp2_with fail
  refine (law_sameBytes_yes _ _ _ _ RS.nil RS.nil).mono ?_
  rintro e w6 ⟨rfl, rfl⟩
  go_wp2_with fail
  go_ret
  exact ⟨rfl, bel⟩

set_option maxRecDepth 100000 in
set_option maxHeartbeats 400000 in
theorem WordBytes_odd_ok (w : World) (v u : Value) (b : List UInt8) (l : List UInt32) (hb : RB w v b) (hl : RW w u l) (h1 : b.length ≤ 2072) (h2 : b.length % 4 ≠ 0) (h3 : l.length ≤ 2000) :
    Calls Try.prog 13 #[v, u] w fun e w' => e = .returned (.bool true) ∧ Below w.heap.size w w' := by
  go_enter Try.func13, Try.ntmps13
  go_wp2_with fail
  have bel := Below.refl w.heap.size w
  refine (word_Words_odd _ _ _ hb h1 h2).mono ?_
  rintro e w1 ⟨rfl, rfl⟩
  go_wp2_with fail
  refine (word_Bytes _ _ _ hl h3).mono ?_
  rintro e w2 ⟨v2, rfl, o2, b2⟩
  replace bel := b_call bel b2
  replace hb := hb.mono EU8.stable b2
  replace hl := hl.mono EU32.stable b2
  have r2 := reads_u8 o2 (bytesW_short l h3)
  clear o2 b2
  go_wp2_with fail
  refine (ref_WordsOf_odd _ _ _ hb h1 h2).mono ?_
  rintro e w3 ⟨rfl, rfl⟩
  go_wp2_with fail
  refine (ref_WordBytes _ _ _ hl h3).mono ?_
  rintro e w4 ⟨v4, rfl, o4, b4⟩
  replace bel := b_call bel b4
  replace hb := hb.mono EU8.stable b4
  replace hl := hl.mono EU32.stable b4
  replace r2 := r2.mono EU8.stable b4
  have r4 := reads_u8 o4 (bytesW_short l h3)
  clear o4 b4
  go_wp2_with fail
  refine (law_sameWords_yes _ _ _ _ RS.nil RS.nil).mono ?_
  rintro e w5 ⟨rfl, b5⟩
  replace bel := b_call bel b5
  replace r2 := r2.mono EU8.stable b5
  replace r4 := r4.mono EU8.stable b5
  go_wp2_with fail
  refine (law_sameBytes_yes _ _ _ _ r2 r4).mono ?_
  rintro e w6 ⟨rfl, rfl⟩
  go_wp2_with fail
  go_ret
  exact ⟨rfl, bel⟩

set_option maxRecDepth 100000 in
set_option maxHeartbeats 400000 in
theorem WordBytes_odd_size (w : World) (v u : Value) (b : List UInt8) (l : List UInt32) (hb : RB w v b) (hl : RW w u l) (h1 : b.length ≤ 2072) (h2 : b.length % 4 ≠ 0) (h3 : 2000 < l.length) :
    Calls Try.prog 13 #[v, u] w fun e w' => e = .returned (.bool true) ∧ Below w.heap.size w w' := by
  go_enter Try.func13, Try.ntmps13
  go_wp2_with fail
  have bel := Below.refl w.heap.size w
  refine (word_Words_odd _ _ _ hb h1 h2).mono ?_
  rintro e w1 ⟨rfl, rfl⟩
  go_wp2_with fail
  refine (word_Bytes_size _ _ _ hl h3).mono ?_
  rintro e w2 ⟨rfl, rfl⟩
  go_wp2_with fail
  refine (ref_WordsOf_odd _ _ _ hb h1 h2).mono ?_
  rintro e w3 ⟨rfl, rfl⟩
  go_wp2_with fail
  refine (ref_WordBytes_size _ _ _ hl h3).mono ?_
  rintro e w4 ⟨rfl, rfl⟩
  go_wp2_with fail
  refine (law_sameWords_yes _ _ _ _ RS.nil RS.nil).mono ?_
  rintro e w5 ⟨rfl, b5⟩
  replace bel := b_call bel b5
  go_wp2_with fail
  refine (law_sameBytes_yes _ _ _ _ RS.nil RS.nil).mono ?_
  rintro e w6 ⟨rfl, rfl⟩
  go_wp2_with fail
  go_ret
  exact ⟨rfl, bel⟩

set_option maxRecDepth 100000 in
set_option maxHeartbeats 400000 in
theorem WordBytes_size_ok (w : World) (v u : Value) (b : List UInt8) (l : List UInt32) (hb : RB w v b) (hl : RW w u l) (h1 : 2072 < b.length) (h3 : l.length ≤ 2000) :
    Calls Try.prog 13 #[v, u] w fun e w' => e = .returned (.bool true) ∧ Below w.heap.size w w' := by
  go_enter Try.func13, Try.ntmps13
  go_wp2_with fail
  have bel := Below.refl w.heap.size w
  refine (word_Words_size _ _ _ hb h1).mono ?_
  rintro e w1 ⟨rfl, rfl⟩
  go_wp2_with fail
  refine (word_Bytes _ _ _ hl h3).mono ?_
  rintro e w2 ⟨v2, rfl, o2, b2⟩
  replace bel := b_call bel b2
  replace hb := hb.mono EU8.stable b2
  replace hl := hl.mono EU32.stable b2
  have r2 := reads_u8 o2 (bytesW_short l h3)
  clear o2 b2
  go_wp2_with fail
  refine (ref_WordsOf_size _ _ _ hb h1).mono ?_
  rintro e w3 ⟨rfl, rfl⟩
  go_wp2_with fail
  refine (ref_WordBytes _ _ _ hl h3).mono ?_
  rintro e w4 ⟨v4, rfl, o4, b4⟩
  replace bel := b_call bel b4
  replace hb := hb.mono EU8.stable b4
  replace hl := hl.mono EU32.stable b4
  replace r2 := r2.mono EU8.stable b4
  have r4 := reads_u8 o4 (bytesW_short l h3)
  clear o4 b4
  go_wp2_with fail
  refine (law_sameWords_yes _ _ _ _ RS.nil RS.nil).mono ?_
  rintro e w5 ⟨rfl, b5⟩
  replace bel := b_call bel b5
  replace r2 := r2.mono EU8.stable b5
  replace r4 := r4.mono EU8.stable b5
  go_wp2_with fail
  refine (law_sameBytes_yes _ _ _ _ r2 r4).mono ?_
  rintro e w6 ⟨rfl, rfl⟩
  go_wp2_with fail
  go_ret
  exact ⟨rfl, bel⟩

set_option maxRecDepth 100000 in
set_option maxHeartbeats 400000 in
theorem WordBytes_size_size (w : World) (v u : Value) (b : List UInt8) (l : List UInt32) (hb : RB w v b) (hl : RW w u l) (h1 : 2072 < b.length) (h3 : 2000 < l.length) :
    Calls Try.prog 13 #[v, u] w fun e w' => e = .returned (.bool true) ∧ Below w.heap.size w w' := by
  go_enter Try.func13, Try.ntmps13
  go_wp2_with fail
  have bel := Below.refl w.heap.size w
  refine (word_Words_size _ _ _ hb h1).mono ?_
  rintro e w1 ⟨rfl, rfl⟩
  go_wp2_with fail
  refine (word_Bytes_size _ _ _ hl h3).mono ?_
  rintro e w2 ⟨rfl, rfl⟩
  go_wp2_with fail
  refine (ref_WordsOf_size _ _ _ hb h1).mono ?_
  rintro e w3 ⟨rfl, rfl⟩
  go_wp2_with fail
  refine (ref_WordBytes_size _ _ _ hl h3).mono ?_
  rintro e w4 ⟨rfl, rfl⟩
  go_wp2_with fail
  refine (law_sameWords_yes _ _ _ _ RS.nil RS.nil).mono ?_
  rintro e w5 ⟨rfl, b5⟩
  replace bel := b_call bel b5
  go_wp2_with fail
  refine (law_sameBytes_yes _ _ _ _ RS.nil RS.nil).mono ?_
  rintro e w6 ⟨rfl, rfl⟩
  go_wp2_with fail
  go_ret
  exact ⟨rfl, bel⟩

theorem WordBytes_walk (w : World) (v : Value) (b : List UInt8) (u : Value) (l : List UInt32) (hb : RB w v b) (hl : RW w u l) :
    Calls Try.prog 13 #[v, u] w fun e w' => e = .returned (.bool true) ∧ Below w.heap.size w w' := by
  by_cases h1 : b.length ≤ 2072
  · by_cases h2 : b.length % 4 = 0
    · by_cases h3 : l.length ≤ 2000
      · exact WordBytes_ok_ok w v u b l hb hl h1 h2 h3
      · exact WordBytes_ok_size w v u b l hb hl h1 h2 (by omega)
    · by_cases h3 : l.length ≤ 2000
      · exact WordBytes_odd_ok w v u b l hb hl h1 h2 h3
      · exact WordBytes_odd_size w v u b l hb hl h1 h2 (by omega)
  · by_cases h3 : l.length ≤ 2000
    · exact WordBytes_size_ok w v u b l hb hl (by omega) h3
    · exact WordBytes_size_size w v u b l hb hl (by omega) (by omega)
end Go.Proofs.Ytamepigaenkidaa
