/-
  The reference's holds and rising. Printed by gen_skr.py.
-/
import Derived.Test.YtojebioolflbkaaGreatSkk
import Derived.OwnWalk
import Derived.IntWalk
namespace Go.Proofs.YtojebioolflbkaaGreat
open Go.RowKit

theorem ret_b {a b : Bool} (h : a = b) : Ending.returned (.bool a) = .returned (.bool b) := by rw [h]
theorem isIn_at {l : List ByteArray} {s : ByteArray} {k : Nat} (h : l[k]? = some s) : isIn s l = true := isIn_iff.2 (List.mem_of_getElem? h)
theorem isIn_none {l : List ByteArray} {s : ByteArray} (h : ∀ (j : Nat) (y : ByteArray), l[j]? = some y → (s.toList == y.toList) = false) : isIn s l = false := isIn_not.2 fun hs => by
  obtain ⟨j, hj⟩ := List.mem_iff_getElem?.1 hs
  have := h j s hj
  rw [key_eq.2 rfl] at this
  cases this

set_option maxRecDepth 100000 in
set_option maxHeartbeats 1000000 in
theorem ref_holds (v : Value) (l : List ByteArray) (s : ByteArray) (w : World) (h : RT w v l) :
    Calls Tryz.prog 51 #[v, .string s] w fun e w' => e = .returned (.bool (isIn s l)) ∧ w = w' := by
  have hT := hid h
  obtain ⟨a, c, rfl, hlc, hcm, hre, -⟩ := h
  have hy := hid (fun k (h : l[k]? = some s) => isIn_at h)
  have hn := hid (fun h => isIn_none (l := l) (s := s) h)
  generalize isIn s l = r at *
  go_enter Tryz.func51, Tryz.ntmps51
  go_wp2_with fail
  go_loopw [6, 9] (fun _ i wr => ∃ k : Nat, k ≤ l.length ∧ i = .int .i64 k ∧ Hid (∀ j y, j < k → l[j]? = some y → (s.toList == y.toList) = false) ∧ wr = w) (fun _ i _ => l.length - (intOf i).toNat)
  case atStart => exact ⟨0, by omega, rfl, hid (fun j x hj => by omega), rfl⟩
  case round =>
    obtain ⟨k, hk, rfl, hall, rfl⟩ := hrel
    by_cases hlt : k < l.length
    · have hx : l[k]? = some l[k] := List.getElem?_eq_getElem hlt
      generalize l[k] = x at hx
      obtain ⟨bq, oq, hv3, hbq, he4, hsz⟩ := rt_at hT.out hx
      obtain rfl : a = some ⟨bq, oq, none⟩ := hv3
      rw [Nat.mul_one] at he4
      cases hq : (s.toList == x.toList) with
      | true =>
        obtain rfl : s = x := key_eq.1 hq
        have hr := hid (hy.out k hx)
        clear hall hx
        go_wp2_with fail
        go_ret
        exact ⟨ret_b hr.out.symm, rfl⟩
      | false =>
        have hr := hid (fun j y (hj : j < k + 1) (hy : l[j]? = some y) => (show (s.toList == y.toList) = false from by
          by_cases e : j = k
          · subst e
            rw [hx] at hy
            cases hy
            exact hq
          · exact hall.out j y (by omega) hy))
        clear hall hx
        go_wp2_with fail
        go_roundw
        case rel => exact ⟨k + 1, by omega, by go_num, hr, trivial⟩
        case measure => simp [intOf]; omega
    · obtain rfl : k = l.length := by omega
      have hr := hid (hn.out (fun j y hj => hall.out j y (List.getElem?_eq_some_iff.1 hj).1 hj))
      clear hall
      go_wp2_with fail
      go_ret
      exact ⟨ret_b hr.out.symm, rfl⟩

theorem raw_str {w : World} {B : Nat} {v : Value} {R : List ByteArray} (h : OS 9 1 cStr w B v R) (hb : R.length * 16 ≤ 140737488351232) : RS 1 16 (ERaw cStr) w v R :=
  OS.reads (cells := cStr) (fun _ => rfl) (by decide) (fun b o r _ hc j u hj => by
    have hlt := (List.getElem?_eq_some_iff.1 hj).1
    rw [hc j (by simpa [cStr] using hlt), hj]) h hb
theorem os_forms {w : World} {B : Nat} {v : Value} {R : List ByteArray} (h : OS 9 1 cStr w B v R) : (v = .slice none 0 0 ∧ R = []) ∨ ∃ g c, v = .slice (some ⟨g, 0, none⟩) R.length c ∧ R.length ≤ c := by
  obtain ⟨h1, h2⟩ := h
  rcases h2 with ⟨rfl, hn⟩ | ⟨g, cap, cur, rfl, hg, hh, hnc, -⟩
  · exact .inl ⟨rfl, List.eq_nil_of_length_eq_zero hn⟩
  · exact .inr ⟨g, cap, rfl, hnc⟩
theorem raw_at {w : World} {g n c : Nat} {l : List ByteArray} (h : RS 1 16 (ERaw cStr) w (.slice (some ⟨g, 0, none⟩) n c) l) {j : Nat} {x : ByteArray} (hj : l[j]? = some x) : w.cell? ⟨g, j, none⟩ = some (.string x) := by
  obtain ⟨a, c', hv, _, _, _, _, hat⟩ := h
  obtain ⟨b, off, ha, _, he⟩ := hat j x hj
  simp only [Value.slice.injEq] at hv
  obtain ⟨hv, -, -⟩ := hv
  rw [← hv] at ha
  simp only [Option.some.injEq, Addr.mk.injEq, and_true] at ha
  obtain ⟨rfl, rfl⟩ := ha
  have := he 0 (.string x) rfl
  simpa using this
theorem insS_hit {R : List ByteArray} {s : ByteArray} (h : R[lowAt id s R]? = some s) : insS R s = R := if_pos h
theorem insS_miss {R : List ByteArray} {s : ByteArray} (h : R[lowAt id s R]? ≠ some s) : insS R s = R.take (lowAt id s R) ++ s :: R.drop (lowAt id s R) := if_neg h

set_option maxRecDepth 100000 in
set_option maxHeartbeats 2000000 in
theorem ref_rising (v : Value) (M : List ByteArray) (w : World) (h : RT w v M) :
    Calls Tryz.prog 45 #[v] w fun e w' => ∃ v', e = .returned v' ∧ OS 9 1 cStr w' w.heap.size v' (risingL M) ∧ Below w.heap.size w w' := by
  obtain ⟨i0, ii0, hz0, hz1, hz2⟩ := info_parts info_str
  have hT := hid h
  obtain ⟨a, c, rfl, hlc, hcm, hre, -⟩ := h
  unfold maxLen at hcm
  have hown0 : Hid (OS 9 1 cStr w w.heap.size (.slice none 0 0) ([] : List ByteArray)) := hid OS.nil
  have hr0 : Hid (Rising id ([] : List ByteArray)) := hid .nil
  have he0 : Hid (risingL M = (M.drop 0).foldl insS []) := hid rfl
  go_enter Tryz.func45, Tryz.ntmps45
  go_wp2_with fail
  go_loopw [3, 5, 6, 7, 10] (fun o _ _ _ i wr => ∃ (k : Nat) (R : List ByteArray), k ≤ M.length ∧ i = .int .i64 (k : Int) ∧ R.length ≤ k ∧ Hid (Rising id R) ∧ Hid (risingL M = (M.drop k).foldl insS R) ∧ Hid (OS 9 1 cStr wr w.heap.size o R) ∧ Hid (Below w.heap.size w wr)) (fun _ _ _ _ i _ => M.length - (intOf i).toNat)
  case atStart => exact ⟨0, [], by omega, rfl, by simp, hr0, he0, hown0, hid (Below.refl _ _)⟩
  case round =>
    obtain ⟨k, R, hk, rfl, hRk, hri, heq, hown, hbr⟩ := hrel
    by_cases hlt : k < M.length
    · have hx : M[k]? = some M[k] := List.getElem?_eq_getElem hlt
      have hdr := hid (List.drop_eq_getElem_cons hlt)
      generalize M[k] = s at hx hdr
      obtain ⟨bq, oq, hv3, hbq, he4, hsz⟩ := rt_at (hT.out.mono EStr.stable hbr.out) hx
      obtain rfl : a = some ⟨bq, oq, none⟩ := hv3
      rw [Nat.mul_one] at he4
      have hnx := hid (show risingL M = (M.drop (k + 1)).foldl insS (insS R s) by rw [heq.out, hdr.out]; rfl)
      have hri2 := hid (insS_rising hri.out s)
      have hle2 := insS_len R s
      have hraw := hid (raw_str hown.out (by omega))
      have honly := hid (fun (i : Nat) (hi : i ≤ R.length) h1 h2 => lowAt_only (key := id) (s := s) (l := R) (i := i) hi h1 h2)
      have hhit := hid (insS_hit (R := R) (s := s))
      have hmis := hid (insS_miss (R := R) (s := s))
      clear hx hdr heq hri
      generalize lowAt id s R = low at *
      generalize insS R s = R2 at *
      obtain ⟨wo, rfl⟩ : ∃ wo : World, wo = wr := ⟨wr, rfl⟩
      rcases os_forms hown.out with ⟨rfl, rfl⟩ | ⟨g, cap, rfl, hcap⟩
      · have hl0 : low = 0 := by
          have := honly.out 0 (by simp) (fun j x hj => by omega) (fun x hx => by simp at hx)
          omega
        have hR2 := hid (hmis.out (by simp))
        clear hhit hmis honly
        go_wp2_with fail
        go_loopw [6] (fun kk wx => kk = .int .i64 0 ∧ wx = wo) (fun _ _ => 0)
        case atStart => exact ⟨rfl, rfl⟩
        case round =>
          obtain ⟨rfl, rfl⟩ := hrel
          have hs1 := hid (RS.nil (s := 1) (bs := 16) (E := ERaw cStr) (w := wr.alloc (Obj.cells #[] 9)))
          go_wp2_with (at_builtin; go_must (refine wpL_append flat_rstr rfl (.tmp 40) (.tmp 43) 26 rfl 9 i0 _ Tryz.underlying26 ii0 hz0 hz1 hz2 rfl wr.heap.size _ [] rfl (os_empty' wr _ wr.heap.size _ rfl (Nat.le_refl _)) _ ([] : List ByteArray) rfl hs1.out ?c1 ?c2 ?c3 ?_))
          case c1 => (first | omega | (simp; done) | (simp; omega))
          case c2 => (first | (simp [maxLen]; done) | (simp [maxLen]; omega))
          case c3 => simp
          intro v7 w7 ho7 hg7
          (try rw [List.nil_append] at ho7)
          have b7 : Below wr.heap.size wr w7 := (b_alloc (Below.refl wr.heap.size wr) (Obj.cells #[] 9)).grown hg7 (by simp) (fun k hk => by simp [Value.ownBlock] at hk; omega)
          have hz7 := b7.size
          have hrow := row_one (s := 1) (bs := 16) (cells := cStr) w7 9 s #[.string s] w7.heap.size rfl rfl (by decide)
          clear hg7 hs1
          go_wp2_with (at_builtin; go_must (refine wpL_append flat_rstr rfl (.tmp 45) (.tmp 47) 26 rfl 9 i0 _ Tryz.underlying26 ii0 hz0 hz1 hz2 rfl wr.heap.size _ _ rfl (OS.alloc ho7 _) _ [s] rfl hrow ?d1 ?d2 ?d3 ?_))
          case d1 => (first | (simp; done) | (simp; omega))
          case d2 => (first | (simp [maxLen]; done) | (simp [maxLen]; omega))
          case d3 => simp; omega
          intro v8 w8 ho8 hg8
          have b8 : Below wr.heap.size wr w8 := (b7.alloc hz7 (Obj.cells #[.string s] 9)).grown hg8 (by simp; omega) (OS.block ho7)
          have hz8 := b8.size
          clear hg8 hrow ho7 b7 hz7
          have hs3 := hid (RS.nil (s := 1) (bs := 16) (E := ERaw cStr) (w := w8))
          go_wp2_with (at_builtin; go_must (refine wpL_append flat_rstr rfl (.tmp 49) (.tmp 52) 26 rfl 9 i0 _ Tryz.underlying26 ii0 hz0 hz1 hz2 rfl wr.heap.size _ _ rfl ho8 _ ([] : List ByteArray) rfl hs3.out ?e1 ?e2 ?e3 ?_))
          case e1 => (first | (simp; done) | (simp; omega))
          case e2 => (first | (simp [maxLen]; done) | (simp [maxLen]; omega))
          case e3 => omega
          intro v9 w9 ho9 hg9
          have b9 := hid (hbr.out.trans ((b8.grown hg9 hz8 (OS.block ho8)).mono hbr.out.size))
          have ho10 : Hid (OS 9 1 cStr w9 w.heap.size v9 R2) := hid (by rw [hR2.out]; simpa using OS.mono ho9 hbr.out.size)
          clear ho8 hg9 b8 hz8 hs3 ho9
          go_wp2_with fail
          go_roundw
          case rel => exact ⟨k + 1, R2, by omega, by go_num, by omega, hri2, hnx, ho10, b9⟩
          case measure => simp [intOf]; omega
      · have hcell := hid (fun p x hp => raw_at hraw.out (j := p) (x := x) hp)
        go_wp2_with fail
        go_loopw [6] (fun kk wx => ∃ i : Nat, i ≤ R.length ∧ kk = .int .i64 (i : Int) ∧ Hid (∀ (p : Nat) x, p < i → R[p]? = some x → slt x s = true) ∧ wx = wo) (fun kk _ => R.length - (intOf kk).toNat)
        case atStart => exact ⟨0, by omega, rfl, hid (fun p x hp => by omega), rfl⟩
        case round =>
          obtain ⟨i, hi, rfl, hall, rfl⟩ := hrel
          by_cases hil : i < R.length
          · have hy : R[i]? = some R[i] := List.getElem?_eq_getElem hil
            generalize R[i] = y at hy
            have hc := hcell.out i y hy
            have hi0 : (0 : Int) ≤ (i : Int) := by omega
            have hi1 : (i : Int) < (R.length : Int) := by omega
            cases hq : slt y s with
            | true =>
              have hq1 : Op.bytesLess y.toList s.toList = true := hq
              have hn := hid (fun (p : Nat) x (hp : p < i + 1) (hx : R[p]? = some x) => (show slt x s = true from by
                by_cases e : p = i
                · subst e
                  rw [hy] at hx
                  cases hx
                  exact hq
                · exact hall.out p x (by omega) hx))
              clear hall hy hq
              go_wp2_with fail
              go_roundw
              case rel => exact ⟨i + 1, by omega, by go_num, hn, trivial⟩
              case measure => simp [intOf]; omega
            | false =>
              have hq1 : Op.bytesLess y.toList s.toList = false := hq
              have hlow := honly.out i (by omega) hall.out (fun x hx => by rw [hy] at hx; cases hx; exact hq)
              subst hlow
              cases hq2 : (y.toList == s.toList) with
              | true =>
                obtain rfl : y = s := key_eq.1 hq2
                have hR2 := hhit.out hy
                subst hR2
                clear hall hy hq hhit hmis honly hcell hle2
                go_wp2_with fail
                go_roundw
                case rel => exact ⟨k + 1, _, by omega, by go_num, by omega, hri2, hnx, hown, hbr⟩
                case measure => simp [intOf]; omega
              | false =>
                have hR2 := hid (hmis.out (fun e => by rw [hy] at e; cases e; rw [key_eq.2 rfl] at hq2; cases hq2))
                clear hall hy hq hhit hmis honly hcell
                have hs1 := hid (RS.upto (hraw.out.mono ERaw.stable (b_alloc (Below.refl wr.heap.size wr) (Obj.cells #[] 9))) low (by omega))
                have hj0 : (0 : Int) ≤ ((low : Nat) : Int) := by omega
                have hj1 : ((low : Nat) : Int) ≤ (R.length : Int) := by omega
                have hj2 : low ≤ cap := by omega
                have hj3 : low ≤ R.length := by omega
                go_wp2_with (at_builtin; go_must (refine wpL_append flat_rstr rfl (.tmp 40) (.tmp 43) 26 rfl 9 i0 _ Tryz.underlying26 ii0 hz0 hz1 hz2 rfl wr.heap.size _ [] rfl (os_empty' wr _ wr.heap.size _ rfl (Nat.le_refl _)) _ (R.take low) rfl hs1.out ?c1 ?c2 ?c3 ?_))
                case c1 => (first | omega | (simp; done) | (simp; omega))
                case c2 => (first | (simp [maxLen]; done) | (simp [maxLen]; omega))
                case c3 => simp
                intro v7 w7 ho7 hg7
                (try rw [List.nil_append] at ho7)
                have b7 : Below wr.heap.size wr w7 := (b_alloc (Below.refl wr.heap.size wr) (Obj.cells #[] 9)).grown hg7 (by simp) (fun k hk => by simp [Value.ownBlock] at hk; omega)
                have hz7 := b7.size
                have hrow := row_one (s := 1) (bs := 16) (cells := cStr) w7 9 s #[.string s] w7.heap.size rfl rfl (by decide)
                clear hg7 hs1
                go_wp2_with (at_builtin; go_must (refine wpL_append flat_rstr rfl (.tmp 45) (.tmp 47) 26 rfl 9 i0 _ Tryz.underlying26 ii0 hz0 hz1 hz2 rfl wr.heap.size _ _ rfl (OS.alloc ho7 _) _ [s] rfl hrow ?d1 ?d2 ?d3 ?_))
                case d1 => (first | (simp; done) | (simp; omega))
                case d2 => (first | (simp [maxLen]; done) | (simp [maxLen]; omega))
                case d3 => simp; omega
                intro v8 w8 ho8 hg8
                have b8 : Below wr.heap.size wr w8 := (b7.alloc hz7 (Obj.cells #[.string s] 9)).grown hg8 (by simp; omega) (OS.block ho7)
                have hz8 := b8.size
                clear hg8 hrow ho7 b7 hz7
                have hs3 := RS.from (hraw.out.mono ERaw.stable b8) low (by omega)
                rw [show (if cap = low then (some ⟨g, 0, none⟩ : Option Addr) else (some (⟨g, 0, none⟩ : Addr)).map (·.add (low * 1))) = some ⟨g, low, none⟩ by rw [if_neg (by omega)]; simp [Addr.add_lit]] at hs3
                replace hs3 := hid hs3
                go_wp2_with (at_builtin; go_must (refine wpL_append flat_rstr rfl (.tmp 49) (.tmp 52) 26 rfl 9 i0 _ Tryz.underlying26 ii0 hz0 hz1 hz2 rfl wr.heap.size _ _ rfl ho8 _ (R.drop low) rfl hs3.out ?e1 ?e2 ?e3 ?_))
                case e1 => (first | (simp; done) | (simp; omega))
                case e2 => (first | (simp [maxLen]; done) | (simp [maxLen]; omega))
                case e3 => omega
                intro v9 w9 ho9 hg9
                have b9 := hid (hbr.out.trans ((b8.grown hg9 hz8 (OS.block ho8)).mono hbr.out.size))
                have ho10 : Hid (OS 9 1 cStr w9 w.heap.size v9 R2) := hid (by rw [hR2.out]; simpa using OS.mono ho9 hbr.out.size)
                clear ho8 hg9 b8 hz8 hs3 ho9
                go_wp2_with fail
                go_roundw
                case rel => exact ⟨k + 1, R2, by omega, by go_num, by omega, hri2, hnx, ho10, b9⟩
                case measure => simp [intOf]; omega
          · obtain rfl : i = R.length := by omega
            have hlow := honly.out R.length (by omega) hall.out (fun x hx => by simp at hx)
            subst hlow
            have hR2 := hid (hmis.out (by simp))
            clear hall hhit hmis honly hcell
            obtain ⟨A, hA⟩ : ∃ A, (if cap = R.length then (some ⟨g, 0, none⟩ : Option Addr) else some ⟨g, R.length, none⟩) = A := ⟨_, rfl⟩
            have hs1 := hid (RS.upto (hraw.out.mono ERaw.stable (b_alloc (Below.refl wr.heap.size wr) (Obj.cells #[] 9))) R.length (by omega))
            have hj0 : (0 : Int) ≤ ((R.length : Nat) : Int) := by omega
            have hj1 : ((R.length : Nat) : Int) ≤ (R.length : Int) := by omega
            have hj2 : R.length ≤ cap := by omega
            have hj3 : R.length ≤ R.length := by omega
            go_wp2_with (at_builtin; go_must (refine wpL_append flat_rstr rfl (.tmp 40) (.tmp 43) 26 rfl 9 i0 _ Tryz.underlying26 ii0 hz0 hz1 hz2 rfl wr.heap.size _ [] rfl (os_empty' wr _ wr.heap.size _ rfl (Nat.le_refl _)) _ (R.take R.length) rfl hs1.out ?c1 ?c2 ?c3 ?_))
            case c1 => (first | omega | (simp; done) | (simp; omega))
            case c2 => (first | (simp [maxLen]; done) | (simp [maxLen]; omega))
            case c3 => simp
            intro v7 w7 ho7 hg7
            (try rw [List.nil_append] at ho7)
            have b7 : Below wr.heap.size wr w7 := (b_alloc (Below.refl wr.heap.size wr) (Obj.cells #[] 9)).grown hg7 (by simp) (fun k hk => by simp [Value.ownBlock] at hk; omega)
            have hz7 := b7.size
            have hrow := row_one (s := 1) (bs := 16) (cells := cStr) w7 9 s #[.string s] w7.heap.size rfl rfl (by decide)
            clear hg7 hs1
            go_wp2_with (at_builtin; go_must (refine wpL_append flat_rstr rfl (.tmp 45) (.tmp 47) 26 rfl 9 i0 _ Tryz.underlying26 ii0 hz0 hz1 hz2 rfl wr.heap.size _ _ rfl (OS.alloc ho7 _) _ [s] rfl hrow ?d1 ?d2 ?d3 ?_))
            case d1 => (first | (simp; done) | (simp; omega))
            case d2 => (first | (simp [maxLen]; done) | (simp [maxLen]; omega))
            case d3 => simp; omega
            intro v8 w8 ho8 hg8
            have b8 : Below wr.heap.size wr w8 := (b7.alloc hz7 (Obj.cells #[.string s] 9)).grown hg8 (by simp; omega) (OS.block ho7)
            have hz8 := b8.size
            clear hg8 hrow ho7 b7 hz7
            have hs3 := RS.from (hraw.out.mono ERaw.stable b8) R.length (by omega)
            rw [show (if cap = R.length then (some ⟨g, 0, none⟩ : Option Addr) else (some (⟨g, 0, none⟩ : Addr)).map (·.add (R.length * 1))) = A by rw [← hA]; simp [Addr.add_lit], Nat.sub_self] at hs3
            replace hs3 := hid hs3
            go_wp2_with (at_builtin; go_must (refine wpL_append flat_rstr rfl (.tmp 49) (.tmp 52) 26 rfl 9 i0 _ Tryz.underlying26 ii0 hz0 hz1 hz2 rfl wr.heap.size _ _ rfl ho8 _ (R.drop R.length) rfl hs3.out ?e1 ?e2 ?e3 ?_))
            case e1 => (first | (simp; done) | (simp; omega))
            case e2 => (first | (simp [maxLen]; done) | (simp [maxLen]; omega))
            case e3 => omega
            intro v9 w9 ho9 hg9
            have b9 := hid (hbr.out.trans ((b8.grown hg9 hz8 (OS.block ho8)).mono hbr.out.size))
            have ho10 : Hid (OS 9 1 cStr w9 w.heap.size v9 R2) := hid (by rw [hR2.out]; simpa using OS.mono ho9 hbr.out.size)
            clear ho8 hg9 b8 hz8 hs3 ho9
            go_wp2_with fail
            go_roundw
            case rel => exact ⟨k + 1, R2, by omega, by go_num, by omega, hri2, hnx, ho10, b9⟩
            case measure => simp [intOf]; omega
    · obtain rfl : k = M.length := by omega
      have hend := hid (show risingL M = R by rw [heq.out, List.drop_length]; rfl)
      clear heq
      go_wp2_with fail
      go_ret
      exact ⟨_, rfl, by rw [hend.out]; exact hown.out, hbr.out⟩
end Go.Proofs.YtojebioolflbkaaGreat
