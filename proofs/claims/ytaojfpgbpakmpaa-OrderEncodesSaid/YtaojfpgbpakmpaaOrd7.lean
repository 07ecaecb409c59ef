/-
  the reference's OrderFault: what it answers. Printed by gen_ord.py.
-/
import Derived.Test.YtaojfpgbpakmpaaOrd6
import Derived.Deep.DeepCutAuto
import Derived.Tactics2
namespace Go.Proofs.Ytaojfpgbpakmpaa
open Go.RowKit

theorem box5 {w : World} {b : Nat} {c0 c1 c2 c3 c4 : Value} {T : TypeId} (h : w.heap[b]? = some (.cells #[c0, c1, c2, c3, c4] T (0, 0))) :
    w.cell? ⟨b, 0, none⟩ = some c0 ∧ w.cell? ⟨b, 1, none⟩ = some c1 ∧ w.cell? ⟨b, 2, none⟩ = some c2 ∧ w.cell? ⟨b, 3, none⟩ = some c3 ∧ w.cell? ⟨b, 4, none⟩ = some c4 :=
  ⟨cell_of_row _ _ 0 _ _ _ h, cell_of_row _ _ 1 _ _ _ h, cell_of_row _ _ 2 _ _ _ h, cell_of_row _ _ 3 _ _ _ h, cell_of_row _ _ 4 _ _ _ h⟩
theorem ref_with_n (k : Int) (w : World) : Calls Try.prog 114 #[.int .i64 k, .int .u8 110] w fun e w' => e = .returned (.bool (hasN k)) ∧ Below w.heap.size w w' := by
  have h := ref_with k 110 w
  rw [with_n] at h
  exact h
theorem ref_with_d (k : Int) (w : World) : Calls Try.prog 114 #[.int .i64 k, .int .u8 100] w fun e w' => e = .returned (.bool (hasD k)) ∧ Below w.heap.size w w' := by
  have h := ref_with k 100 w
  rw [with_d] at h
  exact h
theorem ref_with_b (k : Int) (w : World) : Calls Try.prog 114 #[.int .i64 k, .int .u8 98] w fun e w' => e = .returned (.bool (hasB k)) ∧ Below w.heap.size w w' := by
  have h := ref_with k 98 w
  rw [with_b] at h
  exact h
theorem ref_with_p (k : Int) (w : World) : Calls Try.prog 114 #[.int .i64 k, .int .u8 112] w fun e w' => e = .returned (.bool (hasP k)) ∧ Below w.heap.size w w' := by
  have h := ref_with k 112 w
  rw [with_p] at h
  exact h

set_option maxRecDepth 100000 in
set_option maxHeartbeats 4000000 in
theorem ref_OrderFault (o : Order) (dv pv : Value) (w : World) (hd : RB w dv o.data) (hp : RP w pv o.parts) (hs : o.digest.size ≤ 140737488351232) :
    Calls Try.prog 36 #[.agg #[.int .i64 o.kind, .int .i64 o.n, .string o.digest, dv, pv]] w fun e w' => e = .returned (.int .i64 (ordFault o)) ∧ Below w.heap.size w w' := by
  have hP := hid hp
  have hof := hid fun w => ref_has o.kind w
  have hw0 := hid fun w => ref_with_n o.kind w
  have hw1 := hid fun w => ref_with_d o.kind w
  have hw2 := hid fun w => ref_with_b o.kind w
  have hw3 := hid fun w => ref_with_p o.kind w
  have hno := hasS_none o.kind
  have hr2 := hid (fun h => ordFault_kind (o := o) h)
  have hr3 := hid (fun h h2 => ordFault_form (o := o) h h2)
  have hr := hid (fun h h2 => ordFault_rest (o := o) h h2)
  generalize ordFault o = z at *
  have hdl : o.data.length ≤ 140737488351232 := by obtain ⟨_, _, _, _, _, hre, _⟩ := hd; omega
  obtain ⟨da, dc, rfl, -⟩ := hd
  obtain ⟨pa, pc, rfl, -, -, hpl, -⟩ := hp
  generalize hasN o.kind = fn at *
  generalize hasD o.kind = fd at *
  generalize hasB o.kind = fb at *
  generalize hasP o.kind = fp at *
  generalize isKind o.kind = ik at *
  generalize hasS o.kind = hk at *
  have hB0 := hid (b_alloc (Below.refl w.heap.size w) (Obj.cells #[.int .i64 o.kind, .int .i64 o.n, .string o.digest, .slice da o.data.length dc, .slice pa o.parts.length pc] 41))
  have hx0 := hid (heap_alloc_new w (Obj.cells #[.int .i64 o.kind, .int .i64 o.n, .string o.digest, .slice da o.data.length dc, .slice pa o.parts.length pc] 41))
  have hlt0 : w.heap.size < (w.alloc (Obj.cells #[.int .i64 o.kind, .int .i64 o.n, .string o.digest, .slice da o.data.length dc, .slice pa o.parts.length pc] 41)).heap.size := by simp
  go_enter Try.func36, Try.ntmps36
  go_wp2_with fail
  ((with_reducible refine (hof.out _).mono ?_); rintro e w1 ⟨rfl, b1⟩)
  have hB := hid (b_call hB0.out b1)
  have hx := hid ((b1.block w.heap.size hlt0).trans hx0.out)
  have hlt := Nat.lt_of_lt_of_le hlt0 b1.size
  clear b1 hlt0 hx0 hB0
  cases ik with
  | false =>
    have hz := hid (hr2.out rfl)
    simp only [Bool.not_false] at hno
    go_wp2_with fail
    go_ret
    exact ⟨ret_i hz.out.symm, hB.out⟩
  | true =>
    replace hr3 := hid (fun h => hr3.out rfl h)
    replace hr := hid (fun h => hr.out rfl h)
    simp only [Bool.not_true] at hno
    clear hr2 hof
    go_upto_region 3 with fail
    obtain ⟨b, hb⟩ : ∃ b, w.heap.size = b := ⟨_, rfl⟩
    rw [hb] at hx hlt ⊢
    replace hb := hid hb
    obtain ⟨x0, x1, x2, x3, x4⟩ := box5 hx.out
    go_cut [50] (fun c wx => c = .bool (ordForm fn fd fb fp o.n o.digest o.data.length o.parts.length) ∧ Hid (Below w.heap.size w wx) ∧ Hid (wx.heap[b]? = some (.cells #[.int .i64 o.kind, .int .i64 o.n, .string o.digest, .slice da o.data.length dc, .slice pa o.parts.length pc] 41 (0, 0))))
    case first =>
      by_cases a1 : o.n = 0
      · have g1 : (o.n != 0) = false := by simp [a1]
        replace a1 := hid a1
        by_cases a2 : o.digest.size = 0
        · have g2 : o.digest.toList.isEmpty = true := size0 a2
          replace a2 := hid a2
          by_cases a3 : o.data.length = 0
          · have g3 : decide (0 < o.data.length) = false := by simp [a3]
            replace a3 := hid a3
            by_cases a4 : o.parts.length = 0
            · have g4 : decide (0 < o.parts.length) = false := by simp [a4]
              replace a4 := hid a4
              go_wp2_with fail
              go_meet
              exact ⟨by rw [form_no (.inl a1.out) (.inl a2.out) (.inl a3.out) (.inl a4.out)], hB, hx⟩
            · have g4 : decide (0 < o.parts.length) = true := by simp; omega
              replace a4 := hid a4
              cases fp with
              | true =>
                go_wp2_with fail
                ((with_reducible refine (hw3.out _).mono ?_); rintro e v3 ⟨rfl, c3⟩)
                replace hB := hid (b_call hB.out c3)
                replace hx := hid ((c3.block b hlt).trans hx.out)
                replace hlt := Nat.lt_of_lt_of_le hlt c3.size
                obtain ⟨x0, x1, x2, x3, x4⟩ := box5 hx.out
                clear c3
                go_wp2_with fail
                go_meet
                exact ⟨by rw [form_no (.inl a1.out) (.inl a2.out) (.inl a3.out) (.inr rfl)], hB, hx⟩
              | false =>
                go_wp2_with fail
                ((with_reducible refine (hw3.out _).mono ?_); rintro e v3 ⟨rfl, c3⟩)
                replace hB := hid (b_call hB.out c3)
                replace hx := hid ((c3.block b hlt).trans hx.out)
                replace hlt := Nat.lt_of_lt_of_le hlt c3.size
                obtain ⟨x0, x1, x2, x3, x4⟩ := box5 hx.out
                clear c3
                go_wp2_with fail
                go_meet
                exact ⟨by rw [form_yes (.inr (.inr (.inr (⟨a4.out, rfl⟩))))], hB, hx⟩
          · have g3 : decide (0 < o.data.length) = true := by simp; omega
            replace a3 := hid a3
            cases fb with
            | true =>
              by_cases a4 : o.parts.length = 0
              · have g4 : decide (0 < o.parts.length) = false := by simp [a4]
                replace a4 := hid a4
                go_wp2_with fail
                ((with_reducible refine (hw2.out _).mono ?_); rintro e v2 ⟨rfl, c2⟩)
                replace hB := hid (b_call hB.out c2)
                replace hx := hid ((c2.block b hlt).trans hx.out)
                replace hlt := Nat.lt_of_lt_of_le hlt c2.size
                obtain ⟨x0, x1, x2, x3, x4⟩ := box5 hx.out
                clear c2
                go_wp2_with fail
                go_meet
                exact ⟨by rw [form_no (.inl a1.out) (.inl a2.out) (.inr rfl) (.inl a4.out)], hB, hx⟩
              · have g4 : decide (0 < o.parts.length) = true := by simp; omega
                replace a4 := hid a4
                cases fp with
                | true =>
                  go_wp2_with fail
                  ((with_reducible refine (hw2.out _).mono ?_); rintro e v2 ⟨rfl, c2⟩)
                  replace hB := hid (b_call hB.out c2)
                  replace hx := hid ((c2.block b hlt).trans hx.out)
                  replace hlt := Nat.lt_of_lt_of_le hlt c2.size
                  obtain ⟨x0, x1, x2, x3, x4⟩ := box5 hx.out
                  clear c2
                  go_wp2_with fail
                  ((with_reducible refine (hw3.out _).mono ?_); rintro e v3 ⟨rfl, c3⟩)
                  replace hB := hid (b_call hB.out c3)
                  replace hx := hid ((c3.block b hlt).trans hx.out)
                  replace hlt := Nat.lt_of_lt_of_le hlt c3.size
                  obtain ⟨x0, x1, x2, x3, x4⟩ := box5 hx.out
                  clear c3
                  go_wp2_with fail
                  go_meet
                  exact ⟨by rw [form_no (.inl a1.out) (.inl a2.out) (.inr rfl) (.inr rfl)], hB, hx⟩
                | false =>
                  go_wp2_with fail
                  ((with_reducible refine (hw2.out _).mono ?_); rintro e v2 ⟨rfl, c2⟩)
                  replace hB := hid (b_call hB.out c2)
                  replace hx := hid ((c2.block b hlt).trans hx.out)
                  replace hlt := Nat.lt_of_lt_of_le hlt c2.size
                  obtain ⟨x0, x1, x2, x3, x4⟩ := box5 hx.out
                  clear c2
                  go_wp2_with fail
                  ((with_reducible refine (hw3.out _).mono ?_); rintro e v3 ⟨rfl, c3⟩)
                  replace hB := hid (b_call hB.out c3)
                  replace hx := hid ((c3.block b hlt).trans hx.out)
                  replace hlt := Nat.lt_of_lt_of_le hlt c3.size
                  obtain ⟨x0, x1, x2, x3, x4⟩ := box5 hx.out
                  clear c3
                  go_wp2_with fail
                  go_meet
                  exact ⟨by rw [form_yes (.inr (.inr (.inr (⟨a4.out, rfl⟩))))], hB, hx⟩
            | false =>
              go_wp2_with fail
              ((with_reducible refine (hw2.out _).mono ?_); rintro e v2 ⟨rfl, c2⟩)
              replace hB := hid (b_call hB.out c2)
              replace hx := hid ((c2.block b hlt).trans hx.out)
              replace hlt := Nat.lt_of_lt_of_le hlt c2.size
              obtain ⟨x0, x1, x2, x3, x4⟩ := box5 hx.out
              clear c2
              go_wp2_with fail
              go_meet
              exact ⟨by rw [form_yes (.inr (.inr (.inl ⟨a3.out, rfl⟩)))], hB, hx⟩
        · have g2 : o.digest.toList.isEmpty = false := nonempty_of (by omega)
          replace a2 := hid a2
          cases fd with
          | true =>
            by_cases a3 : o.data.length = 0
            · have g3 : decide (0 < o.data.length) = false := by simp [a3]
              replace a3 := hid a3
              by_cases a4 : o.parts.length = 0
              · have g4 : decide (0 < o.parts.length) = false := by simp [a4]
                replace a4 := hid a4
                go_wp2_with fail
                ((with_reducible refine (hw1.out _).mono ?_); rintro e v1 ⟨rfl, c1⟩)
                replace hB := hid (b_call hB.out c1)
                replace hx := hid ((c1.block b hlt).trans hx.out)
                replace hlt := Nat.lt_of_lt_of_le hlt c1.size
                obtain ⟨x0, x1, x2, x3, x4⟩ := box5 hx.out
                clear c1
                go_wp2_with fail
                go_meet
                exact ⟨by rw [form_no (.inl a1.out) (.inr rfl) (.inl a3.out) (.inl a4.out)], hB, hx⟩
              · have g4 : decide (0 < o.parts.length) = true := by simp; omega
                replace a4 := hid a4
                cases fp with
                | true =>
                  go_wp2_with fail
                  ((with_reducible refine (hw1.out _).mono ?_); rintro e v1 ⟨rfl, c1⟩)
                  replace hB := hid (b_call hB.out c1)
                  replace hx := hid ((c1.block b hlt).trans hx.out)
                  replace hlt := Nat.lt_of_lt_of_le hlt c1.size
                  obtain ⟨x0, x1, x2, x3, x4⟩ := box5 hx.out
                  clear c1
                  go_wp2_with fail
                  ((with_reducible refine (hw3.out _).mono ?_); rintro e v3 ⟨rfl, c3⟩)
                  replace hB := hid (b_call hB.out c3)
                  replace hx := hid ((c3.block b hlt).trans hx.out)
                  replace hlt := Nat.lt_of_lt_of_le hlt c3.size
                  obtain ⟨x0, x1, x2, x3, x4⟩ := box5 hx.out
                  clear c3
                  go_wp2_with fail
                  go_meet
                  exact ⟨by rw [form_no (.inl a1.out) (.inr rfl) (.inl a3.out) (.inr rfl)], hB, hx⟩
                | false =>
                  go_wp2_with fail
                  ((with_reducible refine (hw1.out _).mono ?_); rintro e v1 ⟨rfl, c1⟩)
                  replace hB := hid (b_call hB.out c1)
                  replace hx := hid ((c1.block b hlt).trans hx.out)
                  replace hlt := Nat.lt_of_lt_of_le hlt c1.size
                  obtain ⟨x0, x1, x2, x3, x4⟩ := box5 hx.out
                  clear c1
                  go_wp2_with fail
                  ((with_reducible refine (hw3.out _).mono ?_); rintro e v3 ⟨rfl, c3⟩)
                  replace hB := hid (b_call hB.out c3)
                  replace hx := hid ((c3.block b hlt).trans hx.out)
                  replace hlt := Nat.lt_of_lt_of_le hlt c3.size
                  obtain ⟨x0, x1, x2, x3, x4⟩ := box5 hx.out
                  clear c3
                  go_wp2_with fail
                  go_meet
                  exact ⟨by rw [form_yes (.inr (.inr (.inr (⟨a4.out, rfl⟩))))], hB, hx⟩
            · have g3 : decide (0 < o.data.length) = true := by simp; omega
              replace a3 := hid a3
              cases fb with
              | true =>
                by_cases a4 : o.parts.length = 0
                · have g4 : decide (0 < o.parts.length) = false := by simp [a4]
                  replace a4 := hid a4
                  go_wp2_with fail
                  ((with_reducible refine (hw1.out _).mono ?_); rintro e v1 ⟨rfl, c1⟩)
                  replace hB := hid (b_call hB.out c1)
                  replace hx := hid ((c1.block b hlt).trans hx.out)
                  replace hlt := Nat.lt_of_lt_of_le hlt c1.size
                  obtain ⟨x0, x1, x2, x3, x4⟩ := box5 hx.out
                  clear c1
                  go_wp2_with fail
                  ((with_reducible refine (hw2.out _).mono ?_); rintro e v2 ⟨rfl, c2⟩)
                  replace hB := hid (b_call hB.out c2)
                  replace hx := hid ((c2.block b hlt).trans hx.out)
                  replace hlt := Nat.lt_of_lt_of_le hlt c2.size
                  obtain ⟨x0, x1, x2, x3, x4⟩ := box5 hx.out
                  clear c2
                  go_wp2_with fail
                  go_meet
                  exact ⟨by rw [form_no (.inl a1.out) (.inr rfl) (.inr rfl) (.inl a4.out)], hB, hx⟩
                · have g4 : decide (0 < o.parts.length) = true := by simp; omega
                  replace a4 := hid a4
                  cases fp with
                  | true =>
                    go_wp2_with fail
                    ((with_reducible refine (hw1.out _).mono ?_); rintro e v1 ⟨rfl, c1⟩)
                    replace hB := hid (b_call hB.out c1)
                    replace hx := hid ((c1.block b hlt).trans hx.out)
                    replace hlt := Nat.lt_of_lt_of_le hlt c1.size
                    obtain ⟨x0, x1, x2, x3, x4⟩ := box5 hx.out
                    clear c1
                    go_wp2_with fail
                    ((with_reducible refine (hw2.out _).mono ?_); rintro e v2 ⟨rfl, c2⟩)
                    replace hB := hid (b_call hB.out c2)
                    replace hx := hid ((c2.block b hlt).trans hx.out)
                    replace hlt := Nat.lt_of_lt_of_le hlt c2.size
                    obtain ⟨x0, x1, x2, x3, x4⟩ := box5 hx.out
                    clear c2
                    go_wp2_with fail
                    ((with_reducible refine (hw3.out _).mono ?_); rintro e v3 ⟨rfl, c3⟩)
                    replace hB := hid (b_call hB.out c3)
                    replace hx := hid ((c3.block b hlt).trans hx.out)
                    replace hlt := Nat.lt_of_lt_of_le hlt c3.size
                    obtain ⟨x0, x1, x2, x3, x4⟩ := box5 hx.out
                    clear c3
                    go_wp2_with fail
                    go_meet
                    exact ⟨by rw [form_no (.inl a1.out) (.inr rfl) (.inr rfl) (.inr rfl)], hB, hx⟩
                  | false =>
                    go_wp2_with fail
                    ((with_reducible refine (hw1.out _).mono ?_); rintro e v1 ⟨rfl, c1⟩)
                    replace hB := hid (b_call hB.out c1)
                    replace hx := hid ((c1.block b hlt).trans hx.out)
                    replace hlt := Nat.lt_of_lt_of_le hlt c1.size
                    obtain ⟨x0, x1, x2, x3, x4⟩ := box5 hx.out
                    clear c1
                    go_wp2_with fail
                    ((with_reducible refine (hw2.out _).mono ?_); rintro e v2 ⟨rfl, c2⟩)
                    replace hB := hid (b_call hB.out c2)
                    replace hx := hid ((c2.block b hlt).trans hx.out)
                    replace hlt := Nat.lt_of_lt_of_le hlt c2.size
                    obtain ⟨x0, x1, x2, x3, x4⟩ := box5 hx.out
                    clear c2
                    go_wp2_with fail
                    ((with_reducible refine (hw3.out _).mono ?_); rintro e v3 ⟨rfl, c3⟩)
                    replace hB := hid (b_call hB.out c3)
                    replace hx := hid ((c3.block b hlt).trans hx.out)
                    replace hlt := Nat.lt_of_lt_of_le hlt c3.size
                    obtain ⟨x0, x1, x2, x3, x4⟩ := box5 hx.out
                    clear c3
                    go_wp2_with fail
                    go_meet
                    exact ⟨by rw [form_yes (.inr (.inr (.inr (⟨a4.out, rfl⟩))))], hB, hx⟩
              | false =>
                go_wp2_with fail
                ((with_reducible refine (hw1.out _).mono ?_); rintro e v1 ⟨rfl, c1⟩)
                replace hB := hid (b_call hB.out c1)
                replace hx := hid ((c1.block b hlt).trans hx.out)
                replace hlt := Nat.lt_of_lt_of_le hlt c1.size
                obtain ⟨x0, x1, x2, x3, x4⟩ := box5 hx.out
                clear c1
                go_wp2_with fail
                ((with_reducible refine (hw2.out _).mono ?_); rintro e v2 ⟨rfl, c2⟩)
                replace hB := hid (b_call hB.out c2)
                replace hx := hid ((c2.block b hlt).trans hx.out)
                replace hlt := Nat.lt_of_lt_of_le hlt c2.size
                obtain ⟨x0, x1, x2, x3, x4⟩ := box5 hx.out
                clear c2
                go_wp2_with fail
                go_meet
                exact ⟨by rw [form_yes (.inr (.inr (.inl ⟨a3.out, rfl⟩)))], hB, hx⟩
          | false =>
            go_wp2_with fail
            ((with_reducible refine (hw1.out _).mono ?_); rintro e v1 ⟨rfl, c1⟩)
            replace hB := hid (b_call hB.out c1)
            replace hx := hid ((c1.block b hlt).trans hx.out)
            replace hlt := Nat.lt_of_lt_of_le hlt c1.size
            obtain ⟨x0, x1, x2, x3, x4⟩ := box5 hx.out
            clear c1
            go_wp2_with fail
            go_meet
            exact ⟨by rw [form_yes (.inr (.inl ⟨a2.out, rfl⟩))], hB, hx⟩
      · have g1 : (o.n != 0) = true := by simp [a1]
        replace a1 := hid a1
        cases fn with
        | true =>
          by_cases a2 : o.digest.size = 0
          · have g2 : o.digest.toList.isEmpty = true := size0 a2
            replace a2 := hid a2
            by_cases a3 : o.data.length = 0
            · have g3 : decide (0 < o.data.length) = false := by simp [a3]
              replace a3 := hid a3
              by_cases a4 : o.parts.length = 0
              · have g4 : decide (0 < o.parts.length) = false := by simp [a4]
                replace a4 := hid a4
                go_wp2_with fail
                ((with_reducible refine (hw0.out _).mono ?_); rintro e v0 ⟨rfl, c0⟩)
                replace hB := hid (b_call hB.out c0)
                replace hx := hid ((c0.block b hlt).trans hx.out)
                replace hlt := Nat.lt_of_lt_of_le hlt c0.size
                obtain ⟨x0, x1, x2, x3, x4⟩ := box5 hx.out
                clear c0
                go_wp2_with fail
                go_meet
                exact ⟨by rw [form_no (.inr rfl) (.inl a2.out) (.inl a3.out) (.inl a4.out)], hB, hx⟩
              · have g4 : decide (0 < o.parts.length) = true := by simp; omega
                replace a4 := hid a4
                cases fp with
                | true =>
                  go_wp2_with fail
                  ((with_reducible refine (hw0.out _).mono ?_); rintro e v0 ⟨rfl, c0⟩)
                  replace hB := hid (b_call hB.out c0)
                  replace hx := hid ((c0.block b hlt).trans hx.out)
                  replace hlt := Nat.lt_of_lt_of_le hlt c0.size
                  obtain ⟨x0, x1, x2, x3, x4⟩ := box5 hx.out
                  clear c0
                  go_wp2_with fail
                  ((with_reducible refine (hw3.out _).mono ?_); rintro e v3 ⟨rfl, c3⟩)
                  replace hB := hid (b_call hB.out c3)
                  replace hx := hid ((c3.block b hlt).trans hx.out)
                  replace hlt := Nat.lt_of_lt_of_le hlt c3.size
                  obtain ⟨x0, x1, x2, x3, x4⟩ := box5 hx.out
                  clear c3
                  go_wp2_with fail
                  go_meet
                  exact ⟨by rw [form_no (.inr rfl) (.inl a2.out) (.inl a3.out) (.inr rfl)], hB, hx⟩
                | false =>
                  go_wp2_with fail
                  ((with_reducible refine (hw0.out _).mono ?_); rintro e v0 ⟨rfl, c0⟩)
                  replace hB := hid (b_call hB.out c0)
                  replace hx := hid ((c0.block b hlt).trans hx.out)
                  replace hlt := Nat.lt_of_lt_of_le hlt c0.size
                  obtain ⟨x0, x1, x2, x3, x4⟩ := box5 hx.out
                  clear c0
                  go_wp2_with fail
                  ((with_reducible refine (hw3.out _).mono ?_); rintro e v3 ⟨rfl, c3⟩)
                  replace hB := hid (b_call hB.out c3)
                  replace hx := hid ((c3.block b hlt).trans hx.out)
                  replace hlt := Nat.lt_of_lt_of_le hlt c3.size
                  obtain ⟨x0, x1, x2, x3, x4⟩ := box5 hx.out
                  clear c3
                  go_wp2_with fail
                  go_meet
                  exact ⟨by rw [form_yes (.inr (.inr (.inr (⟨a4.out, rfl⟩))))], hB, hx⟩
            · have g3 : decide (0 < o.data.length) = true := by simp; omega
              replace a3 := hid a3
              cases fb with
              | true =>
                by_cases a4 : o.parts.length = 0
                · have g4 : decide (0 < o.parts.length) = false := by simp [a4]
                  replace a4 := hid a4
                  go_wp2_with fail
                  ((with_reducible refine (hw0.out _).mono ?_); rintro e v0 ⟨rfl, c0⟩)
                  replace hB := hid (b_call hB.out c0)
                  replace hx := hid ((c0.block b hlt).trans hx.out)
                  replace hlt := Nat.lt_of_lt_of_le hlt c0.size
                  obtain ⟨x0, x1, x2, x3, x4⟩ := box5 hx.out
                  clear c0
                  go_wp2_with fail
                  ((with_reducible refine (hw2.out _).mono ?_); rintro e v2 ⟨rfl, c2⟩)
                  replace hB := hid (b_call hB.out c2)
                  replace hx := hid ((c2.block b hlt).trans hx.out)
                  replace hlt := Nat.lt_of_lt_of_le hlt c2.size
                  obtain ⟨x0, x1, x2, x3, x4⟩ := box5 hx.out
                  clear c2
                  go_wp2_with fail
                  go_meet
                  exact ⟨by rw [form_no (.inr rfl) (.inl a2.out) (.inr rfl) (.inl a4.out)], hB, hx⟩
                · have g4 : decide (0 < o.parts.length) = true := by simp; omega
                  replace a4 := hid a4
                  cases fp with
                  | true =>
                    go_wp2_with fail
                    ((with_reducible refine (hw0.out _).mono ?_); rintro e v0 ⟨rfl, c0⟩)
                    replace hB := hid (b_call hB.out c0)
                    replace hx := hid ((c0.block b hlt).trans hx.out)
                    replace hlt := Nat.lt_of_lt_of_le hlt c0.size
                    obtain ⟨x0, x1, x2, x3, x4⟩ := box5 hx.out
                    clear c0
                    go_wp2_with fail
                    ((with_reducible refine (hw2.out _).mono ?_); rintro e v2 ⟨rfl, c2⟩)
                    replace hB := hid (b_call hB.out c2)
                    replace hx := hid ((c2.block b hlt).trans hx.out)
                    replace hlt := Nat.lt_of_lt_of_le hlt c2.size
                    obtain ⟨x0, x1, x2, x3, x4⟩ := box5 hx.out
                    clear c2
                    go_wp2_with fail
                    ((with_reducible refine (hw3.out _).mono ?_); rintro e v3 ⟨rfl, c3⟩)
                    replace hB := hid (b_call hB.out c3)
                    replace hx := hid ((c3.block b hlt).trans hx.out)
                    replace hlt := Nat.lt_of_lt_of_le hlt c3.size
                    obtain ⟨x0, x1, x2, x3, x4⟩ := box5 hx.out
                    clear c3
                    go_wp2_with fail
                    go_meet
                    exact ⟨by rw [form_no (.inr rfl) (.inl a2.out) (.inr rfl) (.inr rfl)], hB, hx⟩
                  | false =>
                    go_wp2_with fail
                    ((with_reducible refine (hw0.out _).mono ?_); rintro e v0 ⟨rfl, c0⟩)
                    replace hB := hid (b_call hB.out c0)
                    replace hx := hid ((c0.block b hlt).trans hx.out)
                    replace hlt := Nat.lt_of_lt_of_le hlt c0.size
                    obtain ⟨x0, x1, x2, x3, x4⟩ := box5 hx.out
                    clear c0
                    go_wp2_with fail
                    ((with_reducible refine (hw2.out _).mono ?_); rintro e v2 ⟨rfl, c2⟩)
                    replace hB := hid (b_call hB.out c2)
                    replace hx := hid ((c2.block b hlt).trans hx.out)
                    replace hlt := Nat.lt_of_lt_of_le hlt c2.size
                    obtain ⟨x0, x1, x2, x3, x4⟩ := box5 hx.out
                    clear c2
                    go_wp2_with fail
                    ((with_reducible refine (hw3.out _).mono ?_); rintro e v3 ⟨rfl, c3⟩)
                    replace hB := hid (b_call hB.out c3)
                    replace hx := hid ((c3.block b hlt).trans hx.out)
                    replace hlt := Nat.lt_of_lt_of_le hlt c3.size
                    obtain ⟨x0, x1, x2, x3, x4⟩ := box5 hx.out
                    clear c3
                    go_wp2_with fail
                    go_meet
                    exact ⟨by rw [form_yes (.inr (.inr (.inr (⟨a4.out, rfl⟩))))], hB, hx⟩
              | false =>
                go_wp2_with fail
                ((with_reducible refine (hw0.out _).mono ?_); rintro e v0 ⟨rfl, c0⟩)
                replace hB := hid (b_call hB.out c0)
                replace hx := hid ((c0.block b hlt).trans hx.out)
                replace hlt := Nat.lt_of_lt_of_le hlt c0.size
                obtain ⟨x0, x1, x2, x3, x4⟩ := box5 hx.out
                clear c0
                go_wp2_with fail
                ((with_reducible refine (hw2.out _).mono ?_); rintro e v2 ⟨rfl, c2⟩)
                replace hB := hid (b_call hB.out c2)
                replace hx := hid ((c2.block b hlt).trans hx.out)
                replace hlt := Nat.lt_of_lt_of_le hlt c2.size
                obtain ⟨x0, x1, x2, x3, x4⟩ := box5 hx.out
                clear c2
                go_wp2_with fail
                go_meet
                exact ⟨by rw [form_yes (.inr (.inr (.inl ⟨a3.out, rfl⟩)))], hB, hx⟩
          · have g2 : o.digest.toList.isEmpty = false := nonempty_of (by omega)
            replace a2 := hid a2
            cases fd with
            | true =>
              by_cases a3 : o.data.length = 0
              · have g3 : decide (0 < o.data.length) = false := by simp [a3]
                replace a3 := hid a3
                by_cases a4 : o.parts.length = 0
                · have g4 : decide (0 < o.parts.length) = false := by simp [a4]
                  replace a4 := hid a4
                  go_wp2_with fail
                  ((with_reducible refine (hw0.out _).mono ?_); rintro e v0 ⟨rfl, c0⟩)
                  replace hB := hid (b_call hB.out c0)
                  replace hx := hid ((c0.block b hlt).trans hx.out)
                  replace hlt := Nat.lt_of_lt_of_le hlt c0.size
                  obtain ⟨x0, x1, x2, x3, x4⟩ := box5 hx.out
                  clear c0
                  go_wp2_with fail
                  ((with_reducible refine (hw1.out _).mono ?_); rintro e v1 ⟨rfl, c1⟩)
                  replace hB := hid (b_call hB.out c1)
                  replace hx := hid ((c1.block b hlt).trans hx.out)
                  replace hlt := Nat.lt_of_lt_of_le hlt c1.size
                  obtain ⟨x0, x1, x2, x3, x4⟩ := box5 hx.out
                  clear c1
                  go_wp2_with fail
                  go_meet
                  exact ⟨by rw [form_no (.inr rfl) (.inr rfl) (.inl a3.out) (.inl a4.out)], hB, hx⟩
                · have g4 : decide (0 < o.parts.length) = true := by simp; omega
                  replace a4 := hid a4
                  cases fp with
                  | true =>
                    go_wp2_with fail
                    ((with_reducible refine (hw0.out _).mono ?_); rintro e v0 ⟨rfl, c0⟩)
                    replace hB := hid (b_call hB.out c0)
                    replace hx := hid ((c0.block b hlt).trans hx.out)
                    replace hlt := Nat.lt_of_lt_of_le hlt c0.size
                    obtain ⟨x0, x1, x2, x3, x4⟩ := box5 hx.out
                    clear c0
                    go_wp2_with fail
                    ((with_reducible refine (hw1.out _).mono ?_); rintro e v1 ⟨rfl, c1⟩)
                    replace hB := hid (b_call hB.out c1)
                    replace hx := hid ((c1.block b hlt).trans hx.out)
                    replace hlt := Nat.lt_of_lt_of_le hlt c1.size
                    obtain ⟨x0, x1, x2, x3, x4⟩ := box5 hx.out
                    clear c1
                    go_wp2_with fail
                    ((with_reducible refine (hw3.out _).mono ?_); rintro e v3 ⟨rfl, c3⟩)
                    replace hB := hid (b_call hB.out c3)
                    replace hx := hid ((c3.block b hlt).trans hx.out)
                    replace hlt := Nat.lt_of_lt_of_le hlt c3.size
                    obtain ⟨x0, x1, x2, x3, x4⟩ := box5 hx.out
                    clear c3
                    go_wp2_with fail
                    go_meet
                    exact ⟨by rw [form_no (.inr rfl) (.inr rfl) (.inl a3.out) (.inr rfl)], hB, hx⟩
                  | false =>
                    go_wp2_with fail
                    ((with_reducible refine (hw0.out _).mono ?_); rintro e v0 ⟨rfl, c0⟩)
                    replace hB := hid (b_call hB.out c0)
                    replace hx := hid ((c0.block b hlt).trans hx.out)
                    replace hlt := Nat.lt_of_lt_of_le hlt c0.size
                    obtain ⟨x0, x1, x2, x3, x4⟩ := box5 hx.out
                    clear c0
                    go_wp2_with fail
                    ((with_reducible refine (hw1.out _).mono ?_); rintro e v1 ⟨rfl, c1⟩)
                    replace hB := hid (b_call hB.out c1)
                    replace hx := hid ((c1.block b hlt).trans hx.out)
                    replace hlt := Nat.lt_of_lt_of_le hlt c1.size
                    obtain ⟨x0, x1, x2, x3, x4⟩ := box5 hx.out
                    clear c1
                    go_wp2_with fail
                    ((with_reducible refine (hw3.out _).mono ?_); rintro e v3 ⟨rfl, c3⟩)
                    replace hB := hid (b_call hB.out c3)
                    replace hx := hid ((c3.block b hlt).trans hx.out)
                    replace hlt := Nat.lt_of_lt_of_le hlt c3.size
                    obtain ⟨x0, x1, x2, x3, x4⟩ := box5 hx.out
                    clear c3
                    go_wp2_with fail
                    go_meet
                    exact ⟨by rw [form_yes (.inr (.inr (.inr (⟨a4.out, rfl⟩))))], hB, hx⟩
              · have g3 : decide (0 < o.data.length) = true := by simp; omega
                replace a3 := hid a3
                cases fb with
                | true =>
                  by_cases a4 : o.parts.length = 0
                  · have g4 : decide (0 < o.parts.length) = false := by simp [a4]
                    replace a4 := hid a4
                    go_wp2_with fail
                    ((with_reducible refine (hw0.out _).mono ?_); rintro e v0 ⟨rfl, c0⟩)
                    replace hB := hid (b_call hB.out c0)
                    replace hx := hid ((c0.block b hlt).trans hx.out)
                    replace hlt := Nat.lt_of_lt_of_le hlt c0.size
                    obtain ⟨x0, x1, x2, x3, x4⟩ := box5 hx.out
                    clear c0
                    go_wp2_with fail
                    ((with_reducible refine (hw1.out _).mono ?_); rintro e v1 ⟨rfl, c1⟩)
                    replace hB := hid (b_call hB.out c1)
                    replace hx := hid ((c1.block b hlt).trans hx.out)
                    replace hlt := Nat.lt_of_lt_of_le hlt c1.size
                    obtain ⟨x0, x1, x2, x3, x4⟩ := box5 hx.out
                    clear c1
                    go_wp2_with fail
                    ((with_reducible refine (hw2.out _).mono ?_); rintro e v2 ⟨rfl, c2⟩)
                    replace hB := hid (b_call hB.out c2)
                    replace hx := hid ((c2.block b hlt).trans hx.out)
                    replace hlt := Nat.lt_of_lt_of_le hlt c2.size
                    obtain ⟨x0, x1, x2, x3, x4⟩ := box5 hx.out
                    clear c2
                    go_wp2_with fail
                    go_meet
                    exact ⟨by rw [form_no (.inr rfl) (.inr rfl) (.inr rfl) (.inl a4.out)], hB, hx⟩
                  · have g4 : decide (0 < o.parts.length) = true := by simp; omega
                    replace a4 := hid a4
                    cases fp with
                    | true =>
                      go_wp2_with fail
                      ((with_reducible refine (hw0.out _).mono ?_); rintro e v0 ⟨rfl, c0⟩)
                      replace hB := hid (b_call hB.out c0)
                      replace hx := hid ((c0.block b hlt).trans hx.out)
                      replace hlt := Nat.lt_of_lt_of_le hlt c0.size
                      obtain ⟨x0, x1, x2, x3, x4⟩ := box5 hx.out
                      clear c0
                      go_wp2_with fail
                      ((with_reducible refine (hw1.out _).mono ?_); rintro e v1 ⟨rfl, c1⟩)
                      replace hB := hid (b_call hB.out c1)
                      replace hx := hid ((c1.block b hlt).trans hx.out)
                      replace hlt := Nat.lt_of_lt_of_le hlt c1.size
                      obtain ⟨x0, x1, x2, x3, x4⟩ := box5 hx.out
                      clear c1
                      go_wp2_with fail
                      ((with_reducible refine (hw2.out _).mono ?_); rintro e v2 ⟨rfl, c2⟩)
                      replace hB := hid (b_call hB.out c2)
                      replace hx := hid ((c2.block b hlt).trans hx.out)
                      replace hlt := Nat.lt_of_lt_of_le hlt c2.size
                      obtain ⟨x0, x1, x2, x3, x4⟩ := box5 hx.out
                      clear c2
                      go_wp2_with fail
                      ((with_reducible refine (hw3.out _).mono ?_); rintro e v3 ⟨rfl, c3⟩)
                      replace hB := hid (b_call hB.out c3)
                      replace hx := hid ((c3.block b hlt).trans hx.out)
                      replace hlt := Nat.lt_of_lt_of_le hlt c3.size
                      obtain ⟨x0, x1, x2, x3, x4⟩ := box5 hx.out
                      clear c3
                      go_wp2_with fail
                      go_meet
                      exact ⟨by rw [form_no (.inr rfl) (.inr rfl) (.inr rfl) (.inr rfl)], hB, hx⟩
                    | false =>
                      go_wp2_with fail
                      ((with_reducible refine (hw0.out _).mono ?_); rintro e v0 ⟨rfl, c0⟩)
                      replace hB := hid (b_call hB.out c0)
                      replace hx := hid ((c0.block b hlt).trans hx.out)
                      replace hlt := Nat.lt_of_lt_of_le hlt c0.size
                      obtain ⟨x0, x1, x2, x3, x4⟩ := box5 hx.out
                      clear c0
                      go_wp2_with fail
                      ((with_reducible refine (hw1.out _).mono ?_); rintro e v1 ⟨rfl, c1⟩)
                      replace hB := hid (b_call hB.out c1)
                      replace hx := hid ((c1.block b hlt).trans hx.out)
                      replace hlt := Nat.lt_of_lt_of_le hlt c1.size
                      obtain ⟨x0, x1, x2, x3, x4⟩ := box5 hx.out
                      clear c1
                      go_wp2_with fail
                      ((with_reducible refine (hw2.out _).mono ?_); rintro e v2 ⟨rfl, c2⟩)
                      replace hB := hid (b_call hB.out c2)
                      replace hx := hid ((c2.block b hlt).trans hx.out)
                      replace hlt := Nat.lt_of_lt_of_le hlt c2.size
                      obtain ⟨x0, x1, x2, x3, x4⟩ := box5 hx.out
                      clear c2
                      go_wp2_with fail
                      ((with_reducible refine (hw3.out _).mono ?_); rintro e v3 ⟨rfl, c3⟩)
                      replace hB := hid (b_call hB.out c3)
                      replace hx := hid ((c3.block b hlt).trans hx.out)
                      replace hlt := Nat.lt_of_lt_of_le hlt c3.size
                      obtain ⟨x0, x1, x2, x3, x4⟩ := box5 hx.out
                      clear c3
                      go_wp2_with fail
                      go_meet
                      exact ⟨by rw [form_yes (.inr (.inr (.inr (⟨a4.out, rfl⟩))))], hB, hx⟩
                | false =>
                  go_wp2_with fail
                  ((with_reducible refine (hw0.out _).mono ?_); rintro e v0 ⟨rfl, c0⟩)
                  replace hB := hid (b_call hB.out c0)
                  replace hx := hid ((c0.block b hlt).trans hx.out)
                  replace hlt := Nat.lt_of_lt_of_le hlt c0.size
                  obtain ⟨x0, x1, x2, x3, x4⟩ := box5 hx.out
                  clear c0
                  go_wp2_with fail
                  ((with_reducible refine (hw1.out _).mono ?_); rintro e v1 ⟨rfl, c1⟩)
                  replace hB := hid (b_call hB.out c1)
                  replace hx := hid ((c1.block b hlt).trans hx.out)
                  replace hlt := Nat.lt_of_lt_of_le hlt c1.size
                  obtain ⟨x0, x1, x2, x3, x4⟩ := box5 hx.out
                  clear c1
                  go_wp2_with fail
                  ((with_reducible refine (hw2.out _).mono ?_); rintro e v2 ⟨rfl, c2⟩)
                  replace hB := hid (b_call hB.out c2)
                  replace hx := hid ((c2.block b hlt).trans hx.out)
                  replace hlt := Nat.lt_of_lt_of_le hlt c2.size
                  obtain ⟨x0, x1, x2, x3, x4⟩ := box5 hx.out
                  clear c2
                  go_wp2_with fail
                  go_meet
                  exact ⟨by rw [form_yes (.inr (.inr (.inl ⟨a3.out, rfl⟩)))], hB, hx⟩
            | false =>
              go_wp2_with fail
              ((with_reducible refine (hw0.out _).mono ?_); rintro e v0 ⟨rfl, c0⟩)
              replace hB := hid (b_call hB.out c0)
              replace hx := hid ((c0.block b hlt).trans hx.out)
              replace hlt := Nat.lt_of_lt_of_le hlt c0.size
              obtain ⟨x0, x1, x2, x3, x4⟩ := box5 hx.out
              clear c0
              go_wp2_with fail
              ((with_reducible refine (hw1.out _).mono ?_); rintro e v1 ⟨rfl, c1⟩)
              replace hB := hid (b_call hB.out c1)
              replace hx := hid ((c1.block b hlt).trans hx.out)
              replace hlt := Nat.lt_of_lt_of_le hlt c1.size
              obtain ⟨x0, x1, x2, x3, x4⟩ := box5 hx.out
              clear c1
              go_wp2_with fail
              go_meet
              exact ⟨by rw [form_yes (.inr (.inl ⟨a2.out, rfl⟩))], hB, hx⟩
        | false =>
          go_wp2_with fail
          ((with_reducible refine (hw0.out _).mono ?_); rintro e v0 ⟨rfl, c0⟩)
          replace hB := hid (b_call hB.out c0)
          replace hx := hid ((c0.block b hlt).trans hx.out)
          replace hlt := Nat.lt_of_lt_of_le hlt c0.size
          obtain ⟨x0, x1, x2, x3, x4⟩ := box5 hx.out
          clear c0
          go_wp2_with fail
          go_meet
          exact ⟨by rw [form_yes (.inl ⟨a1.out, rfl⟩)], hB, hx⟩
    case rest =>
      clear x0 x1 x2 x3 x4 hB hx hlt
      obtain ⟨rfl, hB, hx⟩ := hcut
      have hlt : b < wc.heap.size := (Array.getElem?_eq_some_iff.1 hx.out).1
      obtain ⟨x0, x1, x2, x3, x4⟩ := box5 hx.out
      cases hf : ordForm fn fd fb fp o.n o.digest o.data.length o.parts.length with
      | true =>
        have hz := hid (hr3.out hf)
        clear hf
        go_wp2_with fail
        go_ret
        exact ⟨ret_i hz.out.symm, hB.out⟩
      | false =>
        have hz := hid (hr.out hf)
        clear hf hr3 hr
        by_cases r1 : o.n < 0
        · have g := hid (hz.out.trans (rest_range (.inl r1)))
          have t1 : decide (o.n < 0) = true := by simp [r1]
          go_wp2_with fail
          go_ret
          exact ⟨ret_i g.out.symm, hB.out⟩
        · have t1 : decide (o.n < 0) = false := by simp; omega
          by_cases r2 : 4000 < o.n
          · have g := hid (hz.out.trans (rest_range (.inr r2)))
            have t2 : decide (4000 < o.n) = true := by simp [r2]
            go_wp2_with fail
            go_ret
            exact ⟨ret_i g.out.symm, hB.out⟩
          · have t2 : decide (4000 < o.n) = false := by simp; omega
            have hrg : ¬ (o.n < 0 ∨ 4000 < o.n) := by omega
            have tail := hid (fun (h2 : fd = true → hexFault o.digest = 0) (h3 : 300 < o.data.length) => hz.out.trans (rest_size hrg h2 h3))
            have tail2 := hid (fun (h2 : fd = true → hexFault o.digest = 0) (h3 : ¬ 300 < o.data.length) => hz.out.trans (rest_parts hrg h2 h3))
            have tail3 := hid (fun (h1 : fd = true) (h2 : hexFault o.digest ≠ 0) => hz.out.trans (show ordRest fd o.n o.digest o.data.length (partsFault o.parts) = hexFault o.digest by rw [h1]; exact rest_hex hrg h2))
            clear hz hrg
            have hc := hid (fun w => ref_HexFault_any o.digest w hs)
            generalize hexFault o.digest = hf at *
            cases fd with
            | true =>
              by_cases r3 : hf = 0
              · subst hf
                replace tail := hid (tail.out (fun _ => rfl))
                replace tail2 := hid (tail2.out (fun _ => rfl))
                clear tail3
                by_cases r4 : 300 < o.data.length
                · have g := hid (tail.out r4)
                  have t4 : decide (300 < (o.data.length : Int)) = true := by simp; omega
                  go_wp2_with fail
                  ((with_reducible refine (hw1.out _).mono ?_); rintro e va ⟨rfl, ca⟩)
                  replace hB := hid (b_call hB.out ca)
                  replace hx := hid ((ca.block b hlt).trans hx.out)
                  replace hlt := Nat.lt_of_lt_of_le hlt ca.size
                  obtain ⟨x0, x1, x2, x3, x4⟩ := box5 hx.out
                  clear ca
                  go_wp2_with fail
                  ((with_reducible refine (hc.out _).mono ?_); rintro e vb ⟨rfl, cb⟩)
                  replace hB := hid (b_call hB.out cb)
                  replace hx := hid ((cb.block b hlt).trans hx.out)
                  replace hlt := Nat.lt_of_lt_of_le hlt cb.size
                  obtain ⟨x0, x1, x2, x3, x4⟩ := box5 hx.out
                  clear cb
                  go_wp2_with fail
                  go_ret
                  exact ⟨ret_i g.out.symm, hB.out⟩
                · have g := hid (tail2.out r4)
                  have t4 : decide (300 < (o.data.length : Int)) = false := by simp; omega
                  go_wp2_with fail
                  ((with_reducible refine (hw1.out _).mono ?_); rintro e va ⟨rfl, ca⟩)
                  replace hB := hid (b_call hB.out ca)
                  replace hx := hid ((ca.block b hlt).trans hx.out)
                  replace hlt := Nat.lt_of_lt_of_le hlt ca.size
                  obtain ⟨x0, x1, x2, x3, x4⟩ := box5 hx.out
                  clear ca
                  go_wp2_with fail
                  ((with_reducible refine (hc.out _).mono ?_); rintro e vb ⟨rfl, cb⟩)
                  replace hB := hid (b_call hB.out cb)
                  replace hx := hid ((cb.block b hlt).trans hx.out)
                  replace hlt := Nat.lt_of_lt_of_le hlt cb.size
                  obtain ⟨x0, x1, x2, x3, x4⟩ := box5 hx.out
                  clear cb
                  go_wp2_with fail
                  ((with_reducible refine (ref_PartsFault _ o.parts _ (hP.out.mono EPart.stable hB.out)).mono ?_); rintro e w4 ⟨rfl, b4⟩)
                  go_wp2_with fail
                  go_ret
                  exact ⟨ret_i g.out.symm, b_call hB.out b4⟩
              · have g := hid (tail3.out rfl r3)
                have t3 : (hf != 0) = true := by simp [r3]
                replace r3 := hid r3
                go_wp2_with fail
                ((with_reducible refine (hw1.out _).mono ?_); rintro e va ⟨rfl, ca⟩)
                replace hB := hid (b_call hB.out ca)
                replace hx := hid ((ca.block b hlt).trans hx.out)
                replace hlt := Nat.lt_of_lt_of_le hlt ca.size
                obtain ⟨x0, x1, x2, x3, x4⟩ := box5 hx.out
                clear ca
                go_wp2_with fail
                ((with_reducible refine (hc.out _).mono ?_); rintro e vb ⟨rfl, cb⟩)
                replace hB := hid (b_call hB.out cb)
                replace hx := hid ((cb.block b hlt).trans hx.out)
                replace hlt := Nat.lt_of_lt_of_le hlt cb.size
                obtain ⟨x0, x1, x2, x3, x4⟩ := box5 hx.out
                clear cb
                go_wp2_with fail
                ((with_reducible refine (hc.out _).mono ?_); rintro e w5 ⟨rfl, c5⟩)
                replace hB := hid (b_call hB.out c5)
                clear c5
                go_wp2_with fail
                go_ret
                exact ⟨ret_i g.out.symm, hB.out⟩
            | false =>
              by_cases r4 : 300 < o.data.length
              · have g := hid (tail.out (fun h => by cases h) r4)
                have t4 : decide (300 < (o.data.length : Int)) = true := by simp; omega
                go_wp2_with fail
                ((with_reducible refine (hw1.out _).mono ?_); rintro e va ⟨rfl, ca⟩)
                replace hB := hid (b_call hB.out ca)
                replace hx := hid ((ca.block b hlt).trans hx.out)
                replace hlt := Nat.lt_of_lt_of_le hlt ca.size
                obtain ⟨x0, x1, x2, x3, x4⟩ := box5 hx.out
                clear ca
                go_wp2_with fail
                go_ret
                exact ⟨ret_i g.out.symm, hB.out⟩
              · have g := hid (tail2.out (fun h => by cases h) r4)
                have t4 : decide (300 < (o.data.length : Int)) = false := by simp; omega
                go_wp2_with fail
                ((with_reducible refine (hw1.out _).mono ?_); rintro e va ⟨rfl, ca⟩)
                replace hB := hid (b_call hB.out ca)
                replace hx := hid ((ca.block b hlt).trans hx.out)
                replace hlt := Nat.lt_of_lt_of_le hlt ca.size
                obtain ⟨x0, x1, x2, x3, x4⟩ := box5 hx.out
                clear ca
                go_wp2_with fail
                ((with_reducible refine (ref_PartsFault _ o.parts _ (hP.out.mono EPart.stable hB.out)).mono ?_); rintro e w4 ⟨rfl, b4⟩)
                go_wp2_with fail
                go_ret
                exact ⟨ret_i g.out.symm, b_call hB.out b4⟩
end Go.Proofs.Ytaojfpgbpakmpaa
