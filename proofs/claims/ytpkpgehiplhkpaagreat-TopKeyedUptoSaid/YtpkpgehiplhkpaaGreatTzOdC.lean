import Derived.Test.YtpkpgehiplhkpaaGreatTzOd
import Derived.Deep.DeepCutAuto
namespace Go.Proofs.YtpkpgehiplhkpaaGreat
open Go.RowKit
theorem qzodc_5 {P : Prop} (h : P := by
 go_wp2_with fail
 go_ret
 exact ⟨ret_i g.out.symm, hb3.out⟩) : P := h
theorem qzodc_4 {P : Prop} (h : P := by
 go_wp2_with fail
 go_ret
 exact ⟨ret_i g.out.symm, hB2.out⟩) : P := h
theorem qzodc_3 {P : Prop} (h : P := by
 have g2 : o.digest.toList.isEmpty = false := nonempty_of (by omega)
 replace a2 := hid a2
 go_wp2_with fail
 go_meet
 exact ⟨by rw [form_yes (.inr (.inl ⟨a2.out, rfl⟩))], rfl⟩) : P := h
theorem qzodc_2 {P : Prop} (h : P := by
 have g3 : decide (0 < o.data.length) = true := by simp; omega
 replace a3 := hid a3
 go_wp2_with fail
 go_meet
 exact ⟨by rw [form_yes (.inr (.inr (.inl ⟨a3.out, rfl⟩)))], rfl⟩) : P := h
theorem qzodc_1 {P : Prop} (h : P := by
 have g4 : decide (0 < o.parts.length) = true := by simp; omega
 replace a4 := hid a4
 go_wp2_with fail
 go_meet
 exact ⟨by rw [form_yes (.inr (.inr (.inr (⟨a4.out, rfl⟩))))], rfl⟩) : P := h
theorem form_yes {fn fd fb fp : Bool} {n : Int} {d : ByteArray} {bl pl : Nat} (h : (n ≠ 0 ∧ fn = false) ∨ (d.size ≠ 0 ∧ fd = false) ∨ (bl ≠ 0 ∧ fb = false) ∨ (pl ≠ 0 ∧ fp = false)) : ordForm fn fd fb fp n d bl pl = true := decide_eq_true h
theorem form_no {fn fd fb fp : Bool} {n : Int} {d : ByteArray} {bl pl : Nat} (h1 : n = 0 ∨ fn = true) (h2 : d.size = 0 ∨ fd = true) (h3 : bl = 0 ∨ fb = true) (h4 : pl = 0 ∨ fp = true) : ordForm fn fd fb fp n d bl pl = false :=
 decide_eq_false (by rintro (⟨a, b⟩ | ⟨a, b⟩ | ⟨a, b⟩ | ⟨a, b⟩) <;> simp_all)
theorem size0 {d : ByteArray} (h : d.size = 0) : d.toList.isEmpty = true := by
 rw [List.isEmpty_iff]
 exact List.eq_nil_of_length_eq_zero (by rw [toList_size]; exact h)
theorem box_old {w w1 : World} {o1 : Obj} (b : Below (w.alloc o1).heap.size (w.alloc o1) w1) (o2 : Obj) : (w1.alloc o2).heap[w.heap.size]? = some o1 := by
 have h := (b.block w.heap.size (by simp)).trans (heap_alloc_new w o1)
 exact (heap_alloc_old w1 o2 (Array.getElem?_eq_some_iff.1 h).1).trans h
theorem rest_range {fd : Bool} {n : Int} {d : ByteArray} {bl : Nat} {z : Int} (h : n < 0 ∨ 4000 < n) : ordRest fd n d bl z = 4 := by unfold ordRest; rw [if_pos h]
theorem rest_hex {n : Int} {d : ByteArray} {bl : Nat} {z : Int} (h : ¬ (n < 0 ∨ 4000 < n)) (h2 : hexFault d ≠ 0) : ordRest true n d bl z = hexFault d := by unfold ordRest; rw [if_neg h, if_pos ⟨rfl, h2⟩]
theorem rest_size {fd : Bool} {n : Int} {d : ByteArray} {bl : Nat} {z : Int} (h : ¬ (n < 0 ∨ 4000 < n)) (h2 : fd = true → hexFault d = 0) (h3 : 300 < bl) : ordRest fd n d bl z = 1 := by unfold ordRest; rw [if_neg h, if_neg (fun g => g.2 (h2 g.1)), if_pos h3]
theorem rest_parts {fd : Bool} {n : Int} {d : ByteArray} {bl : Nat} {z : Int} (h : ¬ (n < 0 ∨ 4000 < n)) (h2 : fd = true → hexFault d = 0) (h3 : ¬ 300 < bl) : ordRest fd n d bl z = z := by unfold ordRest; rw [if_neg h, if_neg (fun g => g.2 (h2 g.1)), if_neg h3]
set_option maxRecDepth 100000 in
set_option maxHeartbeats 4000000 in
theorem order_Check (o : Order) (dv pv : Value) (w : World) (hd : RB w dv o.data) (hp : RP w pv o.parts) (hs : o.digest.size ≤ 140737488351232) :
 Calls Tryz.prog 57 #[.agg #[.int .i64 o.kind, .int .i64 o.n, .string o.digest, dv, pv]] w fun e w' => e = .returned (.int .i64 (ordFault o)) ∧ Below w.heap.size w w' := by
 have hP := hid hp
 have hof := hid fun w => order_of o.kind w
 have hr2 := hid (fun h => ordFault_kind (o := o) h)
 have hr3 := hid (fun h h2 => ordFault_form (o := o) h h2)
 have hr := hid (fun h h2 => ordFault_rest (o := o) h h2)
 generalize ordFault o = z at *
 have hdl : o.data.length ≤ 140737488351232 := by obtain ⟨_, _, _, _, _, hre, _⟩ := hd; omega
 obtain ⟨da, dc, rfl, -⟩ := hd
 obtain ⟨pa, pc, rfl, -, -, hpl, -⟩ := hp
 generalize hasN o.kind = fn at *
 generalize hasD o.kind = fd at *
 generalize hasB o.kind = fb at *
 generalize hasP o.kind = fp at *
 generalize isKind o.kind = ik at *
 go_enter Tryz.func57, Tryz.ntmps57
 go_wp2_with fail
 ((with_reducible refine (hof.out _).mono ?_); rintro e w1 ⟨rfl, b1⟩)
 obtain ⟨bc1, bf1⟩ := bcell b1
 have hs1 : w.heap.size < w1.heap.size := by have := b1.size; simp at this; omega
 have hb1 := hid (b_call (b_alloc (Below.refl _ w) _) b1)
 cases ik with
 | false =>
   have hz := hid (hr2.out rfl)
   go_wp2_with fail
   go_ret
   exact ⟨ret_i hz.out.symm, b_alloc hb1.out _⟩
 | true =>
   replace hr3 := hid (fun h => hr3.out rfl h)
   replace hr := hid (fun h => hr.out rfl h)
   clear hr2 hof
   go_upto_region 4 with fail
   obtain ⟨W2, hW2⟩ : ∃ W2, W2 = w1.alloc (Obj.cells #[.bool fn, .bool fd, .bool fb, .bool fp] 121) := ⟨_, rfl⟩
   have hB2 : Hid (Below w.heap.size w W2) := hid (by rw [hW2]; exact b_alloc hb1.out _)
   have hx := box_old b1 (Obj.cells #[.bool fn, .bool fd, .bool fb, .bool fp] 121)
   have hy := heap_alloc_new w1 (Obj.cells #[.bool fn, .bool fd, .bool fb, .bool fp] 121)
   rw [← hW2] at hx hy
   have x1 : W2.cell? ⟨w.heap.size, 1, none⟩ = some (.int .i64 o.n) := cell_of_row _ _ 1 _ _ _ hx
   have x2 : W2.cell? ⟨w.heap.size, 2, none⟩ = some (.string o.digest) := cell_of_row _ _ 2 _ _ _ hx
   have x3 : W2.cell? ⟨w.heap.size, 3, none⟩ = some (.slice da o.data.length dc) := cell_of_row _ _ 3 _ _ _ hx
   have x4 : W2.cell? ⟨w.heap.size, 4, none⟩ = some (.slice pa o.parts.length pc) := cell_of_row _ _ 4 _ _ _ hx
   have y0 : W2.cell? ⟨w1.heap.size, 0, none⟩ = some (.bool fn) := cell_of_row _ _ 0 _ _ _ hy
   have y1 : W2.cell? ⟨w1.heap.size, 1, none⟩ = some (.bool fd) := cell_of_row _ _ 1 _ _ _ hy
   have y2 : W2.cell? ⟨w1.heap.size, 2, none⟩ = some (.bool fb) := cell_of_row _ _ 2 _ _ _ hy
   have y3 : W2.cell? ⟨w1.heap.size, 3, none⟩ = some (.bool fp) := cell_of_row _ _ 3 _ _ _ hy
   have hq1 : w1.heap.size < W2.heap.size := by rw [hW2]; simp
   rw [← hW2]
   clear hW2 bc1 bf1 hb1 b1 hx hy
   generalize w1.heap.size = q at *
   obtain ⟨b, hb⟩ : ∃ b, w.heap.size = b := ⟨_, rfl⟩
   rw [hb] at x1 x2 x3 x4 hs1 ⊢
   replace hb := hid hb
   go_cut [53] (fun c wx => c = .bool (ordForm fn fd fb fp o.n o.digest o.data.length o.parts.length) ∧ wx = W2)
   case first =>
    cases fn with
    | true =>
      cases fd with
      | true =>
        cases fb with
        | true =>
          cases fp with
          | true =>
            go_wp2_with fail
            go_meet
            exact ⟨by rw [form_no (.inr rfl) (.inr rfl) (.inr rfl) (.inr rfl)], rfl⟩
          | false =>
            by_cases a4 : o.parts.length = 0
            · have g4 : decide (0 < o.parts.length) = false := by simp [a4]
              replace a4 := hid a4
              go_wp2_with fail
              go_meet
              exact ⟨by rw [form_no (.inr rfl) (.inr rfl) (.inr rfl) (.inl a4.out)], rfl⟩
            exact qzodc_1
        | false =>
          by_cases a3 : o.data.length = 0
          · have g3 : decide (0 < o.data.length) = false := by simp [a3]
            replace a3 := hid a3
            cases fp with
            | true =>
              go_wp2_with fail
              go_meet
              exact ⟨by rw [form_no (.inr rfl) (.inr rfl) (.inl a3.out) (.inr rfl)], rfl⟩
            | false =>
              by_cases a4 : o.parts.length = 0
              · have g4 : decide (0 < o.parts.length) = false := by simp [a4]
                replace a4 := hid a4
                go_wp2_with fail
                go_meet
                exact ⟨by rw [form_no (.inr rfl) (.inr rfl) (.inl a3.out) (.inl a4.out)], rfl⟩
              exact qzodc_1
          exact qzodc_2
      | false =>
        by_cases a2 : o.digest.size = 0
        · have g2 : o.digest.toList.isEmpty = true := size0 a2
          replace a2 := hid a2
          cases fb with
          | true =>
            cases fp with
            | true =>
              go_wp2_with fail
              go_meet
              exact ⟨by rw [form_no (.inr rfl) (.inl a2.out) (.inr rfl) (.inr rfl)], rfl⟩
            | false =>
              by_cases a4 : o.parts.length = 0
              · have g4 : decide (0 < o.parts.length) = false := by simp [a4]
                replace a4 := hid a4
                go_wp2_with fail
                go_meet
                exact ⟨by rw [form_no (.inr rfl) (.inl a2.out) (.inr rfl) (.inl a4.out)], rfl⟩
              exact qzodc_1
          | false =>
            by_cases a3 : o.data.length = 0
            · have g3 : decide (0 < o.data.length) = false := by simp [a3]
              replace a3 := hid a3
              cases fp with
              | true =>
                go_wp2_with fail
                go_meet
                exact ⟨by rw [form_no (.inr rfl) (.inl a2.out) (.inl a3.out) (.inr rfl)], rfl⟩
              | false =>
                by_cases a4 : o.parts.length = 0
                · have g4 : decide (0 < o.parts.length) = false := by simp [a4]
                  replace a4 := hid a4
                  go_wp2_with fail
                  go_meet
                  exact ⟨by rw [form_no (.inr rfl) (.inl a2.out) (.inl a3.out) (.inl a4.out)], rfl⟩
                exact qzodc_1
            exact qzodc_2
        exact qzodc_3
    | false =>
      by_cases a1 : o.n = 0
      · have g1 : (o.n != 0) = false := by simp [a1]
        replace a1 := hid a1
        cases fd with
        | true =>
          cases fb with
          | true =>
            cases fp with
            | true =>
              go_wp2_with fail
              go_meet
              exact ⟨by rw [form_no (.inl a1.out) (.inr rfl) (.inr rfl) (.inr rfl)], rfl⟩
            | false =>
              by_cases a4 : o.parts.length = 0
              · have g4 : decide (0 < o.parts.length) = false := by simp [a4]
                replace a4 := hid a4
                go_wp2_with fail
                go_meet
                exact ⟨by rw [form_no (.inl a1.out) (.inr rfl) (.inr rfl) (.inl a4.out)], rfl⟩
              exact qzodc_1
          | false =>
            by_cases a3 : o.data.length = 0
            · have g3 : decide (0 < o.data.length) = false := by simp [a3]
              replace a3 := hid a3
              cases fp with
              | true =>
                go_wp2_with fail
                go_meet
                exact ⟨by rw [form_no (.inl a1.out) (.inr rfl) (.inl a3.out) (.inr rfl)], rfl⟩
              | false =>
                by_cases a4 : o.parts.length = 0
                · have g4 : decide (0 < o.parts.length) = false := by simp [a4]
                  replace a4 := hid a4
                  go_wp2_with fail
                  go_meet
                  exact ⟨by rw [form_no (.inl a1.out) (.inr rfl) (.inl a3.out) (.inl a4.out)], rfl⟩
                exact qzodc_1
            exact qzodc_2
        | false =>
          by_cases a2 : o.digest.size = 0
          · have g2 : o.digest.toList.isEmpty = true := size0 a2
            replace a2 := hid a2
            cases fb with
            | true =>
              cases fp with
              | true =>
                go_wp2_with fail
                go_meet
                exact ⟨by rw [form_no (.inl a1.out) (.inl a2.out) (.inr rfl) (.inr rfl)], rfl⟩
              | false =>
                by_cases a4 : o.parts.length = 0
                · have g4 : decide (0 < o.parts.length) = false := by simp [a4]
                  replace a4 := hid a4
                  go_wp2_with fail
                  go_meet
                  exact ⟨by rw [form_no (.inl a1.out) (.inl a2.out) (.inr rfl) (.inl a4.out)], rfl⟩
                exact qzodc_1
            | false =>
              by_cases a3 : o.data.length = 0
              · have g3 : decide (0 < o.data.length) = false := by simp [a3]
                replace a3 := hid a3
                cases fp with
                | true =>
                  go_wp2_with fail
                  go_meet
                  exact ⟨by rw [form_no (.inl a1.out) (.inl a2.out) (.inl a3.out) (.inr rfl)], rfl⟩
                | false =>
                  by_cases a4 : o.parts.length = 0
                  · have g4 : decide (0 < o.parts.length) = false := by simp [a4]
                    replace a4 := hid a4
                    go_wp2_with fail
                    go_meet
                    exact ⟨by rw [form_no (.inl a1.out) (.inl a2.out) (.inl a3.out) (.inl a4.out)], rfl⟩
                  exact qzodc_1
              exact qzodc_2
          exact qzodc_3
      have g1 : (o.n != 0) = true := by simp [a1]
      replace a1 := hid a1
      go_wp2_with fail
      go_meet
      exact ⟨by rw [form_yes (.inl ⟨a1.out, rfl⟩)], rfl⟩
   obtain ⟨rfl, rfl⟩ := hcut
   cases hf : ordForm fn fd fb fp o.n o.digest o.data.length o.parts.length with
   | true =>
     have hz := hid (hr3.out hf)
     clear hf
     go_wp2_with fail
     go_ret
     exact ⟨ret_i hz.out.symm, hB2.out⟩
   | false =>
     have hz := hid (hr.out hf)
     clear hf hr3 hr
     by_cases r1 : o.n < 0
     · have g := hid (hz.out.trans (rest_range (.inl r1)))
       have t1 : decide (o.n < 0) = true := by simp [r1]
       exact qzodc_4
     have t1 : decide (o.n < 0) = false := by simp; omega
     by_cases r2 : 4000 < o.n
     · have g := hid (hz.out.trans (rest_range (.inr r2)))
       have t2 : decide (4000 < o.n) = true := by simp [r2]
       exact qzodc_4
     have t2 : decide (4000 < o.n) = false := by simp; omega
     have hrg : ¬ (o.n < 0 ∨ 4000 < o.n) := by omega
     have tail := hid (fun (h2 : fd = true → hexFault o.digest = 0) (h3 : 300 < o.data.length) => hz.out.trans (rest_size hrg h2 h3))
     have tail2 := hid (fun (h2 : fd = true → hexFault o.digest = 0) (h3 : ¬ 300 < o.data.length) => hz.out.trans (rest_parts hrg h2 h3))
     have tail3 := hid (fun (h1 : fd = true) (h2 : hexFault o.digest ≠ 0) => hz.out.trans (show ordRest fd o.n o.digest o.data.length (partsFault o.parts) = hexFault o.digest by rw [h1]; exact rest_hex hrg h2))
     clear hz hrg
     have hc := hid (fun w => hex_Check_any o.digest w hs)
     generalize hexFault o.digest = hx at *
     cases fd with
     | true =>
       by_cases r3 : hx = 0
       · subst hx
         replace tail := hid (tail.out (fun _ => rfl))
         replace tail2 := hid (tail2.out (fun _ => rfl))
         clear tail3
         by_cases r4 : 300 < o.data.length
         · have g := hid (tail.out r4)
           have t4 : decide (300 < (o.data.length : Int)) = true := by simp; omega
           go_wp2_with fail
           ((with_reducible refine (hc.out _).mono ?_); rintro e w3 ⟨rfl, b3⟩)
           obtain ⟨bc3, bf3⟩ := bcell b3
           have hb3 := hid (b_call hB2.out b3)
           clear b3
           have hbW : b < wc.heap.size := by omega
           exact qzodc_5
         have g := hid (tail2.out r4)
         have t4 : decide (300 < (o.data.length : Int)) = false := by simp; omega
         go_wp2_with fail
         ((with_reducible refine (hc.out _).mono ?_); rintro e w3 ⟨rfl, b3⟩)
         obtain ⟨bc3, bf3⟩ := bcell b3
         have hb3 := hid (b_call hB2.out b3)
         clear b3
         have hbW : b < wc.heap.size := by omega
         go_wp2_with fail
         ((with_reducible refine (manifest_Check _ o.parts _ (hP.out.mono EPart.stable hb3.out)).mono ?_); rintro e w4 ⟨rfl, b4⟩)
         go_wp2_with fail
         go_ret
         exact ⟨ret_i g.out.symm, b_call hb3.out b4⟩
       have g := hid (tail3.out rfl r3)
       have t3 : (hx != 0) = true := by simp [r3]
       replace r3 := hid r3
       go_wp2_with fail
       ((with_reducible refine (hc.out _).mono ?_); rintro e w3 ⟨rfl, b3⟩)
       have hb3 := hid (b_call hB2.out b3)
       clear b3
       exact qzodc_5
     | false =>
       by_cases r4 : 300 < o.data.length
       · have g := hid (tail.out (fun h => by cases h) r4)
         have t4 : decide (300 < (o.data.length : Int)) = true := by simp; omega
         exact qzodc_4
       have g := hid (tail2.out (fun h => by cases h) r4)
       have t4 : decide (300 < (o.data.length : Int)) = false := by simp; omega
       go_wp2_with fail
       ((with_reducible refine (manifest_Check _ o.parts _ (hP.out.mono EPart.stable hB2.out)).mono ?_); rintro e w4 ⟨rfl, b4⟩)
       go_wp2_with fail
       go_ret
       exact ⟨ret_i g.out.symm, b_call hB2.out b4⟩
end Go.Proofs.YtpkpgehiplhkpaaGreat
