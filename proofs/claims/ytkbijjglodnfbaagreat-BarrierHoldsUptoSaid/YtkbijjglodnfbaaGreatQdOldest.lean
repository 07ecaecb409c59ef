/-
  index.Oldest and the reference's EntryOldest: what each computes.
-/
import Derived.Test.YtkbijjglodnfbaaGreatQdBas
import Derived.BigQuiet
import Derived.Deep.QuietTactic
namespace Go.Proofs.YtkbijjglodnfbaaGreat
open Go.RowKit

/-- x goes ahead of y: by its stamp, then by its key. -/
def before (x y : Entry) : Bool := decide (x.stamp < y.stamp) || (x.stamp == y.stamp && slt x.key y.key)
theorem before_irrefl (x : Entry) : before x x = false := by simp [before, slt_irrefl]
theorem before_asymm {x y : Entry} (h : before x y = true) : before y x = false := by
  simp only [before, Bool.or_eq_true, Bool.and_eq_true, decide_eq_true_eq, beq_iff_eq, Bool.or_eq_false_iff, Bool.and_eq_false_iff, decide_eq_false_iff_not, beq_eq_false_iff_ne] at h ⊢
  rcases h with h | ⟨h, k⟩
  · exact ⟨by omega, .inl (by omega)⟩
  · exact ⟨by omega, .inr (slt_asymm k)⟩
theorem before_trans {x y z : Entry} (h : before x y = true) (k : before y z = true) : before x z = true := by
  simp only [before, Bool.or_eq_true, Bool.and_eq_true, decide_eq_true_eq, beq_iff_eq] at h k ⊢
  rcases h with h | ⟨h, h'⟩ <;> rcases k with k | ⟨k, k'⟩
  · exact .inl (by omega)
  · exact .inl (by omega)
  · exact .inl (by omega)
  · exact .inr ⟨by omega, slt_trans h' k'⟩
theorem before_neg_trans {x y z : Entry} (h : before x y = false) (k : before y z = false) : before x z = false := by
  cases hx : before x z with
  | false => rfl
  | true =>
    exfalso
    cases hy : before y x with
    | true => have := before_trans hy hx; rw [this] at k; cases k
    | false =>
      -- x and y have the same stamp and key
      simp only [before, Bool.or_eq_true, Bool.and_eq_true, decide_eq_true_eq, beq_iff_eq, Bool.or_eq_false_iff, Bool.and_eq_false_iff, decide_eq_false_iff_not, beq_eq_false_iff_ne] at h hy k hx
      have e : x.stamp = y.stamp := by omega
      have e2 : x.key = y.key := slt_tri (h.2.resolve_left (fun g => g e)) (hy.2.resolve_left (fun g => g e.symm))
      rw [e, e2] at hx
      rcases hx with hx | ⟨hx, hx'⟩
      · exact k.1 hx
      · rcases k.2 with g | g
        · exact g hx
        · rw [hx'] at g; cases g

/-- Among the first k entries a is the one that goes first of those that nobody holds (of equal ones the first). -/
def Best (l : List Entry) (k a : Nat) : Prop := ∃ x, l[a]? = some x ∧ a < k ∧ x.pins = 0 ∧ ∀ j y, j < k → l[j]? = some y → y.pins = 0 → before y x = false ∧ (j < a → before x y = true)

theorem Best.unique {l : List Entry} {k a b : Nat} (h : Best l k a) (g : Best l k b) : a = b := by
  obtain ⟨x, hx, ha, hp, h⟩ := h
  obtain ⟨y, hy, hb, hq, g⟩ := g
  rcases Nat.lt_trichotomy a b with hlt | he | hlt
  · have := (g a x ha hx hp).2 hlt
    rw [(h b y hb hy hq).1] at this; cases this
  · exact he
  · have := (h b y hb hy hq).2 hlt
    rw [(g a x ha hx hp).1] at this; cases this

/-- The state of the program's loop after k rounds. -/
def OldInv (l : List Entry) (k at_ : Nat) (some_ : Bool) : Prop := (some_ = true → Best l k at_) ∧ (some_ = false → at_ = 0 ∧ ∀ j y, j < k → l[j]? = some y → y.pins ≠ 0)

theorem old_start (l : List Entry) : OldInv l 0 0 false := ⟨(fun h => by cases h), fun _ => ⟨rfl, fun j y h => by omega⟩⟩
theorem old_skip {l : List Entry} {k a : Nat} {s : Bool} {x : Entry} (h : OldInv l k a s) (hx : l[k]? = some x) (hp : x.pins ≠ 0) : OldInv l (k + 1) a s := by
  refine ⟨fun hs => ?_, fun hs => ⟨(h.2 hs).1, fun j y hj hy => ?_⟩⟩
  · obtain ⟨z, hz, ha, hq, g⟩ := h.1 hs
    refine ⟨z, hz, by omega, hq, fun j y hj hy hyp => ?_⟩
    by_cases hjk : j = k
    · subst hjk; rw [hx] at hy; cases hy; exact absurd hyp hp
    · exact g j y (by omega) hy hyp
  · by_cases hjk : j = k
    · subst hjk; rw [hx] at hy; cases hy; exact hp
    · exact (h.2 hs).2 j y (by omega) hy
theorem old_first {l : List Entry} {k a : Nat} {x : Entry} (h : OldInv l k a false) (hx : l[k]? = some x) (hp : x.pins = 0) : OldInv l (k + 1) k true := by
  refine ⟨fun _ => ⟨x, hx, Nat.lt_succ_self k, hp, fun j y hj hy hyp => ?_⟩, fun hs => absurd hs (by decide)⟩
  by_cases hjk : j = k
  · subst hjk; rw [hx] at hy; cases hy; exact ⟨before_irrefl _, fun h => by omega⟩
  · exact absurd hyp ((h.2 rfl).2 j y (by omega) hy)
theorem old_new {l : List Entry} {k a : Nat} {x y : Entry} (h : OldInv l k a true) (hx : l[k]? = some x) (hp : x.pins = 0) (hy : l[a]? = some y) (hb : before x y = true) : OldInv l (k + 1) k true := by
  refine ⟨fun _ => ⟨x, hx, by omega, hp, fun j z hj hz hzp => ?_⟩, fun hs => by cases hs⟩
  obtain ⟨y', hy', ha, hq, g⟩ := h.1 rfl
  rw [hy] at hy'; cases hy'
  by_cases hjk : j = k
  · subst hjk; rw [hx] at hz; cases hz; exact ⟨before_irrefl _, fun h => by omega⟩
  · have g1 := (g j z (by omega) hz hzp).1
    have g2 : before x z = true := by
      cases hxz : before x z with
      | true => rfl
      | false => have := before_neg_trans hxz g1; rw [hb] at this; cases this
    exact ⟨before_asymm g2, fun _ => g2⟩
theorem old_keep {l : List Entry} {k a : Nat} {x y : Entry} (h : OldInv l k a true) (hx : l[k]? = some x) (hy : l[a]? = some y) (hb : before x y = false) : OldInv l (k + 1) a true := by
  refine ⟨fun _ => ?_, fun hs => by cases hs⟩
  obtain ⟨y', hy', ha, hq, g⟩ := h.1 rfl
  rw [hy] at hy'; cases hy'
  refine ⟨y, hy, by omega, hq, fun j z hj hz hzp => ?_⟩
  by_cases hjk : j = k
  · subst hjk; rw [hx] at hz; cases hz; exact ⟨hb, fun h => by omega⟩
  · exact g j z (by omega) hz hzp

/-- What index.Oldest answers. -/
def OldAns (l : List Entry) (i e : Int) : Prop := (∃ a : Nat, Best l l.length a ∧ i = a ∧ e = 0) ∨ ((∀ (j : Nat) (y : Entry), l[j]? = some y → y.pins ≠ 0) ∧ i = 0 ∧ e = 5)
theorem OldAns.unique {l : List Entry} {i e i' e' : Int} (h : OldAns l i e) (g : OldAns l i' e') : i = i' ∧ e = e' := by
  rcases h with ⟨a, ha, rfl, rfl⟩ | ⟨ha, rfl, rfl⟩ <;> (rcases g with ⟨b, hb, rfl, rfl⟩ | ⟨hb, rfl, rfl⟩)
  · rw [ha.unique hb]; exact ⟨rfl, rfl⟩
  · obtain ⟨x, hx, _, hp, _⟩ := ha; exact absurd hp (hb _ _ hx)
  · obtain ⟨x, hx, _, hp, _⟩ := hb; exact absurd hp (ha _ _ hx)
  · exact ⟨rfl, rfl⟩

def OldPost (l : List Entry) (w : World) (e : Ending) (w' : World) : Prop := ∃ i c : Int, e = .returned (.tuple #[.int .i64 i, .int .i64 c]) ∧ OldAns l i c ∧ Below w.heap.size w w'

set_option maxRecDepth 100000 in
set_option maxHeartbeats 1000000 in
theorem index_Oldest (v : Value) (l : List Entry) (w : World) (h : RE w v l) :
    Calls Tryz.prog 61 #[v] w (OldPost l w) := by
  obtain ⟨a, c, rfl, hlc, hcm, hre, hno, hat⟩ := h
  unfold maxLen at hcm
  clear hno
  go_enter Tryz.func61, Tryz.ntmps61
  go_wp2
  go_loopw [4, 5, 10] (fun t s i wr => ∃ (k b : Nat) (sm : Bool), k ≤ l.length ∧ i = .int .i64 k ∧ t = .int .i64 (b : Int) ∧ s = .bool sm ∧ OldInv l k b sm ∧ Below w.heap.size w wr) (fun _ _ i _ => l.length - (intOf i).toNat)
  case atStart => exact ⟨0, 0, false, by omega, rfl, rfl, rfl, old_start l, Below.refl _ _⟩
  case round =>
   obtain ⟨k, b, sm, hk, rfl, rfl, rfl, hinv, hb⟩ := hrel
   by_cases hlt : k < l.length
   · have hx : l[k]? = some l[k] := List.getElem?_eq_getElem hlt
     generalize l[k] = x at hx
     obtain ⟨bb, off, rfl, hbb, he⟩ := hat k _ hx
     obtain ⟨dv, h0, h1, h2, h3, ⟨da, dc, rfl, _⟩, _⟩ := EEntry.stable _ _ _ _ _ hb hbb he
     have hbw : bb < wr.heap.size := Nat.lt_of_lt_of_le hbb hb.size
     by_cases hp : x.pins = 0
     · have hp' : (x.pins == 0) = true := by simp [hp]
       cases sm
       · have hi := hid (old_first hinv hx hp)
         clear hp hat he hx hinv
         go_wp2
         go_quiet (fail)
         go_wp2
         go_roundw
         case rel => exact ⟨k+1, k, true, by omega, by go_num, rfl, rfl, hi.out, below_drewN (b_alloc hb _) _⟩
         case measure => simp [intOf]; omega
       · obtain ⟨y, hy, hbk, _, _⟩ := hinv.1 rfl
         obtain ⟨b2, off2, e2, hbb2, he2⟩ := hat b _ hy
         simp only [Option.some.injEq, Addr.mk.injEq, and_true] at e2
         obtain ⟨rfl, rfl⟩ := e2
         obtain ⟨dv2, g0, g1, g2, g3, _⟩ := EEntry.stable _ _ _ _ _ hb hbb he2
         have hbl : b < l.length := (List.getElem?_eq_some_iff.1 hy).1
         have hpos : 0 < l.length := by omega
         have hbx : Hid (before x y = (decide (x.stamp < y.stamp) || (x.stamp == y.stamp && slt x.key y.key))) := rfl
         have H1 := hid (fun h => old_new hinv hx hp hy h)
         have H2 := hid (fun h => old_keep hinv hx hy h)
         clear hp hat he he2 hx hinv hy hbk
         by_cases hs : x.stamp < y.stamp
         · have hd : decide (x.stamp < y.stamp) = true := by simp [hs]
           have hi := hid (H1.out (by rw [hbx.out, hd]; rfl))
           clear H1 H2 hbx
           go_wp2
           go_quiet (fail)
           go_wp2
           go_roundw
           case rel => exact ⟨k+1, k, true, by omega, by go_num, rfl, rfl, hi.out, below_drewN (b_alloc hb _) _⟩
           case measure => simp [intOf]; omega
         · have hd : decide (x.stamp < y.stamp) = false := by simp; omega
           by_cases hs2 : x.stamp = y.stamp
           · have hd2 : (x.stamp == y.stamp) = true := by simp [hs2]
             cases hk : Op.bytesLess x.key.toList y.key.toList with
             | true =>
               have hi := hid (H1.out (by rw [hbx.out, hd, hd2]; exact hk))
               clear H1 H2 hbx hs hs2
               go_wp2
               go_quiet (fail)
               go_wp2
               go_roundw
               case rel => exact ⟨k+1, k, true, by omega, by go_num, rfl, rfl, hi.out, below_drewN (b_alloc hb _) _⟩
               case measure => simp [intOf]; omega
             | false =>
               have hi := hid (H2.out (by rw [hbx.out, hd, hd2]; exact hk))
               clear H1 H2 hbx hs hs2
               go_wp2
               go_quiet (fail)
               go_wp2
               go_roundw
               case rel => exact ⟨k+1, b, true, by omega, by go_num, rfl, rfl, hi.out, below_drewN (b_alloc hb _) _⟩
               case measure => simp [intOf]; omega
           · have hd2 : (x.stamp == y.stamp) = false := by simp [hs2]
             have hi := hid (H2.out (by rw [hbx.out, hd, hd2]; rfl))
             clear H1 H2 hbx hs hs2
             go_wp2
             go_quiet (fail)
             go_wp2
             go_roundw
             case rel => exact ⟨k+1, b, true, by omega, by go_num, rfl, rfl, hi.out, below_drewN (b_alloc hb _) _⟩
             case measure => simp [intOf]; omega
     · have hp' : (x.pins == 0) = false := by simp [hp]
       have hi := hid (old_skip hinv hx hp)
       clear hp hat he hx hinv
       go_wp2
       go_quiet (fail)
       go_wp2
       go_roundw
       case rel => exact ⟨k+1, b, sm, by omega, by go_num, rfl, rfl, hi.out, below_drewN (b_alloc hb _) _⟩
       case measure => simp [intOf]; omega
   · obtain rfl : k = l.length := by omega
     cases sm
     · have hi := hid hinv
       clear hinv
       go_wp2
       go_ret2
       exact ⟨_, _, rfl, .inr ⟨fun j y hy => (hi.out.2 rfl).2 j y (List.getElem?_eq_some_iff.1 hy).1 hy, rfl, rfl⟩, hb⟩
     · have hi := hid hinv
       clear hinv
       go_wp2
       go_ret2
       exact ⟨_, _, rfl, .inl ⟨b, hi.out.1 rfl, rfl, rfl⟩, hb⟩
/-- y goes ahead of x: before it, or alike and at an earlier place. -/
def aheadB (l : List Entry) (i k : Nat) : Bool :=
  match l[i]?, l[k]? with
  | some x, some y => y.pins == 0 && (before y x || (!before x y && decide (k < i)))
  | _, _ => false

theorem best_of {l : List Entry} {i : Nat} {x : Entry} (hx : l[i]? = some x) (hp : x.pins = 0) (h : ∀ k, k < l.length → aheadB l i k = false) : Best l l.length i := by
  refine ⟨x, hx, (List.getElem?_eq_some_iff.1 hx).1, hp, fun j y hj hy hyp => ?_⟩
  have := h j hj
  simp only [aheadB, hx, hy, hyp, beq_self_eq_true, Bool.true_and, Bool.or_eq_false_iff, Bool.and_eq_false_iff, Bool.not_eq_false', decide_eq_false_iff_not] at this
  exact ⟨this.1, fun hji => this.2.resolve_right (fun g => g hji)⟩
theorem not_best {l : List Entry} {i k : Nat} (h : aheadB l i k = true) : ¬ Best l l.length i := by
  rintro ⟨x, hx, hi, hp, g⟩
  cases hy : l[k]? with
  | none => simp [aheadB, hx, hy] at h
  | some y =>
    simp only [aheadB, hx, hy, Bool.and_eq_true, beq_iff_eq, Bool.or_eq_true, Bool.not_eq_true', decide_eq_true_eq] at h
    have g := g k y (List.getElem?_eq_some_iff.1 hy).1 hy h.1
    rcases h.2 with h2 | ⟨h2, h3⟩
    · rw [g.1] at h2; cases h2
    · rw [g.2 h3] at h2; cases h2

/-- If no entry is best, all are held. -/
theorem no_best {l : List Entry} (h : ∀ i, i < l.length → ¬ Best l l.length i) : ∀ (j : Nat) (y : Entry), l[j]? = some y → y.pins ≠ 0 := by
  -- the program's own loop, in plain words: some state is reached at the end
  have key : ∀ k, k ≤ l.length → ∃ a s, OldInv l k a s := by
    intro k
    induction k with
    | zero => exact fun _ => ⟨0, false, old_start l⟩
    | succ k ih =>
      intro hk
      obtain ⟨a, s, hi⟩ := ih (by omega)
      have hx : l[k]? = some l[k] := List.getElem?_eq_getElem (by omega)
      by_cases hp : l[k].pins = 0
      · cases s
        · exact ⟨_, _, old_first hi hx hp⟩
        · obtain ⟨y, hy, _⟩ := hi.1 rfl
          cases hb : before l[k] y with
          | true => exact ⟨_, _, old_new hi hx hp hy hb⟩
          | false => exact ⟨_, _, old_keep hi hx hy hb⟩
      · exact ⟨_, _, old_skip hi hx hp⟩
  obtain ⟨a, s, hi⟩ := key l.length (Nat.le_refl _)
  cases s
  · exact fun j y hy => (hi.2 rfl).2 j y (List.getElem?_eq_some_iff.1 hy).1 hy
  · have hb := hi.1 rfl
    obtain ⟨x, hx, ha, _⟩ := id hb
    exact absurd hb (h a ha)

def aheadAny (l : List Entry) (i k : Nat) : Bool := (List.range k).any (aheadB l i)
theorem aheadAny_succ (l : List Entry) (i k : Nat) : aheadAny l i (k + 1) = (aheadAny l i k || aheadB l i k) := by
  unfold aheadAny
  rw [List.range_succ, List.any_append]
  simp
theorem aheadAny_none {l : List Entry} {i : Nat} (h : aheadAny l i l.length = false) : ∀ k, k < l.length → aheadB l i k = false := by
  intro k hk
  unfold aheadAny at h
  exact Bool.eq_false_iff.2 fun hh => by
    have := List.any_eq_true.2 ⟨k, List.mem_range.2 hk, hh⟩
    rw [h] at this; cases this
theorem aheadAny_some {l : List Entry} {i : Nat} (h : aheadAny l i l.length = true) : ∃ k, aheadB l i k = true := by
  obtain ⟨k, _, hk⟩ := List.any_eq_true.1 h
  exact ⟨k, hk⟩
theorem aheadB_eq {l : List Entry} {i k : Nat} {x y : Entry} (hx : l[i]? = some x) (hy : l[k]? = some y) :
    aheadB l i k = (y.pins == 0 && (decide (y.stamp < x.stamp) || (y.stamp == x.stamp && (slt y.key x.key || (y.key.toList == x.key.toList && decide ((k : Int) < (i : Int))))))) := by
  simp only [aheadB, hx, hy, before]
  congr 1
  by_cases h1 : y.stamp < x.stamp
  · simp [h1]
  · by_cases h2 : y.stamp = x.stamp
    · simp only [h2, beq_self_eq_true, Bool.true_and, Int.lt_irrefl, decide_false, Bool.false_or]
      cases h3 : slt y.key x.key with
      | true => simp
      | false =>
        cases h4 : slt x.key y.key with
        | true =>
          have : (y.key.toList == x.key.toList) = false := by
            rw [beq_eq_false_iff_ne]
            intro he
            rw [toList_inj he, slt_irrefl] at h4; cases h4
          simp [this]
        | false =>
          have := slt_tri h3 h4
          simp [this]
    · have h3 : (y.stamp == x.stamp) = false := by simp [h2]
      have h4 : decide (x.stamp < y.stamp) = true := by simp; omega
      simp [h1, h3, h4]

set_option maxRecDepth 100000 in
set_option maxHeartbeats 4000000 in
theorem ref_EntryOldest (v : Value) (l : List Entry) (w : World) (h : RE w v l) :
    Calls Tryz.prog 65 #[v] w (OldPost l w) := by
  obtain ⟨a, c, rfl, hlc, hcm, hre, hno, hat⟩ := h
  unfold maxLen at hcm
  clear hno
  go_enter Tryz.func65, Tryz.ntmps65
  go_wp2
  go_loopw [11] (fun i wr => ∃ (k : Nat), k ≤ l.length ∧ i = .int .i64 k ∧ (∀ j, j < k → ¬ Best l l.length j) ∧ Below w.heap.size w wr) (fun i _ => l.length - (intOf i).toNat)
  case atStart => exact ⟨0, by omega, rfl, fun j hj => by omega, Below.refl _ _⟩
  case round =>
   obtain ⟨i, hi, rfl, hnb, hb⟩ := hrel
   replace hnb := hid hnb
   by_cases hlt : i < l.length
   · have hx : l[i]? = some l[i] := List.getElem?_eq_getElem hlt
     generalize l[i] = x at hx
     obtain ⟨bb, off, rfl, hbb, he⟩ := hat i _ hx
     obtain ⟨dv, h0, h1, h2, h3, ⟨da, dc, rfl, hpr⟩, hkr⟩ := EEntry.stable _ _ _ _ _ hb hbb he
     clear hpr hkr
     have hbw : bb < wr.heap.size := Nat.lt_of_lt_of_le hbb hb.size
     clear he
     obtain ⟨wo, hwo⟩ : ∃ wo : World, wo = wr.alloc (.cells #[.string x.key, .slice da x.parts.length dc, .int .i64 x.pins, .int .i64 x.stamp] 91) := ⟨_, rfl⟩
     have hbo : Below w.heap.size w wo := by rw [hwo]; exact b_alloc hb _
     have x0 : wo.cell? ⟨wr.heap.size, 0, none⟩ = some (.string x.key) := by rw [hwo, cell_of_row _ _ _ _ _ _ (heap_alloc_new wr _)]; rfl
     have x3 : wo.cell? ⟨wr.heap.size, 3, none⟩ = some (.int .i64 x.stamp) := by rw [hwo, cell_of_row _ _ _ _ _ _ (heap_alloc_new wr _)]; rfl
     have xs : wr.heap.size < wo.heap.size := by rw [hwo]; simp
     replace hwo := hid hwo
     go_wp2
     rw [← hwo.out]
     clear h0 h1 h2 h3 hb hwo
     generalize wr.heap.size = bx at *
     clear wr
     go_loopw [6, 21] (fun s j wi => ∃ (k : Nat), k ≤ l.length ∧ j = .int .i64 k ∧ s = .bool (!(x.pins == 0) || aheadAny l i k) ∧ Below wo.heap.size wo wi) (fun _ j _ => l.length - (intOf j).toNat)
     case atStart => exact ⟨0, by omega, rfl, by simp [aheadAny]; rfl, Below.refl _ _⟩
     case round =>
       obtain ⟨k, hk, rfl, rfl, hbi⟩ := hrel
       by_cases hkl : k < l.length
       · have hy : l[k]? = some l[k] := List.getElem?_eq_getElem hkl
         generalize l[k] = y at hy
         obtain ⟨b2, off2, e2, hbb2, he2⟩ := hat k _ hy
         simp only [Option.some.injEq, Addr.mk.injEq, and_true] at e2
         obtain ⟨rfl, rfl⟩ := e2
         obtain ⟨dv2, g0, g1, g2, g3, ⟨da2, dc2, rfl, hpr⟩, hkr⟩ := EEntry.stable _ _ _ _ _ (b_call hbo hbi) hbb2 he2
         clear hpr hkr
         have hbw2 : bb < wr.heap.size := by have := hbo.size; have := hbi.size; omega
         have x0' := cell_stays hbi xs x0
         have x3' := cell_stays hbi xs x3
         have xs' : bx < wr.heap.size := Nat.lt_of_lt_of_le xs hbi.size
         have hstep := hid (aheadAny_succ l i k)
         have hah := hid (aheadB_eq hx hy)
         clear he2 hy
         generalize hA : (!(x.pins == 0) || aheadAny l i k) = A at *
         cases A
         · have hA2 := hid hA
           clear hA
           by_cases hp : y.pins = 0
           · have hp' : (y.pins == 0) = true := by simp [hp]
             by_cases hs : y.stamp < x.stamp
             · have hd : decide (y.stamp < x.stamp) = true := by simp [hs]
               clear hs hp
               go_wp2
               go_roundw
               case rel => exact ⟨k + 1, by omega, by go_num, by rw [hstep.out, hah.out, hp', hd, ← Bool.or_assoc, hA2.out]; rfl, b_alloc hbi _⟩
               case measure => simp [intOf]; omega
             · have hd : decide (y.stamp < x.stamp) = false := by simp; omega
               by_cases hs2 : y.stamp = x.stamp
               · have hd2 : (y.stamp == x.stamp) = true := by simp [hs2]
                 clear hs hp hs2
                 cases hk1 : Op.bytesLess y.key.toList x.key.toList with
                 | true =>
                   have hk2 : slt y.key x.key = true := hk1
                   replace hk2 := hid hk2
                   go_wp2
                   go_roundw
                   case rel => exact ⟨k + 1, by omega, by go_num, by rw [hstep.out, hah.out, hp', hd, hd2, hk2.out, ← Bool.or_assoc, hA2.out]; rfl, b_alloc hbi _⟩
                   case measure => simp [intOf]; omega
                 | false =>
                   have hk2 : slt y.key x.key = false := hk1
                   replace hk2 := hid hk2
                   cases hk3 : (y.key.toList == x.key.toList) with
                   | true =>
                     go_wp2
                     go_roundw
                     case rel => exact ⟨k + 1, by omega, by go_num, by rw [hstep.out, hah.out, hp', hd, hd2, hk2.out, hk3, ← Bool.or_assoc, hA2.out]; simp, b_alloc hbi _⟩
                     case measure => simp [intOf]; omega
                   | false =>
                     go_wp2
                     go_roundw
                     case rel => exact ⟨k + 1, by omega, by go_num, by rw [hstep.out, hah.out, hp', hd, hd2, hk2.out, hk3, ← Bool.or_assoc, hA2.out]; rfl, b_alloc hbi _⟩
                     case measure => simp [intOf]; omega
               · have hd2 : (y.stamp == x.stamp) = false := by simp [hs2]
                 clear hs hp hs2
                 go_wp2
                 go_roundw
                 case rel => exact ⟨k + 1, by omega, by go_num, by rw [hstep.out, hah.out, hp', hd, hd2, ← Bool.or_assoc, hA2.out]; rfl, b_alloc hbi _⟩
                 case measure => simp [intOf]; omega
           · have hp' : (y.pins == 0) = false := by simp [hp]
             clear hp
             go_wp2
             go_roundw
             case rel => exact ⟨k + 1, by omega, by go_num, by rw [hstep.out, hah.out, hp', ← Bool.or_assoc, hA2.out]; rfl, b_alloc hbi _⟩
             case measure => simp [intOf]; omega
         · have hA2 := hid hA
           clear hA
           go_wp2
           go_roundw
           case rel => exact ⟨k + 1, by omega, by go_num, by rw [hstep.out, ← Bool.or_assoc, hA2.out]; rfl, b_alloc hbi _⟩
           case measure => simp [intOf]; omega
       · obtain rfl : k = l.length := by omega
         have hbf := b_call hbo hbi
         generalize hA : (!(x.pins == 0) || aheadAny l i l.length) = A at *
         cases A
         · have hbest := hid (show Best l l.length i from best_of hx (by
             rw [Bool.or_eq_false_iff] at hA
             simpa using hA.1) (aheadAny_none (by rw [Bool.or_eq_false_iff] at hA; exact hA.2)))
           clear hA hat
           go_wp2
           go_ret2
           exact ⟨_, _, rfl, .inl ⟨i, hbest.out, rfl, rfl⟩, hbf⟩
         · have hnot := hid (show ∀ j, j < i + 1 → ¬ Best l l.length j by
             intro j hj
             by_cases hji : j = i
             · subst hji
               rw [Bool.or_eq_true] at hA
               rcases hA with h | h
               · rintro ⟨z, hz, _, hp, _⟩
                 rw [hx] at hz; cases hz
                 simp [hp] at h
               · obtain ⟨k, hk⟩ := aheadAny_some h
                 exact not_best hk
             · exact hnb.out j (by omega))
           clear hA hat
           go_wp2
           go_roundw
           case rel => exact ⟨i + 1, by omega, by go_num, hnot.out, hbf⟩
           case measure => simp [intOf]; omega
   · obtain rfl : i = l.length := by omega
     clear hat
     go_wp2
     go_ret2
     exact ⟨_, _, rfl, .inr ⟨no_best hnb.out, rfl, rfl⟩, hb⟩

end Go.Proofs.YtkbijjglodnfbaaGreat
