/-
  The reference's EntriesPut: what it answers. Printed by gen_putr.py.
-/
import Derived.Test.YtcbopanekmpllaaPutL
import Derived.Test.YtcbopanekmpllaaSt
namespace Go.Proofs.Ytcbopanekmpllaa
open Go.RowKit

theorem xbox_stays {w w' : World} {q : Nat} {v : Value} {X : Obj} (hq : w.heap[q]? = some X) (hg : w.grownBy w' v.ownBlock) (hv : ∀ k, v.ownBlock = some k → q + 1 ≤ k) : w'.heap[q]? = some X := by
  have h1 := Array.getElem?_eq_some_iff.1 hq
  have hb := (Below.refl (q + 1) w).grown hg h1.1 hv
  exact (hb.block q (Nat.lt_succ_self q)).trans hq
theorem take_next {α : Type} {L : List α} {k : Nat} {r : α} (h : L[k]? = some r) : L.take (k + 1) = L.take k ++ [r] := by
  obtain ⟨hk, rfl⟩ := List.getElem?_eq_some_iff.1 h
  exact List.take_succ_eq_append_getElem hk
/-- How far the new list is behind k rounds. -/
def farK (fin : Bool) (i k : Nat) : Nat := if fin = true then k else if k ≤ i then k else k + 1
def lastL (fin : Bool) (i : Nat) (rx : XR Entry) (rs : List (XR Entry)) : List (XR Entry) := if fin = true then rs.set i rx else rs.take i ++ rx :: rs.drop i
theorem last_low {fin : Bool} {i k : Nat} {rx r : XR Entry} {rs : List (XR Entry)} (hk : k < i) (hr : rs[k]? = some r) : (lastL fin i rx rs)[farK fin i k]? = some r ∧ farK fin i (k + 1) = farK fin i k + 1 := by
  have hl := (List.getElem?_eq_some_iff.1 hr).1
  unfold lastL farK
  cases fin with
  | true => simp only [if_true]; rw [List.getElem?_set_ne (by omega)]; exact ⟨hr, trivial⟩
  | false =>
    simp only [Bool.false_eq_true, if_false]
    rw [if_pos (by omega), if_pos (by omega), List.getElem?_append_left (by rw [List.length_take]; omega), List.getElem?_take, if_pos hk]
    exact ⟨hr, rfl⟩
theorem last_high {fin : Bool} {i k : Nat} {rx r : XR Entry} {rs : List (XR Entry)} (hk : i < k) (hr : rs[k]? = some r) : (lastL fin i rx rs)[farK fin i k]? = some r ∧ farK fin i (k + 1) = farK fin i k + 1 := by
  have hl := (List.getElem?_eq_some_iff.1 hr).1
  unfold lastL farK
  cases fin with
  | true => simp only [if_true]; rw [List.getElem?_set_ne (by omega)]; exact ⟨hr, trivial⟩
  | false =>
    simp only [Bool.false_eq_true, if_false]
    rw [if_neg (by omega), if_neg (by omega), List.getElem?_append_right (by rw [List.length_take]; omega), List.length_take, show k + 1 - min i rs.length = (k - i) + 1 by omega, List.getElem?_cons_succ, List.getElem?_drop, show i + (k - i) = k by omega]
    exact ⟨hr, rfl⟩
theorem last_here {i : Nat} {rx r : XR Entry} {rs : List (XR Entry)} (hr : rs[i]? = some r) : (lastL true i rx rs)[farK true i i]? = some rx ∧ farK true i (i + 1) = farK true i i + 1 := by
  have hl := (List.getElem?_eq_some_iff.1 hr).1
  unfold lastL farK
  simp only [if_true]
  exact ⟨List.getElem?_set_self hl, trivial⟩
theorem last_new {i : Nat} {rx : XR Entry} {rs : List (XR Entry)} (hi : i ≤ rs.length) : (lastL false i rx rs)[farK false i i]? = some rx := by
  unfold lastL farK
  simp only [Bool.false_eq_true, if_false]
  rw [if_pos (Nat.le_refl _), List.getElem?_append_right (by rw [List.length_take]; omega), List.length_take, show i - min i rs.length = 0 by omega]
  rfl
theorem last_new2 {i : Nat} {rx r : XR Entry} {rs : List (XR Entry)} (hr : rs[i]? = some r) : (lastL false i rx rs)[farK false i i + 1]? = some r ∧ farK false i (i + 1) = farK false i i + 1 + 1 := by
  have hl := (List.getElem?_eq_some_iff.1 hr).1
  unfold lastL farK
  simp only [Bool.false_eq_true, if_false]
  rw [if_pos (Nat.le_refl _), if_neg (by omega), List.getElem?_append_right (by rw [List.length_take]; omega), List.length_take, show i + 1 - min i rs.length = 0 + 1 by omega, List.getElem?_cons_succ, List.getElem?_drop]
  exact ⟨hr, rfl⟩
theorem xbox_pins {w : World} {q : Nat} {a b c d u : Value} {T : TypeId} (h : w.heap[q]? = some (.cells #[a, b, c, d] T (0, 0))) : (w.setCell ⟨q, 2, none⟩ u).heap[q]? = some (.cells #[a, b, u, d] T (0, 0)) := by
  simp [World.setCell, Array.getElem?_modify, h]
theorem heap_new {w : World} {o : Obj} {k : Nat} (h : k = w.heap.size) : (w.alloc o).heap[k]? = some o := by subst h; exact heap_alloc_new w o
theorem raw_reads {w : World} {B : Nat} {v : Value} {rs : List (XR Entry)} (h : OS 31 4 (xc cEntry (·.parts)) w B v rs) (hb : rs.length * 56 ≤ 140737488351232) (hc : ∀ r ∈ rs, RP w (r.v (·.parts)) r.x.parts ∧ okEntry r.x) : RE w v (rs.map (·.x)) :=
  RS.iff (fun b o x hx => (EEntry_iff w b o x).2 hx) (of_raw (OS.reads (cells := xc cEntry (·.parts)) xcEntry_len (by decide) (fun b o r _ hc j u hj => by
    have hlt := (List.getElem?_eq_some_iff.1 hj).1
    rw [hc j (by rw [xcEntry_len] at hlt; exact hlt), hj]) h hb) hc)
theorem far_le {fin : Bool} {i k : Nat} : farK fin i k ≤ k + 1 := by
  unfold farK
  split
  · omega
  · split <;> omega
theorem last_mem {fin : Bool} {i : Nat} {rx : XR Entry} {rs : List (XR Entry)} {Q : XR Entry → Prop} (h : ∀ r ∈ rs, Q r) (hx : Q rx) : ∀ r ∈ lastL fin i rx rs, Q r := by
  unfold lastL
  cases fin with
  | true =>
    intro r hr
    rcases List.mem_or_eq_of_mem_set hr with hr | rfl
    · exact h r hr
    · exact hx
  | false => exact ins_all h hx

set_option maxRecDepth 100000 in
set_option maxHeartbeats 2000000 in
theorem ref_EntriesPut' (v dv : Value) (l : List Entry) (x : Entry) (w : World) (h : RE w v l) (g : RP w dv x.parts) (hx : FitEntry x) (z z2 : Int)
    (hch : ∀ w, RE w v l → Calls Try.prog 78 #[v] w fun e w' => e = .returned (.int .i64 z) ∧ Below w.heap.size w w')
    (hch2 : ∀ v w, RE w v (putL x l) → Calls Try.prog 78 #[v] w fun e w' => e = .returned (.int .i64 z2) ∧ Below w.heap.size w w')
    (hris : z = 0 → Rising (fun x : Entry => x.key) l ∧ l.length ≤ 10) :
    Calls Try.prog 19 #[v, .agg #[.string x.key, dv, .int .i64 x.pins, .int .i64 x.stamp]] w (EnRes (putErr z z2) (putL x l) w) := by
  obtain ⟨i0, ii0, hz0, hz1, hz2'⟩ := info_parts info_E
  replace hch := hid hch
  replace hch2 := hid hch2
  have hR := hid h
  have hP := hid g
  have hfit := hid (fit_E h)
  have hraw := raw_E h
  obtain ⟨a, c, rfl, hlc, hcm, hre, hno, -⟩ := h
  obtain ⟨da, dc, rfl, -⟩ := g
  unfold maxLen at hcm
  clear hno
  have hb0 := hid (b_alloc (Below.refl w.heap.size w) (Obj.cells #[.string x.key, .slice da x.parts.length dc, .int .i64 x.pins, .int .i64 x.stamp] 31))
  have hq0 := hid (heap_alloc_new w (Obj.cells #[.string x.key, .slice da x.parts.length dc, .int .i64 x.pins, .int .i64 x.stamp] 31))
  by_cases hz : z = 0
  · subst hz
    have hd := hid (putErr_rest z2)
    obtain ⟨hri, h10⟩ := hris rfl
    obtain ⟨rs, rfl, hrr, hrc⟩ := hraw
    rw [List.length_map] at h10 hlc hre
    have hlow := lowAt_le (fun x : Entry => x.key) x.key (rs.map (·.x))
    rw [List.length_map] at hlow
    have hmap : ∀ j (r : XR Entry), rs[j]? = some r → (rs.map (·.x))[j]? = some r.x := fun j r hr => by rw [List.getElem?_map, hr]; rfl
    have hbef := hid (fun j (r : XR Entry) (hj : j < lowAt (fun x : Entry => x.key) x.key (rs.map (·.x))) (hr : rs[j]? = some r) => lowAt_before hj (hmap j r hr))
    have hbeh := hid (fun j (r : XR Entry) (hj : lowAt (fun x : Entry => x.key) x.key (rs.map (·.x)) ≤ j) (hr : rs[j]? = some r) => lowAt_behind hri hj (hmap j r hr))
    have hnex := hid (fun j (r : XR Entry) (hj : lowAt (fun x : Entry => x.key) x.key (rs.map (·.x)) < j) (hr : rs[j]? = some r) => lowAt_next hri hj (hmap j r hr))
    have hsome := hid (fun h : hasKey (fun x : Entry => x.key) x.key (rs.map (·.x)) = true => hasKey_at h)
    have hnok := hid (fun (h : hasKey (fun x : Entry => x.key) x.key (rs.map (·.x)) = false) j (r : XR Entry) (hr : rs[j]? = some r) => hasKey_no hri h (hmap j r hr))
    have hput := hid (fun y h (hy : (rs.map (·.x))[lowAt (fun x : Entry => x.key) x.key (rs.map (·.x))]? = some y) => putL_has (x := x) h hy)
    have hnot := hid (fun h => putL_no (x := x) (l := rs.map (·.x)) h)
    generalize putErr 0 z2 = err at *
    generalize putL x (rs.map (·.x)) = L at *
    generalize lowAt (fun x : Entry => x.key) x.key (rs.map (·.x)) = i at *
    generalize hasKey (fun x : Entry => x.key) x.key (rs.map (·.x)) = fin at *
    obtain ⟨p, hp1, hp0, hpw, hLm⟩ : ∃ p, (fin = true → i < rs.length ∧ ∀ r : XR Entry, rs[i]? = some r → r.x.key = x.key ∧ r.x.pins = p) ∧ (fin = false → p = x.pins) ∧ (Lit.int .i64 p).wf = true ∧ L = (lastL fin i (⟨{ x with pins := p }, da, dc⟩ : XR Entry) rs).map (·.x) := by
      cases fin with
      | true =>
        obtain ⟨y, hy, hyk⟩ := hsome.out rfl
        have hy' := hy
        rw [List.getElem?_map] at hy'
        obtain ⟨r0, hr0, rfl⟩ := Option.map_eq_some_iff.1 hy'
        refine ⟨r0.x.pins, fun _ => ⟨(List.getElem?_eq_some_iff.1 hr0).1, fun r hr => ?_⟩, (fun h => by cases h), (hfit.out _ (List.mem_of_getElem? hy)).1.2.1, ?_⟩
        · rw [hr0] at hr; obtain rfl := Option.some.inj hr; exact ⟨hyk, rfl⟩
        · rw [hput.out _ rfl hy]; unfold lastL; rw [if_pos rfl, List.map_set]
      | false =>
        refine ⟨x.pins, (fun h => by cases h), (fun _ => rfl), hx.1.2.1, ?_⟩
        rw [hnot.out rfl]; unfold lastL; rw [if_neg (by decide), List.map_append, List.map_cons, List.map_take, List.map_drop]
    have hfull : (lastL fin i (⟨{ x with pins := p }, da, dc⟩ : XR Entry) rs).length ≤ rs.length + 1 := by
      unfold lastL
      split
      · rw [List.length_set]; omega
      · rw [ins_len hlow]; omega
    replace hp1 := hid hp1
    replace hp0 := hid hp0
    replace hLm := hid hLm
    replace hpw := hid hpw
    replace hrc := hid hrc
    obtain ⟨_, _, hv, -, -, -, -, hat⟩ := hrr
    rw [List.length_map] at hv
    simp only [Value.slice.injEq, true_and] at hv
    obtain ⟨rfl, rfl⟩ := hv
    replace hat := hid hat
    replace hx := hid hx
    have hst : Hid (OS 31 4 (xc cEntry (·.parts)) w (w.heap.size + 1) (.slice none 0 0) ([] : List (XR Entry))) := hid OS.nil
    clear hris hri hsome hput hnot hmap hfit
    simp only [List.length_map] at hch hR ⊢
    go_enter Try.func19, Try.ntmps19
    go_wp2_with fail
    ((with_reducible refine (hch.out _ (hR.out.mono EEntry.stable hb0.out)).mono ?_); rintro e w1 ⟨rfl, b1⟩)
    have hq1 := hid (stays b1 hq0.out)
    have hb1 := hid (b_call hb0.out b1)
    clear b1 hb0 hq0 hch
    go_wp2_with fail
    go_loopw [7, 8, 10, 19] (fun o dn _ cnt wr => ∃ k : Nat, k ≤ rs.length ∧ cnt = .int .i64 k ∧ dn = .bool (decide (i < k)) ∧ Hid (OS 31 4 (xc cEntry (·.parts)) wr (w.heap.size + 1) o ((lastL fin i (⟨{ x with pins := p }, da, dc⟩ : XR Entry) rs).take (farK fin i k))) ∧ Hid (Below w.heap.size w wr) ∧
      Hid (wr.heap[w.heap.size]? = some (.cells #[.string x.key, .slice da x.parts.length dc, .int .i64 (if i < k then p else x.pins), .int .i64 x.stamp] 31 (0, 0)))) (fun _ _ _ cnt _ => rs.length - (intOf cnt).toNat)
    case atStart =>
      refine ⟨0, by omega, rfl, by simp, hid ?_, hb1, hid (by rw [if_neg (by omega)]; exact hq1.out)⟩
      rw [show farK fin i 0 = 0 by unfold farK; split; rfl; rw [if_pos (by omega)], List.take_zero]
      exact OS.nil
    case round =>
      obtain ⟨k, hk, rfl, rfl, hO, hb, hq⟩ := hrel
      by_cases hlt : k < rs.length
      · have hr : rs[k]? = some rs[k] := List.getElem?_eq_getElem hlt
        generalize rs[k] = r at hr
        obtain ⟨bb, off, rfl, hbb, he⟩ := hat.out k r hr
        have he' := ERaw.stable _ _ _ _ _ hb.out hbb he
        have c0 := he' 0 _ rfl
        have c1 : wr.cell? ⟨bb, off + k * 4 + 1, none⟩ = some (.slice r.a r.x.parts.length r.c) := he' 1 _ rfl
        have c2 := he' 2 _ rfl
        have c3 := he' 3 _ rfl
        rw [Nat.add_zero] at c0
        have hbw : bb < wr.heap.size := Nat.lt_of_lt_of_le hbb hb.out.size
        have hqw := heap_lt hq.out
        have hbq : bb ≠ w.heap.size := by omega
        have hfar := far_le (fin := fin) (i := i) (k := k)
        clear he he'
        rcases Nat.lt_trichotomy k i with hki | hki | hki
        · have hn := hid (last_low (fin := fin) (rx := (⟨{ x with pins := p }, da, dc⟩ : XR Entry)) hki hr)
          have hTl : ((lastL fin i (⟨{ x with pins := p }, da, dc⟩ : XR Entry) rs).take (farK fin i k)).length ≤ 12 := by rw [List.length_take]; omega
          have hnx := hid (show (lastL fin i (⟨{ x with pins := p }, da, dc⟩ : XR Entry) rs).take (farK fin i (k + 1)) = (lastL fin i (⟨{ x with pins := p }, da, dc⟩ : XR Entry) rs).take (farK fin i k) ++ [r] by rw [hn.out.2, take_next hn.out.1])
          rw [show (if i < k then p else x.pins) = x.pins from if_neg (by omega)] at hq
          have hpk1 := hid (show (if i < k + 1 then p else x.pins) = x.pins from if_neg (by omega))
          generalize (lastL fin i (⟨{ x with pins := p }, da, dc⟩ : XR Entry) rs).take (farK fin i k) = TK at *
          have hsl := hbef.out k r hki hr
          have q1 : Op.bytesLess r.x.key.toList x.key.toList = true := hsl
          have q2 : (r.x.key.toList == x.key.toList) = false := by
            cases hh : (r.x.key.toList == x.key.toList) with
            | false => rfl
            | true => rw [key_eq.1 hh, slt_irrefl] at hsl; cases hsl
          clear hsl
          have qd : decide (i < k) = false := by simp; omega
          obtain ⟨x0, x1, x2, x3⟩ := box4f hq.out
          clear hn hbef hbeh hnex hnok

          have hown3 := hid (OS.alloc (OS.alloc hO.out (Obj.cells #[.string r.x.key, .slice r.a r.x.parts.length r.c, .int .i64 r.x.pins, .int .i64 r.x.stamp] 31)) (Obj.cells #[.string r.x.key, .slice r.a r.x.parts.length r.c, .int .i64 r.x.pins, .int .i64 r.x.stamp] 31))
          have hrow3 := hid (row_one (s := 4) (bs := 56) (cells := xc cEntry (·.parts)) (wr.alloc (Obj.cells #[.string r.x.key, .slice r.a r.x.parts.length r.c, .int .i64 r.x.pins, .int .i64 r.x.stamp] 31)) 31 r #[.string r.x.key, .slice r.a r.x.parts.length r.c, .int .i64 r.x.pins, .int .i64 r.x.stamp] (wr.heap.size + 1) (by simp) rfl (by decide))
          have hba3 := hid (b_alloc (b_alloc hb.out (Obj.cells #[.string r.x.key, .slice r.a r.x.parts.length r.c, .int .i64 r.x.pins, .int .i64 r.x.stamp] 31)) (Obj.cells #[.string r.x.key, .slice r.a r.x.parts.length r.c, .int .i64 r.x.pins, .int .i64 r.x.stamp] 31))
          have hqa3 := hid ((heap_alloc_old (wr.alloc (Obj.cells #[.string r.x.key, .slice r.a r.x.parts.length r.c, .int .i64 r.x.pins, .int .i64 r.x.stamp] 31)) (Obj.cells #[.string r.x.key, .slice r.a r.x.parts.length r.c, .int .i64 r.x.pins, .int .i64 r.x.stamp] 31) (heap_lt ((heap_alloc_old wr (Obj.cells #[.string r.x.key, .slice r.a r.x.parts.length r.c, .int .i64 r.x.pins, .int .i64 r.x.stamp] 31) (heap_lt hq.out)).trans hq.out))).trans ((heap_alloc_old wr (Obj.cells #[.string r.x.key, .slice r.a r.x.parts.length r.c, .int .i64 r.x.pins, .int .i64 r.x.stamp] 31) (heap_lt hq.out)).trans hq.out))
          have hsz3 : w.heap.size + 1 ≤ ((wr.alloc (Obj.cells #[.string r.x.key, .slice r.a r.x.parts.length r.c, .int .i64 r.x.pins, .int .i64 r.x.stamp] 31)).alloc (Obj.cells #[.string r.x.key, .slice r.a r.x.parts.length r.c, .int .i64 r.x.pins, .int .i64 r.x.stamp] 31)).heap.size := heap_lt hqa3.out
          go_wp2_with (at_builtin; go_must (refine wpL_append flat_cEntry (by rfl) (.tmp 49) (.tmp 51) 28 (by rfl) 31 i0 _ Try.underlying28 ii0 hz0 hz1 hz2' rfl (w.heap.size + 1) _ TK (by rfl) hown3.out _ [r] (by rfl) hrow3.out (by simp; omega) (by simp [maxLen]; omega) hsz3 ?_))
          intro v3 w3 hO3 hg3
          have hq3 := hid (xbox_stays hqa3.out hg3 (OS.block hown3.out))
          have hb3 := hid (hba3.out.grown hg3 (by omega) (fun k hk => Nat.le_trans (Nat.le_succ _) (OS.block hown3.out k hk)))
          replace hO3 := hid hO3
          clear hg3 hown3 hrow3 hba3 hqa3 hsz3

          have hO4 := hid (show OS 31 4 (xc cEntry (·.parts)) w3 (w.heap.size + 1) v3 ((lastL fin i (⟨{ x with pins := p }, da, dc⟩ : XR Entry) rs).take (farK fin i (k + 1))) by rw [hnx.out]; exact hO3.out)
          have hq4 := hid (show w3.heap[w.heap.size]? = some (.cells #[.string x.key, .slice da x.parts.length dc, .int .i64 (if i < k + 1 then p else x.pins), .int .i64 x.stamp] 31 (0, 0)) by rw [hpk1.out]; exact hq3.out)
          clear hO3 hq3 hnx hpk1 hO hb hq x0 x1 x2 x3 c0 c1 c2 c3
          go_wp2_with fail
          go_roundw
          case rel => exact ⟨k + 1, by omega, by go_num, by simp; omega, hO4, hb3, hq4⟩
          case measure => simp [intOf]; omega
        · subst hki
          rw [show (if k < k then p else x.pins) = x.pins from if_neg (by omega)] at hq
          have q1 : Op.bytesLess r.x.key.toList x.key.toList = false := hbeh.out k r (Nat.le_refl _) hr
          have qd : decide (k < k) = false := by simp
          have hpk1 := hid (show (if k < k + 1 then p else x.pins) = p from if_pos (by omega))
          obtain ⟨x0, x1, x2, x3⟩ := box4f hq.out
          have g2 := frozen_heap hq.out 2
          cases fin with
          | true =>
            have hn := hid (last_here (rx := (⟨{ x with pins := p }, da, dc⟩ : XR Entry)) hr)
            have hTl : ((lastL true k (⟨{ x with pins := p }, da, dc⟩ : XR Entry) rs).take (farK true k k)).length ≤ 12 := by rw [List.length_take]; omega
            have hnx := hid (show (lastL true k (⟨{ x with pins := p }, da, dc⟩ : XR Entry) rs).take (farK true k (k + 1)) = (lastL true k (⟨{ x with pins := p }, da, dc⟩ : XR Entry) rs).take (farK true k k) ++ [(⟨{ x with pins := p }, da, dc⟩ : XR Entry)] by rw [hn.out.2, take_next hn.out.1])
            generalize (lastL true k (⟨{ x with pins := p }, da, dc⟩ : XR Entry) rs).take (farK true k k) = TK at *
            obtain ⟨hkx, hpx⟩ := (hp1.out rfl).2 r hr
            have q2 : (r.x.key.toList == x.key.toList) = true := key_eq.2 hkx
            rw [hpx] at c2
            clear hkx hpx hn hbef hbeh hnex hnok
            have hown3 := hid (OS.alloc (OS.alloc (OS.setOld (q := w.heap.size) (o := 2) (u := .int .i64 p) hO.out (Nat.lt_succ_self _)) (Obj.cells #[.string r.x.key, .slice r.a r.x.parts.length r.c, .int .i64 p, .int .i64 r.x.stamp] 31)) (Obj.cells #[.string x.key, .slice da x.parts.length dc, .int .i64 p, .int .i64 x.stamp] 31))
            have hrow3 := hid (row_one (s := 4) (bs := 56) (cells := xc cEntry (·.parts)) ((wr.setCell ⟨w.heap.size, 2, none⟩ (.int .i64 p)).alloc (Obj.cells #[.string r.x.key, .slice r.a r.x.parts.length r.c, .int .i64 p, .int .i64 r.x.stamp] 31)) 31 (⟨{ x with pins := p }, da, dc⟩ : XR Entry) #[.string x.key, .slice da x.parts.length dc, .int .i64 p, .int .i64 x.stamp] (wr.heap.size + 1) (by simp [World.setCell]) rfl (by decide))
            have hba3 := hid (b_alloc (b_alloc (b_set hb.out (p := ⟨w.heap.size, 2, none⟩) (Nat.le_refl _) (.int .i64 p)) (Obj.cells #[.string r.x.key, .slice r.a r.x.parts.length r.c, .int .i64 p, .int .i64 r.x.stamp] 31)) (Obj.cells #[.string x.key, .slice da x.parts.length dc, .int .i64 p, .int .i64 x.stamp] 31))
            have hqa3 := hid ((heap_alloc_old ((wr.setCell ⟨w.heap.size, 2, none⟩ (.int .i64 p)).alloc (Obj.cells #[.string r.x.key, .slice r.a r.x.parts.length r.c, .int .i64 p, .int .i64 r.x.stamp] 31)) (Obj.cells #[.string x.key, .slice da x.parts.length dc, .int .i64 p, .int .i64 x.stamp] 31) (heap_lt ((heap_alloc_old (wr.setCell ⟨w.heap.size, 2, none⟩ (.int .i64 p)) (Obj.cells #[.string r.x.key, .slice r.a r.x.parts.length r.c, .int .i64 p, .int .i64 r.x.stamp] 31) (heap_lt (xbox_pins (u := .int .i64 p) hq.out))).trans (xbox_pins (u := .int .i64 p) hq.out)))).trans ((heap_alloc_old (wr.setCell ⟨w.heap.size, 2, none⟩ (.int .i64 p)) (Obj.cells #[.string r.x.key, .slice r.a r.x.parts.length r.c, .int .i64 p, .int .i64 r.x.stamp] 31) (heap_lt (xbox_pins (u := .int .i64 p) hq.out))).trans (xbox_pins (u := .int .i64 p) hq.out)))
            have hsz3 : w.heap.size + 1 ≤ (((wr.setCell ⟨w.heap.size, 2, none⟩ (.int .i64 p)).alloc (Obj.cells #[.string r.x.key, .slice r.a r.x.parts.length r.c, .int .i64 p, .int .i64 r.x.stamp] 31)).alloc (Obj.cells #[.string x.key, .slice da x.parts.length dc, .int .i64 p, .int .i64 x.stamp] 31)).heap.size := heap_lt hqa3.out
            go_wp2_with (at_builtin; go_must (refine wpL_append flat_cEntry (by rfl) (.tmp 40) (.tmp 42) 28 (by rfl) 31 i0 _ Try.underlying28 ii0 hz0 hz1 hz2' rfl (w.heap.size + 1) _ TK (by rfl) hown3.out _ [(⟨{ x with pins := p }, da, dc⟩ : XR Entry)] (by rfl) hrow3.out (by simp; omega) (by simp [maxLen]; omega) hsz3 ?_))
            intro v3 w3 hO3 hg3
            have hq3 := hid (xbox_stays hqa3.out hg3 (OS.block hown3.out))
            have hb3 := hid (hba3.out.grown hg3 (by omega) (fun k hk => Nat.le_trans (Nat.le_succ _) (OS.block hown3.out k hk)))
            replace hO3 := hid hO3
            have hy3 := (hg3.5 wr.heap.size (by simp [World.setCell]; omega) (fun e => Nat.lt_irrefl _ (OS.lt hO.out wr.heap.size e.symm))).trans ((heap_alloc_old ((wr.setCell ⟨w.heap.size, 2, none⟩ (.int .i64 p)).alloc (Obj.cells #[.string r.x.key, .slice r.a r.x.parts.length r.c, .int .i64 p, .int .i64 r.x.stamp] 31)) (Obj.cells #[.string x.key, .slice da x.parts.length dc, .int .i64 p, .int .i64 x.stamp] 31) (by simp [World.setCell])).trans (heap_new (by simp [World.setCell])))
            clear hg3 hown3 hrow3 hba3 hqa3 hsz3

            have hO4 := hid (show OS 31 4 (xc cEntry (·.parts)) w3 (w.heap.size + 1) v3 ((lastL true k (⟨{ x with pins := p }, da, dc⟩ : XR Entry) rs).take (farK true k (k + 1))) by rw [hnx.out]; exact hO3.out)
            have hq4 := hid (show w3.heap[w.heap.size]? = some (.cells #[.string x.key, .slice da x.parts.length dc, .int .i64 (if k < k + 1 then p else x.pins), .int .i64 x.stamp] 31 (0, 0)) by rw [hpk1.out]; exact hq3.out)
            obtain ⟨y0, y1, y2, y3⟩ := box4f hy3
            have hyl := heap_lt hy3
            clear hO3 hq3 hnx hpk1 hO hb hq x1 x2 x3 c0 c1 c2 c3 hy3 x0
            obtain ⟨x0, x1, x2, x3⟩ := box4f hq4.out
            go_wp2_with fail
            go_roundw
            case rel => exact ⟨k + 1, by omega, by go_num, by simp, hO4, hb3, hq4⟩
            case measure => simp [intOf]; omega
          | false =>
            obtain rfl := hp0.out rfl
            have hn1 := hid (last_new (rx := (⟨{ x with pins := x.pins }, da, dc⟩ : XR Entry)) hlow)
            have hn2 := hid (last_new2 (rx := (⟨{ x with pins := x.pins }, da, dc⟩ : XR Entry)) hr)
            have hTl : ((lastL false k (⟨{ x with pins := x.pins }, da, dc⟩ : XR Entry) rs).take (farK false k k)).length ≤ 12 := by rw [List.length_take]; omega
            have hnx := hid (show (lastL false k (⟨{ x with pins := x.pins }, da, dc⟩ : XR Entry) rs).take (farK false k (k + 1)) = (lastL false k (⟨{ x with pins := x.pins }, da, dc⟩ : XR Entry) rs).take (farK false k k) ++ [(⟨{ x with pins := x.pins }, da, dc⟩ : XR Entry)] ++ [r] by rw [hn2.out.2, take_next hn2.out.1, take_next hn1.out])
            generalize (lastL false k (⟨{ x with pins := x.pins }, da, dc⟩ : XR Entry) rs).take (farK false k k) = TK at *
            have hne := hnok.out rfl k r hr
            have q2 : (r.x.key.toList == x.key.toList) = false := by
              cases hh : (r.x.key.toList == x.key.toList) with
              | false => rfl
              | true => exact absurd (key_eq.1 hh) hne
            clear hne hn1 hn2 hbef hbeh hnex hnok
            have hown3 := hid (OS.alloc (OS.alloc hO.out (Obj.cells #[.string r.x.key, .slice r.a r.x.parts.length r.c, .int .i64 r.x.pins, .int .i64 r.x.stamp] 31)) (Obj.cells #[.string x.key, .slice da x.parts.length dc, .int .i64 x.pins, .int .i64 x.stamp] 31))
            have hrow3 := hid (row_one (s := 4) (bs := 56) (cells := xc cEntry (·.parts)) (wr.alloc (Obj.cells #[.string r.x.key, .slice r.a r.x.parts.length r.c, .int .i64 r.x.pins, .int .i64 r.x.stamp] 31)) 31 (⟨{ x with pins := x.pins }, da, dc⟩ : XR Entry) #[.string x.key, .slice da x.parts.length dc, .int .i64 x.pins, .int .i64 x.stamp] (wr.heap.size + 1) (by simp) rfl (by decide))
            have hba3 := hid (b_alloc (b_alloc hb.out (Obj.cells #[.string r.x.key, .slice r.a r.x.parts.length r.c, .int .i64 r.x.pins, .int .i64 r.x.stamp] 31)) (Obj.cells #[.string x.key, .slice da x.parts.length dc, .int .i64 x.pins, .int .i64 x.stamp] 31))
            have hqa3 := hid ((heap_alloc_old (wr.alloc (Obj.cells #[.string r.x.key, .slice r.a r.x.parts.length r.c, .int .i64 r.x.pins, .int .i64 r.x.stamp] 31)) (Obj.cells #[.string x.key, .slice da x.parts.length dc, .int .i64 x.pins, .int .i64 x.stamp] 31) (heap_lt ((heap_alloc_old wr (Obj.cells #[.string r.x.key, .slice r.a r.x.parts.length r.c, .int .i64 r.x.pins, .int .i64 r.x.stamp] 31) (heap_lt hq.out)).trans hq.out))).trans ((heap_alloc_old wr (Obj.cells #[.string r.x.key, .slice r.a r.x.parts.length r.c, .int .i64 r.x.pins, .int .i64 r.x.stamp] 31) (heap_lt hq.out)).trans hq.out))
            have hsz3 : w.heap.size + 1 ≤ ((wr.alloc (Obj.cells #[.string r.x.key, .slice r.a r.x.parts.length r.c, .int .i64 r.x.pins, .int .i64 r.x.stamp] 31)).alloc (Obj.cells #[.string x.key, .slice da x.parts.length dc, .int .i64 x.pins, .int .i64 x.stamp] 31)).heap.size := heap_lt hqa3.out
            go_wp2_with (at_builtin; go_must (refine wpL_append flat_cEntry (by rfl) (.tmp 40) (.tmp 42) 28 (by rfl) 31 i0 _ Try.underlying28 ii0 hz0 hz1 hz2' rfl (w.heap.size + 1) _ TK (by rfl) hown3.out _ [(⟨{ x with pins := x.pins }, da, dc⟩ : XR Entry)] (by rfl) hrow3.out (by simp; omega) (by simp [maxLen]; omega) hsz3 ?_))
            intro v3 w3 hO3 hg3
            have hq3 := hid (xbox_stays hqa3.out hg3 (OS.block hown3.out))
            have hb3 := hid (hba3.out.grown hg3 (by omega) (fun k hk => Nat.le_trans (Nat.le_succ _) (OS.block hown3.out k hk)))
            replace hO3 := hid hO3
            have hy3 := (hg3.5 wr.heap.size (by simp; omega) (fun e => Nat.lt_irrefl _ (OS.lt hO.out wr.heap.size e.symm))).trans ((heap_alloc_old (wr.alloc (Obj.cells #[.string r.x.key, .slice r.a r.x.parts.length r.c, .int .i64 r.x.pins, .int .i64 r.x.stamp] 31)) (Obj.cells #[.string x.key, .slice da x.parts.length dc, .int .i64 x.pins, .int .i64 x.stamp] 31) (by simp)).trans (heap_alloc_new wr (Obj.cells #[.string r.x.key, .slice r.a r.x.parts.length r.c, .int .i64 r.x.pins, .int .i64 r.x.stamp] 31)))
            clear hg3 hown3 hrow3 hba3 hqa3 hsz3

            obtain ⟨y0, y1, y2, y3⟩ := box4f hy3
            clear x0 x1 x2 x3
            obtain ⟨x0, x1, x2, x3⟩ := box4f hq3.out
            have hyl := heap_lt hy3
            have hql := heap_lt hq3.out
            have hown4 := hid (OS.alloc hO3.out (Obj.cells #[.string r.x.key, .slice r.a r.x.parts.length r.c, .int .i64 r.x.pins, .int .i64 r.x.stamp] 31))
            have hrow4 := hid (row_one (s := 4) (bs := 56) (cells := xc cEntry (·.parts)) w3 31 r #[.string r.x.key, .slice r.a r.x.parts.length r.c, .int .i64 r.x.pins, .int .i64 r.x.stamp] w3.heap.size rfl rfl (by decide))
            have hba4 := hid (b_alloc hb3.out (Obj.cells #[.string r.x.key, .slice r.a r.x.parts.length r.c, .int .i64 r.x.pins, .int .i64 r.x.stamp] 31))
            have hqa4 := hid ((heap_alloc_old w3 (Obj.cells #[.string r.x.key, .slice r.a r.x.parts.length r.c, .int .i64 r.x.pins, .int .i64 r.x.stamp] 31) (heap_lt hq3.out)).trans hq3.out)
            have hsz4 : w.heap.size + 1 ≤ (w3.alloc (Obj.cells #[.string r.x.key, .slice r.a r.x.parts.length r.c, .int .i64 r.x.pins, .int .i64 r.x.stamp] 31)).heap.size := heap_lt hqa4.out
            go_wp2_with (at_builtin; go_must (refine wpL_append flat_cEntry (by rfl) (.tmp 49) (.tmp 51) 28 (by rfl) 31 i0 _ Try.underlying28 ii0 hz0 hz1 hz2' rfl (w.heap.size + 1) _ (TK ++ [(⟨{ x with pins := x.pins }, da, dc⟩ : XR Entry)]) (by rfl) hown4.out _ [r] (by rfl) hrow4.out (by simp; omega) (by simp [maxLen]; omega) hsz4 ?_))
            intro v4 w4 hO4 hg4
            have hq4 := hid (xbox_stays hqa4.out hg4 (OS.block hown4.out))
            have hb4 := hid (hba4.out.grown hg4 (by omega) (fun k hk => Nat.le_trans (Nat.le_succ _) (OS.block hown4.out k hk)))
            replace hO4 := hid hO4
            clear hg4 hown4 hrow4 hba4 hqa4 hsz4

            have hO5 := hid (show OS 31 4 (xc cEntry (·.parts)) w4 (w.heap.size + 1) v4 ((lastL false k (⟨{ x with pins := x.pins }, da, dc⟩ : XR Entry) rs).take (farK false k (k + 1))) by rw [hnx.out]; simpa using hO4.out)
            have hq5 := hid (show w4.heap[w.heap.size]? = some (.cells #[.string x.key, .slice da x.parts.length dc, .int .i64 (if k < k + 1 then x.pins else x.pins), .int .i64 x.stamp] 31 (0, 0)) by rw [hpk1.out]; exact hq4.out)
            clear hO3 hq3 hO4 hq4 hnx hpk1 hO hb hq x0 x1 x2 x3 c0 c1 c2 c3 y0 y1 y2 y3 hy3
            go_wp2_with fail
            go_roundw
            case rel => exact ⟨k + 1, by omega, by go_num, by simp, hO5, hb4, hq5⟩
            case measure => simp [intOf]; omega
        · have hn := hid (last_high (fin := fin) (rx := (⟨{ x with pins := p }, da, dc⟩ : XR Entry)) hki hr)
          have hTl : ((lastL fin i (⟨{ x with pins := p }, da, dc⟩ : XR Entry) rs).take (farK fin i k)).length ≤ 12 := by rw [List.length_take]; omega
          have hnx := hid (show (lastL fin i (⟨{ x with pins := p }, da, dc⟩ : XR Entry) rs).take (farK fin i (k + 1)) = (lastL fin i (⟨{ x with pins := p }, da, dc⟩ : XR Entry) rs).take (farK fin i k) ++ [r] by rw [hn.out.2, take_next hn.out.1])
          rw [show (if i < k then p else x.pins) = p from if_pos hki] at hq
          have hpk1 := hid (show (if i < k + 1 then p else x.pins) = p from if_pos (by omega))
          generalize (lastL fin i (⟨{ x with pins := p }, da, dc⟩ : XR Entry) rs).take (farK fin i k) = TK at *
          have hsl := hnex.out k r hki hr
          have q1 : Op.bytesLess r.x.key.toList x.key.toList = false := hbeh.out k r (Nat.le_of_lt hki) hr
          have q2 : (r.x.key.toList == x.key.toList) = false := by
            cases hh : (r.x.key.toList == x.key.toList) with
            | false => rfl
            | true => rw [key_eq.1 hh, slt_irrefl] at hsl; cases hsl
          clear hsl
          have qd : decide (i < k) = true := by simp; omega
          obtain ⟨x0, x1, x2, x3⟩ := box4f hq.out
          clear hn hbef hbeh hnex hnok

          have hown3 := hid (OS.alloc (OS.alloc hO.out (Obj.cells #[.string r.x.key, .slice r.a r.x.parts.length r.c, .int .i64 r.x.pins, .int .i64 r.x.stamp] 31)) (Obj.cells #[.string r.x.key, .slice r.a r.x.parts.length r.c, .int .i64 r.x.pins, .int .i64 r.x.stamp] 31))
          have hrow3 := hid (row_one (s := 4) (bs := 56) (cells := xc cEntry (·.parts)) (wr.alloc (Obj.cells #[.string r.x.key, .slice r.a r.x.parts.length r.c, .int .i64 r.x.pins, .int .i64 r.x.stamp] 31)) 31 r #[.string r.x.key, .slice r.a r.x.parts.length r.c, .int .i64 r.x.pins, .int .i64 r.x.stamp] (wr.heap.size + 1) (by simp) rfl (by decide))
          have hba3 := hid (b_alloc (b_alloc hb.out (Obj.cells #[.string r.x.key, .slice r.a r.x.parts.length r.c, .int .i64 r.x.pins, .int .i64 r.x.stamp] 31)) (Obj.cells #[.string r.x.key, .slice r.a r.x.parts.length r.c, .int .i64 r.x.pins, .int .i64 r.x.stamp] 31))
          have hqa3 := hid ((heap_alloc_old (wr.alloc (Obj.cells #[.string r.x.key, .slice r.a r.x.parts.length r.c, .int .i64 r.x.pins, .int .i64 r.x.stamp] 31)) (Obj.cells #[.string r.x.key, .slice r.a r.x.parts.length r.c, .int .i64 r.x.pins, .int .i64 r.x.stamp] 31) (heap_lt ((heap_alloc_old wr (Obj.cells #[.string r.x.key, .slice r.a r.x.parts.length r.c, .int .i64 r.x.pins, .int .i64 r.x.stamp] 31) (heap_lt hq.out)).trans hq.out))).trans ((heap_alloc_old wr (Obj.cells #[.string r.x.key, .slice r.a r.x.parts.length r.c, .int .i64 r.x.pins, .int .i64 r.x.stamp] 31) (heap_lt hq.out)).trans hq.out))
          have hsz3 : w.heap.size + 1 ≤ ((wr.alloc (Obj.cells #[.string r.x.key, .slice r.a r.x.parts.length r.c, .int .i64 r.x.pins, .int .i64 r.x.stamp] 31)).alloc (Obj.cells #[.string r.x.key, .slice r.a r.x.parts.length r.c, .int .i64 r.x.pins, .int .i64 r.x.stamp] 31)).heap.size := heap_lt hqa3.out
          go_wp2_with (at_builtin; go_must (refine wpL_append flat_cEntry (by rfl) (.tmp 49) (.tmp 51) 28 (by rfl) 31 i0 _ Try.underlying28 ii0 hz0 hz1 hz2' rfl (w.heap.size + 1) _ TK (by rfl) hown3.out _ [r] (by rfl) hrow3.out (by simp; omega) (by simp [maxLen]; omega) hsz3 ?_))
          intro v3 w3 hO3 hg3
          have hq3 := hid (xbox_stays hqa3.out hg3 (OS.block hown3.out))
          have hb3 := hid (hba3.out.grown hg3 (by omega) (fun k hk => Nat.le_trans (Nat.le_succ _) (OS.block hown3.out k hk)))
          replace hO3 := hid hO3
          clear hg3 hown3 hrow3 hba3 hqa3 hsz3

          have hO4 := hid (show OS 31 4 (xc cEntry (·.parts)) w3 (w.heap.size + 1) v3 ((lastL fin i (⟨{ x with pins := p }, da, dc⟩ : XR Entry) rs).take (farK fin i (k + 1))) by rw [hnx.out]; exact hO3.out)
          have hq4 := hid (show w3.heap[w.heap.size]? = some (.cells #[.string x.key, .slice da x.parts.length dc, .int .i64 (if i < k + 1 then p else x.pins), .int .i64 x.stamp] 31 (0, 0)) by rw [hpk1.out]; exact hq3.out)
          clear hO3 hq3 hnx hpk1 hO hb hq x0 x1 x2 x3 c0 c1 c2 c3
          go_wp2_with fail
          go_roundw
          case rel => exact ⟨k + 1, by omega, by go_num, by simp; omega, hO4, hb3, hq4⟩
          case measure => simp [intOf]; omega
      · obtain rfl : k = rs.length := by omega
        have hqw := heap_lt hq.out
        clear hbef hbeh hnex hnok hat
        by_cases hdn : i < rs.length
        · have qd : decide (i < rs.length) = true := by simp [hdn]
          have hall := hid (show (lastL fin i (⟨{ x with pins := p }, da, dc⟩ : XR Entry) rs).take (farK fin i rs.length) = lastL fin i (⟨{ x with pins := p }, da, dc⟩ : XR Entry) rs from List.take_of_length_le (by
            unfold lastL farK
            cases fin with
            | true => simp
            | false => simp only [Bool.false_eq_true, if_false]; rw [ins_len hlow, if_neg (by omega)]; omega))
          rw [hall.out] at hO
          have hlen : (lastL fin i (⟨{ x with pins := p }, da, dc⟩ : XR Entry) rs).length ≤ 12 := by omega
          clear hall
          have hrd := hid (show RE wr _ L by
            rw [hLm.out]
            refine raw_reads hO.out (by omega) (last_mem (fun q hq => ?_) ?_)
            · exact ⟨(hrc.out q hq).1.mono EPart.stable hb.out, (hrc.out q hq).2⟩
            · exact ⟨hP.out.mono EPart.stable hb.out, ⟨hx.out.1.1, hpw.out, hx.out.1.2.2⟩⟩)
          clear hO
          go_wp2_with fail
          ((with_reducible refine (hch2.out _ _ hrd.out).mono ?_); rintro e w8 ⟨rfl, b8⟩)
          have r8 := hid (hrd.out.mono EEntry.stable b8)
          have hb8 := hid (b_call hb.out b8)
          clear b8
          by_cases hz2 : z2 = 0
          · subst hz2
            go_wp2_with fail
            ((with_reducible refine (ref_EntriesCopy _ L w8 r8.out).mono ?_); rintro e w9 ⟨v9, rfl, o9, b9⟩)
            have hb9 := hid (b_call hb8.out b9)
            have hf9 := fit_E r8.out
            obtain ⟨_, _, _, -, -, hre9, -⟩ := id r8.out
            have r9 := hid (o9.toR hre9 hf9)
            clear b9 o9 hf9
            go_wp2_with fail
            go_ret2
            exact en_ok hd.out r9.out hb9.out
          · have ht : (z2 != 0) = true := by simp [hz2]
            replace hz2 := hid hz2
            go_wp2_with fail
            go_ret2
            exact en_no hd.out hz2.out hb8.out

        · have qd : decide (i < rs.length) = false := by simp; omega
          obtain rfl : i = rs.length := by omega
          cases fin with
          | true => exact absurd (hp1.out rfl).1 (Nat.lt_irrefl _)
          | false =>
            obtain rfl := hp0.out rfl
            rw [if_neg (Nat.lt_irrefl _)] at hq
            have hn1 := hid (last_new (rx := (⟨{ x with pins := x.pins }, da, dc⟩ : XR Entry)) (rs := rs) (Nat.le_refl _))
            have hfar : farK false rs.length rs.length = rs.length := by unfold farK; rw [if_neg (by decide), if_pos (Nat.le_refl _)]
            rw [hfar] at hn1 hO
            have hlast := hid (show lastL false rs.length (⟨{ x with pins := x.pins }, da, dc⟩ : XR Entry) rs = (lastL false rs.length (⟨{ x with pins := x.pins }, da, dc⟩ : XR Entry) rs).take rs.length ++ [(⟨{ x with pins := x.pins }, da, dc⟩ : XR Entry)] by
              rw [← take_next hn1.out, List.take_of_length_le]
              unfold lastL; rw [if_neg (by decide), ins_len (Nat.le_refl _)]; omega)
            have hTl : ((lastL false rs.length (⟨{ x with pins := x.pins }, da, dc⟩ : XR Entry) rs).take rs.length).length ≤ 12 := by rw [List.length_take]; omega
            have hlen : (lastL false rs.length (⟨{ x with pins := x.pins }, da, dc⟩ : XR Entry) rs).length ≤ 12 := Nat.le_trans hfull (by omega)
            generalize (lastL false rs.length (⟨{ x with pins := x.pins }, da, dc⟩ : XR Entry) rs).take rs.length = TK at *
            obtain ⟨x0, x1, x2, x3⟩ := box4f hq.out
            have hown3 := hid (OS.alloc hO.out (Obj.cells #[.string x.key, .slice da x.parts.length dc, .int .i64 x.pins, .int .i64 x.stamp] 31))
            have hrow3 := hid (row_one (s := 4) (bs := 56) (cells := xc cEntry (·.parts)) wr 31 (⟨{ x with pins := x.pins }, da, dc⟩ : XR Entry) #[.string x.key, .slice da x.parts.length dc, .int .i64 x.pins, .int .i64 x.stamp] wr.heap.size rfl rfl (by decide))
            have hba3 := hid (b_alloc hb.out (Obj.cells #[.string x.key, .slice da x.parts.length dc, .int .i64 x.pins, .int .i64 x.stamp] 31))
            have hqa3 := hid ((heap_alloc_old wr (Obj.cells #[.string x.key, .slice da x.parts.length dc, .int .i64 x.pins, .int .i64 x.stamp] 31) (heap_lt hq.out)).trans hq.out)
            have hsz3 : w.heap.size + 1 ≤ (wr.alloc (Obj.cells #[.string x.key, .slice da x.parts.length dc, .int .i64 x.pins, .int .i64 x.stamp] 31)).heap.size := heap_lt hqa3.out
            go_wp2_with (at_builtin; go_must (refine wpL_append flat_cEntry (by rfl) (.tmp 56) (.tmp 58) 28 (by rfl) 31 i0 _ Try.underlying28 ii0 hz0 hz1 hz2' rfl (w.heap.size + 1) _ TK (by rfl) hown3.out _ [(⟨{ x with pins := x.pins }, da, dc⟩ : XR Entry)] (by rfl) hrow3.out (by simp; omega) (by simp [maxLen]; omega) hsz3 ?_))
            intro v3 w3 hO3 hg3
            have hq3 := hid (xbox_stays hqa3.out hg3 (OS.block hown3.out))
            have hb3 := hid (hba3.out.grown hg3 (by omega) (fun k hk => Nat.le_trans (Nat.le_succ _) (OS.block hown3.out k hk)))
            replace hO3 := hid hO3
            clear hg3 hown3 hrow3 hba3 hqa3 hsz3

            have hO4 := hid (show OS 31 4 (xc cEntry (·.parts)) w3 (w.heap.size + 1) v3 (lastL false rs.length (⟨{ x with pins := x.pins }, da, dc⟩ : XR Entry) rs) by rw [hlast.out]; exact hO3.out)
            clear hlast hn1 hO3 hO hb hq hq3 x0 x1 x2 x3
            have hrd := hid (show RE w3 _ L by
              rw [hLm.out]
              refine raw_reads hO4.out (by omega) (last_mem (fun q hq => ?_) ?_)
              · exact ⟨(hrc.out q hq).1.mono EPart.stable hb3.out, (hrc.out q hq).2⟩
              · exact ⟨hP.out.mono EPart.stable hb3.out, ⟨hx.out.1.1, hpw.out, hx.out.1.2.2⟩⟩)
            clear hO4
            go_wp2_with fail
            ((with_reducible refine (hch2.out _ _ hrd.out).mono ?_); rintro e w8 ⟨rfl, b8⟩)
            have r8 := hid (hrd.out.mono EEntry.stable b8)
            have hb8 := hid (b_call hb3.out b8)
            clear b8
            by_cases hz2 : z2 = 0
            · subst hz2
              go_wp2_with fail
              ((with_reducible refine (ref_EntriesCopy _ L w8 r8.out).mono ?_); rintro e w9 ⟨v9, rfl, o9, b9⟩)
              have hb9 := hid (b_call hb8.out b9)
              have hf9 := fit_E r8.out
              obtain ⟨_, _, _, -, -, hre9, -⟩ := id r8.out
              have r9 := hid (o9.toR hre9 hf9)
              clear b9 o9 hf9
              go_wp2_with fail
              go_ret2
              exact en_ok hd.out r9.out hb9.out
            · have ht : (z2 != 0) = true := by simp [hz2]
              replace hz2 := hid hz2
              go_wp2_with fail
              go_ret2
              exact en_no hd.out hz2.out hb8.out
  · have ht : (z != 0) = true := by simp [hz]
    have hd := hid (putErr_bad (z2 := z2) hz)
    replace hz := hid hz
    clear hris hraw
    go_enter Try.func19, Try.ntmps19
    go_wp2_with fail
    ((with_reducible refine (hch.out _ (hR.out.mono EEntry.stable hb0.out)).mono ?_); rintro e w1 ⟨rfl, b1⟩)
    have hb1 := hid (b_call hb0.out b1)
    clear b1
    go_wp2_with fail
    go_ret2
    exact en_no hd.out hz.out hb1.out
end Go.Proofs.Ytcbopanekmpllaa
