/-
  The reference's Evicted: what it answers; the law EvictRuns: its walk. Printed by gen_evr.py.
-/
import Derived.Test.YtkbijjglodnfbaaGreatQdEvI
namespace Go.Proofs.YtkbijjglodnfbaaGreat
open Go.RowKit

theorem used_le24 : ∀ (n : Nat) (l : List Blob), l.length ≤ n → n ≤ 24 → (∀ x ∈ l, FitBlob x) → 0 ≤ used l ∧ used l ≤ (l.length : Int) * 140737488351232 := by
  intro n
  induction n with
  | zero =>
    intro l hl _ _
    have h0 : l = [] := List.eq_nil_of_length_eq_zero (by omega)
    subst h0
    exact ⟨Int.le_refl _, Int.le_refl _⟩
  | succ n ih =>
    intro l hl hn hf
    rcases Nat.lt_or_ge n l.length with h1 | h1
    · have hx : l[n]? = some l[n] := List.getElem?_eq_getElem h1
      have h2 := used_snoc l n l[n] hx
      have h3 : l.take (n + 1) = l := List.take_of_length_le (by omega)
      have hfx := hf _ (List.getElem_mem h1)
      obtain ⟨i1, i2⟩ := ih (l.take n) (by rw [List.length_take]; omega) (by omega) (fun x hx => hf x (List.mem_of_mem_take hx))
      rw [List.length_take, Nat.min_eq_left (by omega)] at i2
      have h5 := hfx.2
      rw [h3] at h2
      have h4 : wrap64 (used (l.take n) + (l[n].data.length : Int)) = used (l.take n) + (l[n].data.length : Int) := wrap64_in' (by omega) (by omega)
      rw [h2, h4]
      have h6 : l.length = n + 1 := by omega
      rw [h6]
      constructor
      · omega
      · omega
    · exact ih l h1 (by omega) hf
theorem lack_iff {l : List Blob} {r m : Int} (h : l.length ≤ 24) (hf : ∀ x ∈ l, FitBlob x) (hr : inRoom r m) : IntKind.i64.wrap (used l + m) = used l + m ∧ wrap64 (used l + m) = used l + m ∧ (lackV l r m = 0 ↔ ¬ r < used l + m) := by
  obtain ⟨h1, h2⟩ := used_le24 24 l h (by omega) hf
  obtain ⟨r1, r2, m1, m2⟩ := hr
  have e1 : wrap64 (used l + m) = used l + m := wrap64_in' (by omega) (by omega)
  have e2 : wrap64 (used l + m - r) = used l + m - r := wrap64_in' (by omega) (by omega)
  refine ⟨IntWalk.i64_in _ (by omega), e1, ?_⟩
  unfold lackV
  rw [e1, e2]
  split <;> omega
/-- At the head of the loop. -/
def EvRelR (w : World) (B qo : Nat) (R : EvO) (r t m : Int) (g11 : Value) (wr : World) (E1 : List Entry) : Prop :=
  ∃ (n : Nat) (B1 : List Blob) (G : List ByteArray) (va : Option Addr) (vc : Nat) (ua : Option Addr) (uc : Nat),
    evG r m n B1 E1 G = R ∧ E1.length ≤ n ∧ EvFit B1 E1 G ∧
    wr.heap[qo]? = some (.cells #[.slice va B1.length vc, .slice ua E1.length uc, .int .i64 r, .int .i64 t] 25 (0, 0)) ∧
    wr.heap[w.heap.size + 1]? = some (.cells #[.slice none 0 0, .slice none 0 0, .int .i64 0, .int .i64 0] 25 (0, 0)) ∧
    OBlob wr B (.slice va B1.length vc) B1 ∧ OEntry wr B (.slice ua E1.length uc) E1 ∧ OS 9 1 cStr wr B g11 G ∧ Below w.heap.size w wr

set_option maxRecDepth 100000 in
set_option maxHeartbeats 24000000 in
theorem ref_Evicted' (v u : Value) (bs : List Blob) (es : List Entry) (r t m : Int) (w : World) (h : RBl w v bs) (g : RE w u es) (z : Int) (hz3 : z = 0 → bs.length ≤ 24 ∧ es.length ≤ 10 ∧ bulkN bs es ≤ 104)
    (hch : ∀ w, RBl w v bs → RE w u es → Calls Tryz.prog 50 #[.agg #[v, u, .int .i64 r, .int .i64 t]] w fun e w' => e = .returned (.int .i64 z) ∧ Below w.heap.size w w') :
    Calls Tryz.prog 21 #[.agg #[v, u, .int .i64 r, .int .i64 t], .int .i64 m] w (EvPost (evO z bs es r m) r t w) := by
  obtain ⟨i0, ii0, iz0, iz1, iz2⟩ := info_parts info_str
  obtain ⟨j0, jj0, jz0, jz1, jz2⟩ := info_parts info_E
  have hcp := hid (fun w h g => ref_StoreCopyO v u bs es r t w h g)
  unfold OwnedStore at hcp
  have hre := hid (fun (hN : bulkN bs es ≤ 104) w h g => ref_reached v u bs es r t w h g (Nat.le_trans hN (by decide)))
  unfold ReachedPost at hre
  replace hch := hid hch
  have hR := hid h
  have hE := hid g
  have hf1 := hid (fit_B h)
  have hf2 := hid (fit_E g)
  have kz := hid (@evO_z z bs es r m)
  have km := hid (@evO_m bs es r m)
  have k0 := hid (@evO_0 bs es r m)
  have kg := hid (@evO_g bs es r m)
  obtain ⟨a, c, rfl, -⟩ := h
  obtain ⟨a2, c2, rfl, -⟩ := g
  obtain ⟨w1, hw1⟩ : ∃ w1 : World, w1 = (w.alloc (Obj.cells #[.slice a bs.length c, .slice a2 es.length c2, .int .i64 r, .int .i64 t] 25)).alloc (Obj.cells #[.slice none 0 0, .slice none 0 0, .int .i64 0, .int .i64 0] 25) := ⟨_, rfl⟩
  have hb1 := hid (show Below w.heap.size w w1 by rw [hw1]; exact b_alloc (b_alloc (Below.refl _ _) _) _)
  have hq1 := hid (show w1.heap[w.heap.size]? = some (.cells #[.slice a bs.length c, .slice a2 es.length c2, .int .i64 r, .int .i64 t] 25 (0, 0)) by
    rw [hw1]; exact hold (heap_alloc_new w _))
  have hp1 := hid (show w1.heap[w.heap.size + 1]? = some (.cells #[.slice none 0 0, .slice none 0 0, .int .i64 0, .int .i64 0] 25 (0, 0)) by
    rw [hw1]; exact heap_put _ _ _ (by simp))
  obtain ⟨x0, x1, x2, x3⟩ := box4f hq1.out
  go_enter Tryz.func21, Tryz.ntmps21
  go_wp2_with fail
  rw [← hw1]
  clear hw1
  ((with_reducible refine (hch.out _ (hR.out.mono EBlob.stable hb1.out) (hE.out.mono EEntry.stable hb1.out)).mono ?_); rintro e w2 ⟨rfl, b2⟩)
  have hq2 := hid (stays b2 hq1.out)
  have hp2 := hid (stays b2 hp1.out)
  have hb2 := hid (b_call hb1.out b2)
  clear b2 hq1 hp1 hb1 x0 x1 x2 x3 hch
  by_cases hz : z = 0
  · subst hz
    obtain ⟨h24, h10, hN⟩ := hz3 rfl
    have hft0 := hid (⟨h24, by simpa using h10, hN, hf1.out, hf2.out, fun x hx => (by cases hx)⟩ : EvFit bs es [])
    replace hre := hid (hre.out hN)
    clear kz
    by_cases hrm : inRoom r m
    · replace k0 := hid (k0.out hrm)
      replace kg := hid (kg.out hrm)
      generalize evO 0 bs es r m = R at *
      clear km
      have hrm' := hid hrm
      unfold inRoom at hrm
      obtain ⟨x0, x1, x2, x3⟩ := box4f hq2.out
      go_wp2_with fail
      ((with_reducible refine (ref_RoomLacks (.slice a bs.length c) bs r m _ (hR.out.mono EBlob.stable hb2.out) hrm.1 hrm.2.1 hrm.2.2.1 hrm.2.2.2).mono ?_); rintro e w3 ⟨rfl, b3⟩)
      have hq3 := hid (stays b3 hq2.out)
      have hp3 := hid (stays b3 hp2.out)
      have hb3 := hid (b_call hb2.out b3)
      clear b3 x0 x1 x2 x3 hq2 hp2 hb2 hrm
      obtain ⟨x0, x1, x2, x3⟩ := box4f hq3.out
      have hs3 := hb3.out.size
      have hl3 := heap_lt hp3.out
      by_cases hl : lackV bs r m = 0
      · have hd := hid (k0.out hl)
        have d1 : (lackV bs r m == 0) = true := by rw [hl]; rfl
        clear kg k0 hre
        go_wp2_with fail
        ((with_reducible refine (hcp.out _ (hR.out.mono EBlob.stable hb3.out) (hE.out.mono EEntry.stable hb3.out)).mono ?_); rintro e w6 ⟨v6, u6, rfl, o6, e6, b6⟩)
        obtain ⟨a6, c6, rfl⟩ := OX.lenOf o6
        obtain ⟨a7, c7, rfl⟩ := OX.lenOf e6
        have rb6 := o6.toR (by omega) hf1.out
        have re6 := e6.toR (by omega) hf2.out
        have hp6 := stays b6 hp3.out
        have hb6 := b_call hb3.out b6
        obtain ⟨p0, p1, p2, p3⟩ := box4f hp6
        have g0 := frozen_heap hp6 0
        have g1 := frozen_heap hp6 1
        have g2 := frozen_heap hp6 2
        have g3 := frozen_heap hp6 3
        have hlp := heap_lt hp6
        clear x0 x1 x2 x3 o6 e6 b6 hcp
        go_wp2_with fail
        have hp9 := box4_same (u0 := .slice a6 bs.length c6) (u1 := .slice a7 es.length c7) (u2 := .int .i64 r) (u3 := .int .i64 t) hp6
        have hb9 := bB_box4 hb6 (q := w.heap.size + 1) (by omega) (.slice a6 bs.length c6) (.slice a7 es.length c7) (.int .i64 r) (.int .i64 t)
        have r9 := rs_w4 (a := a6) (n := bs.length) (c := c6) (a' := a7) (n' := es.length) (c' := c7) (r := r) (t := t) EBlob.writes rb6 (SBox.of hp6)
        have e9 := rs_w4 (a := a6) (n := bs.length) (c := c6) (a' := a7) (n' := es.length) (c' := c7) (r := r) (t := t) EEntry.writes re6 (SBox.of hp6)
        obtain ⟨m0, m1, m2, m3⟩ := box4f hp9
        unfold World.box4 at m0 m1 m2 m3 hb9
        (try simp only [Exit.inBlock, Exit.then])
        refine bodyPost_ret (by simp [results, Tryz.results21, go_sem, m0, m1, m2, m3]; try rfl) rfl ?_
        exact ev_ok hd.out r9 e9 RS.nil hb9
      · have hd := hid (kg.out hl)
        have d1 : (lackV bs r m == 0) = false := beq_eq_false_iff_ne.2 hl
        have hft1 := hid (hft0.out.clean (allOf bs es))
        generalize allOf bs es = L0 at *
        replace hl := hid hl
        clear kg k0 hcp
        go_wp2_with fail
        ((with_reducible refine (hre.out _ (hR.out.mono EBlob.stable hb3.out) (hE.out.mono EEntry.stable hb3.out)).mono ?_); rintro e w4 ⟨v4, u4, rfl, o4, e4, b4⟩)
        obtain ⟨va, vc, rfl⟩ := OX.lenOf o4
        obtain ⟨ua, uc, rfl⟩ := OX.lenOf e4
        have hp4 := stays b4 hp3.out
        have hb4 := b_call hb3.out b4
        have hs4 := b4.size
        clear b4 x0 x1 x2 x3 hq3 hp3 hre
        obtain ⟨w5, hw5⟩ : ∃ w5 : World, w5 = w4.alloc (Obj.cells #[.slice va (cleanL L0 bs).length vc, .slice ua es.length uc, .int .i64 r, .int .i64 t] 25) := ⟨_, rfl⟩
        have ho5 := hid (show w5.heap[w4.heap.size]? = some (.cells #[.slice va (cleanL L0 bs).length vc, .slice ua es.length uc, .int .i64 r, .int .i64 t] 25 (0, 0)) by rw [hw5]; exact heap_alloc_new _ _)
        have hp5 := hid (show w5.heap[w.heap.size + 1]? = some (.cells #[.slice none 0 0, .slice none 0 0, .int .i64 0, .int .i64 0] 25 (0, 0)) by rw [hw5]; exact hold hp4)
        have hb5 := hid (show Below w.heap.size w w5 by rw [hw5]; exact b_alloc hb4 _)
        have o5 := hid (show OBlob w5 w3.heap.size (.slice va (cleanL L0 bs).length vc) (cleanL L0 bs) by rw [hw5]; exact OBlob.alloc o4 _)
        have e5 := hid (show OEntry w5 w3.heap.size (.slice ua es.length uc) es by rw [hw5]; exact OEntry.alloc e4 _)
        clear o4 e4 hp4 hb4
        go_wp2_with fail
        rw [← hw5]
        clear hw5
        generalize w4.heap.size = qo at *
        have hBw := hb3.out.size
        generalize w3.heap.size = B at *
        have hrel0 := hid (⟨es.length, cleanL L0 bs, [], va, vc, ua, uc, hd.out.symm, Nat.le_refl _, hft1.out, ho5.out, hp5.out, o5.out, e5.out, OS.nil, hb5.out⟩ : EvRelR w B qo R r t m (.slice none 0 0) w5 es)
        clear ho5 hp5 o5 e5 hb5 hft0 hft1 hb3 h24 h10 hN hd hl d1
        go_loopw [11, 12, 13] (fun g11 _ _ wr => ∃ (E1 : List Entry), Hid (EvRelR w B qo R r t m g11 wr E1)) (fun g11 _ _ wr => evMea wr qo (.int .i64 0))
        case atStart => exact ⟨es, hrel0⟩
        case round =>
          obtain ⟨E1, hrl⟩ := hrel
          obtain ⟨n, B1, G, va, vc, ua, uc, hP, hn, hft, ho, hp, oB, oE, oG, hb⟩ := hrl.out
          clear hrl hrel0
          have hM := hid (fun f => @evMea_eq wr qo _ _ _ _ _ _ f _ ho)
          have hlq := heap_lt ho
          have hlp := heap_lt hp
          replace hft := hid hft
          replace ho := hid ho
          replace hp := hid hp
          replace oB := hid oB
          replace oE := hid oE
          replace oG := hid oG
          replace hb := hid hb
          obtain ⟨k1, k2, k3⟩ := lack_iff hft.out.b24 hft.out.fb hrm'.out
          have rb := oB.out.toR (by have := hft.out.b24; omega) hft.out.fb
          have hus := hid (ref_RoomUsed (.slice va B1.length vc) B1 wr.drew (rb.mono EBlob.stable (Below.refl _ wr).drew))
          have hS := And.intro (box4f ho.out).1 (box4f ho.out).2.2.1
          clear rb
          go_wp2_with fail
          go_region_held3 (fun w' => w'.cell? ⟨qo, 0, none⟩ = some (.slice va B1.length vc) ∧ w'.cell? ⟨qo, 2, none⟩ = some (.int .i64 r))
            (first
              | with_reducible exact hS
              | with_reducible exact hS2
              | go_keep
              | fail)
            ((first
              | ((with_reducible refine hus.out.mono ?_)
                 rintro e wu ⟨rfl, bu⟩
                 have hbu : Below wr.heap.size wr wu := b_call (Below.refl _ wr).drew bu
                 have hS2 := And.intro (box4f (stays hbu ho.out)).1 (box4f (stays hbu ho.out)).2.2.1)
              | fail))
          have ho2 := hid (stays hbu ho.out)
          have hp2 := hid (stays hbu hp.out)
          have oB2 := hid (OBlob.after oB.out hbu)
          have oE2 := hid (OEntry.after oE.out hbu)
          have oG2 := hid (OS.below oG.out hbu)
          have hb2' := hid (b_call hb.out hbu)
          clear hS hS2 bu hbu hus ho hp oB oE oG hb
          by_cases hl : lackV B1 r m = 0
          · have hR2 := hid (hP.symm.trans (evG_end hl))
            have d1 : decide (r < used B1 + m) = false := decide_eq_false (by have := k3.1 hl; omega)
            have d3 : used B1 + m ≤ r := by have := k3.1 hl; omega
            have rb6 := oB2.out.toR (by have := hft.out.b24; omega) hft.out.fb
            have re6 := oE2.out.toR (by have := hft.out.e10; omega) hft.out.fe
            have hp6 := hp2.out
            have hb6 := hb2'.out
            have og6 := oG2.out
            obtain ⟨x0, x1, x2, x3⟩ := box4f ho2.out
            obtain ⟨p0, p1, p2, p3⟩ := box4f hp6
            have g0 := frozen_heap hp6 0
            have g1 := frozen_heap hp6 1
            have g2 := frozen_heap hp6 2
            have g3 := frozen_heap hp6 3
            have hlp6 := heap_lt hp6
            have hlo6 := heap_lt ho2.out
            replace k3 := hid k3
            clear hP
            go_wp2_with fail
            have hp9 := box4_same (u0 := .slice va B1.length vc) (u1 := .slice ua E1.length uc) (u2 := .int .i64 r) (u3 := .int .i64 t) hp6
            have hb9 := bB_box4 hb6 (q := w.heap.size + 1) (by omega) (.slice va B1.length vc) (.slice ua E1.length uc) (.int .i64 r) (.int .i64 t)
            have r9 := rs_w4 (a := va) (n := B1.length) (c := vc) (a' := ua) (n' := E1.length) (c' := uc) (r := r) (t := t) EBlob.writes rb6 (SBox.of hp6)
            have e9 := rs_w4 (a := va) (n := B1.length) (c := vc) (a' := ua) (n' := E1.length) (c' := uc) (r := r) (t := t) EEntry.writes re6 (SBox.of hp6)
            have t9 := reads_str (OS.boxS4 (u0 := .slice va B1.length vc) (u1 := .slice ua E1.length uc) (u2 := .int .i64 r) (u3 := .int .i64 t) og6 hp6 (by decide)) (by have := hft.out.e10; omega) hft.out.fg
            obtain ⟨m0, m1, m2, m3⟩ := box4f hp9
            unfold World.box4 at m0 m1 m2 m3 hb9 t9
            (try simp only [Exit.inBlock, Exit.then])
            refine bodyPost_ret (by simp [results, Tryz.results21, go_sem, m0, m1, m2, m3]; try rfl) rfl ?_
            exact ev_ok hR2.out r9 e9 t9 hb9
          · have d1 : decide (r < used B1 + m) = true := decide_eq_true (by have := mt k3.2 hl; omega)
            have d3 : r < used B1 + m := by have := mt k3.2 hl; omega
            have re := oE2.out.toR (by have := hft.out.e10; omega) hft.out.fe
            have hol := hid (ref_EntryOldest (.slice ua E1.length uc) E1 wu re)
            unfold OldPost at hol
            obtain ⟨x0, x1, x2, x3⟩ := box4f ho2.out
            replace k3 := hid k3
            clear re
            go_wp2_with fail
            ((with_reducible refine hol.out.mono ?_); rintro e w4 ⟨i, ec, rfl, ha, b4⟩)
            have ho4 := hid (stays b4 ho2.out)
            have hp4 := hid (stays b4 hp2.out)
            have oB4 := hid (OBlob.after oB2.out b4)
            have oE4 := hid (OEntry.after oE2.out b4)
            have oG4 := hid (OS.below oG2.out b4)
            have hb4 := hid (b_call hb2'.out b4)
            clear x0 x1 x2 x3 hol b4 ho2 hp2 oB2 oE2 oG2 hb2'
            rcases old_of ha with ⟨k, hok, hkl, rfl, rfl⟩ | ⟨hno, rfl⟩
            · have hx : E1[k]? = some E1[k] := List.getElem?_eq_getElem hkl
              generalize E1[k] = x at hx
              obtain ⟨n2, hn2, -, hnx⟩ := evG_next hl hok hx hn (g := G)
              have hR3 := hid (hnx.symm.trans hP)
              have hf0 := hft
              replace hft := hid (hf0.out.drop hx)
              have re4 := oE4.out.toR (by have := hf0.out.e10; omega) hf0.out.fe
              obtain ⟨bb, off, rfl, hbb, hee⟩ := rs_at re4 hx
              obtain ⟨dv, c0, -⟩ := hee
              have hk0 : (0 : Int) ≤ (k : Int) := by omega
              have hk1 : (k : Int) < (E1.length : Int) := by omega
              have hsz4 := hb4.out.size
              have hG10 := hf0.out.e10
              have hE24 : E1.length ≤ 10 := by omega
              obtain ⟨x0, x1, x2, x3⟩ := box4f ho4.out
              have lo4 := heap_lt ho4.out
              have hrow := row_one (s := 1) (bs := 16) (cells := cStr) w4 9 x.key #[.string x.key] w4.heap.size rfl rfl (by decide)
              have g1w : IntKind.i64.wrap ((k : Int) + 1) = (k : Int) + 1 := IntWalk.i64_in _ (by omega)
              clear ha hnx hok re4 hP
              obtain ⟨rsE, hrsE, hOE0, -⟩ := id oE4.out
              have hBs4 : B ≤ w4.heap.size := by
                rcases os_forms' hOE0 with ⟨h0, -⟩ | ⟨gE, kE, hvE, -⟩
                · cases h0
                · rw [hvE] at hOE0
                  have := World.ownsRow.lt hOE0 _ rfl
                  omega
              clear hOE0 hrsE
              go_wp2_with (at_builtin; go_must (refine wpL_append flat_rstr rfl (.tmp 56) (.tmp 63) 26 rfl 9 i0 _ Tryz.underlying26 ii0 iz0 iz1 iz2 rfl B _ G rfl (OS.alloc oG4.out _) _ [x.key] rfl hrow ?c1 ?c2 ?c3 ?_))
              case c1 => simp only [List.length_cons, List.length_nil]; omega
              case c2 => simp only [List.length_cons, List.length_nil, maxLen]; omega
              case c3 => simp; omega
              intro v5 w5 oG5 hg5
              have ho5 := box_keep (OS.alloc oG4.out _) hg5 (hold ho4.out) (by decide)
              have hp5 := box_keep (OS.alloc oG4.out _) hg5 (hold hp4.out) (by decide)
              have oB5 := hid (OBlob.keep (OS.alloc oG4.out _) hg5 (by decide) (by decide) (OBlob.alloc oB4.out _))
              have oE5 := hid (OEntry.keep (OS.alloc oG4.out _) hg5 (by decide) (by decide) (OEntry.alloc oE4.out _))
              have hb5 := hid ((b_alloc hb4.out _).grown hg5 (by simp; omega) (fun j hj => Nat.le_trans hBw (OS.block oG4.out j hj)))
              have hB5 : B ≤ w5.heap.size := by have := hg5.size; simp at this; omega
              have re5 := oE5.out.toR (by omega) hf0.out.fe
              have hup := hid (RS.upto re5 k (by omega))
              obtain ⟨A, hA⟩ : ∃ A, (if uc = k + 1 then (some ⟨bb, off, none⟩ : Option Addr) else some ⟨bb, off + (k + 1) * 4, none⟩) = A := ⟨_, rfl⟩
              have hfrom := RS.from re5 (k + 1) (by omega)
              rw [show (if uc = k + 1 then (some ⟨bb, off, none⟩ : Option Addr) else (some (⟨bb, off, none⟩ : Addr)).map (·.add ((k + 1) * 4))) = A by rw [← hA]; simp [Addr.add_lit]] at hfrom
              replace hfrom := hid hfrom
              have hcU : E1.length ≤ uc := by obtain ⟨_, _, hv, h1, _⟩ := re5; simp only [Value.slice.injEq] at hv; omega
              have q1 : (0 : Int) ≤ (k : Int) + 1 := by omega
              have q2 : (k : Int) + 1 ≤ (E1.length : Int) := by omega
              have q3 : k ≤ uc := by omega
              have q4 : k + 1 ≤ E1.length := by omega
              have q6 : ((k : Int) + 1).toNat = k + 1 := by omega
              have oG5' := hid oG5
              have hp5' := hid hp5
              have ho5' := hid ho5
              clear x0 x1 x2 x3 hg5 hrow c0 hbb ho4 hp4 oB4 oE4 oG4 hb4 lo4 oG5 re5 hp5
              obtain ⟨x0, x1, x2, x3⟩ := box4f ho5
              have lo5 := heap_lt ho5
              clear ho5
              go_wp2_with fail
              go_region_law ((first
                | (go_simp
                   (with_reducible refine (ref_EntriesCopy (.slice (some ⟨bb, off, none⟩) k uc) (E1.take k) _ (by first | exact hup.out.mono EEntry.stable (Below.refl _ w5).drew | exact hup.out)).mono ?_)
                   rintro e wa ⟨va', rfl, ⟨ra, hra, oa, ca⟩, ba⟩
                   obtain ⟨aa, ka, rfl, -⟩ := id (OS.len_le oa)
                   have ba1 : Below w5.heap.size w5 wa := b_call (by first | exact (Below.refl _ w5).drew | exact Below.refl _ _) ba
                   have hoa := stays ba1 ho5'.out
                   obtain ⟨xa0, xa1, xa2, xa3⟩ := box4f hoa
                   have loa := heap_lt hoa
                   have hsa := ba1.size
                   have hfrom2 := hid (hfrom.out.mono EEntry.stable ba1))
                | (go_simp
                   (with_reducible refine (ref_EntriesCopy (.slice A (E1.length - (k + 1)) (uc - (k + 1))) (E1.drop (k + 1)) _ hfrom2.out).mono ?_)
                   rintro e wb ⟨vb, rfl, ⟨rb, hrb, ob, cb⟩, bb2⟩
                   obtain ⟨ab, kb, rfl, -⟩ := id (OS.len_le ob)
                   have hla : ra.length ≤ k := (by have := congrArg List.length hra; simp at this; omega)
                   have hlb : rb.length ≤ E1.length - (k + 1) := (by have := congrArg List.length hrb; simp at this; omega)
                   have hob := hid (OS.reads (cells := xc cEntry (·.parts)) (bs := 56) (E := ERaw (xc cEntry (·.parts))) xcEntry_len (by decide) (fun b o r _ hc j u hj => (by
                     have hlt := (List.getElem?_eq_some_iff.1 hj).1
                     rw [hc j (by rw [xcEntry_len] at hlt; exact hlt), hj])) ob (by omega))
                   have hs2 : wa.heap.size ≤ wb.heap.size := bb2.size
                   have hob5 := stays bb2 hoa
                   have oa2 := OS.below oa bb2)
                | (refine stepL_append (o := ⟨some 76, _, _, _, _, _⟩) (l := ra) (m := rb) (B := w5.heap.size) flat_cEntry (by rfl) (.tmp 69) (.tmp 75) 23 (by rfl) 91 j0 _ Tryz.underlying23 jj0 jz0 jz1 jz2 rfl _ (by rfl) oa2 _ (by rfl) hob.out (by omega) (by simp [maxLen]; omega) (by omega) ?_
                   intro v6 w6 hown6 hg6
                   obtain ⟨a6, k6, rfl, -⟩ := id (OS.len_le hown6)
                   have ho6 := box_keep oa2 hg6 hob5 (by decide)
                   have fs1 := frozen_heap ho6 1
                   have lo6 := heap_lt ho6
                   obtain ⟨s0, s1, s2, s3⟩ := box4f ho6)
                | fail))
              all_goals
                (have hsz6 := hg6.size
                 have hlE : (E1.take k ++ E1.drop (k + 1)).length = ra.length + rb.length := by
                   have h1 := congrArg List.length hra
                   have h2 := congrArg List.length hrb
                   rw [List.length_map] at h1 h2
                   rw [List.length_append, h1, h2]
                 have hO6 := OX.join (e' := 107) hown6 hg6 oa2 (by decide) (fun q hq => CO.below bb2 _ _ (ca q hq)) (fun q hq => OS.mono (cb q hq) hsa)
                 rw [hra, hrb, List.length_append] at hO6
                 have oE6 := OEntry.low (show OEntry w6 w5.heap.size (.slice a6 (ra.length + rb.length) k6) (E1.take k ++ E1.drop (k + 1)) from hO6) hB5
                 have oB6 := OBlob.keep (OS.mono oa2 hB5) hg6 (by decide) (by decide) ((oB5.out.after ba1).after bb2)
                 have oG6 := OS.apart (OS.mono oa2 hB5) (OS.below (OS.below oG5'.out ba1) bb2) (by decide) hg6
                 have hp6 := box_keep oa2 hg6 (stays bb2 (stays ba1 hp5'.out)) (by decide)
                 have hb6 := (b_call (b_call hb5.out ba1) bb2).grown hg6 (by have := hb5.out.size; omega) (fun j hj => Nat.le_trans hb5.out.size (show w5.heap.size ≤ j from OS.block oa2 j hj))
                 have hpq : w.heap.size + 1 ≠ qo := by omega
                 have ho6x' := box4_1 (u := .slice a6 (ra.length + rb.length) k6) ho6
                 have hp6x := hid (box_other (q := qo) (o := 1) (u := .slice a6 (ra.length + rb.length) k6) hp6 hpq)
                 have oB6x := hid (oB6.other (o := 1) (u := .slice a6 (ra.length + rb.length) k6) ho6 (by decide) (by decide))
                 have oE6x' := oE6.other (o := 1) (u := .slice a6 (ra.length + rb.length) k6) ho6 (by decide) (by decide)
                 have oG6x := hid (OS.other (o := 1) (u := .slice a6 (ra.length + rb.length) k6) oG6 ho6 (by decide))
                 have hb6x := hid (hb6.setCell (p := ⟨qo, 1, none⟩) (show w.heap.size ≤ qo by omega) (.slice a6 (ra.length + rb.length) k6))
                 obtain ⟨w6x, hw6⟩ : ∃ w6x : World, w6x = w6.setCell ⟨qo, 1, none⟩ (.slice a6 (ra.length + rb.length) k6) := ⟨_, rfl⟩
                 rw [← hw6] at ho6x' hp6x oB6x oE6x' oG6x hb6x
                 rw [← hlE] at ho6x' oE6x'
                 have ho6x := hid ho6x'
                 have oE6x := hid oE6x'
                 have hBq : B ≤ w6x.heap.size := by rw [hw6]; simp; omega
                 have hE2l : (E1.take k ++ E1.drop (k + 1)).length < E1.length := by rw [List.length_append, List.length_take, List.length_drop]; omega
                 have hlq6 := hid hlE
                 clear hown6 hg6 oa2 ob bb2 ba ba1 ca cb hra hrb hob hfrom2 oE6 oB6 oG6 hp6 hb6 hO6 oE6x' hoa xa0 xa1 xa2 xa3 hob5 oa
                 replace hn2 := hid hn2
                 generalize hE2 : E1.take k ++ E1.drop (k + 1) = E2 at *
                 replace hE2 := hid hE2
                 have rb6 := oB6x.out.toR (by have := hft.out.b24; omega) hft.out.fb
                 have re6 := oE6x.out.toR (by have := hft.out.e10; omega) hft.out.fe
                 have hcl := hid (ref_reached _ _ B1 E2 r t w6x rb6 re6 (Nat.le_trans hft.out.bulk (by decide)))
                 unfold ReachedPost at hcl
                 have hf2' := hid (hft.out.clean (allOf B1 E2))
                 generalize allOf B1 E2 = L at *
                 obtain ⟨x0', x1', x2', x3'⟩ := box4f ho6x.out
                 have lo6x := heap_lt ho6x.out
                 rw [hlE] at x1'
                 rw [hw6] at x0' x1' x2' x3'
                 clear rb6 re6 ho6x'
                 go_wp2_with fail
                 rw [← hw6, ← hlE]
                 ((with_reducible refine hcl.out.mono ?_); rintro e w7 ⟨v7, u7, rfl, o7, e7, b7⟩)
                 have ho7 := stays b7 ho6x.out
                 have hp7 := stays b7 hp6x.out
                 have og7 := OS.below oG6x.out b7
                 have hb7 := b_call hb6x.out b7
                 have o7' := o7.low hBq
                 have e7' := e7.low hBq
                 obtain ⟨a7, c7, rfl⟩ := OX.lenOf o7
                 obtain ⟨a8, c8, rfl⟩ := OX.lenOf e7
                 have ho8 := hid (box4_same (u0 := .slice a7 (cleanL L B1).length c7) (u1 := .slice a8 E2.length c8) (u2 := .int .i64 r) (u3 := .int .i64 t) ho7)
                 have hp8 := hid (box4_other (q := qo) (u0 := .slice a7 (cleanL L B1).length c7) (u1 := .slice a8 E2.length c8) (u2 := .int .i64 r) (u3 := .int .i64 t) hp7 hpq)
                 have o8 := hid (o7'.box4 ho7 (.slice a7 (cleanL L B1).length c7) (.slice a8 E2.length c8) (.int .i64 r) (.int .i64 t))
                 have e8 := hid (e7'.box4 ho7 (.slice a7 (cleanL L B1).length c7) (.slice a8 E2.length c8) (.int .i64 r) (.int .i64 t))
                 have og8 := hid (OS.boxS4 (u0 := .slice a7 (cleanL L B1).length c7) (u1 := .slice a8 E2.length c8) (u2 := .int .i64 r) (u3 := .int .i64 t) og7 ho7 (by decide))
                 have hb8 := hid (bB_box4 hb7 (q := qo) (by omega) (.slice a7 (cleanL L B1).length c7) (.slice a8 E2.length c8) (.int .i64 r) (.int .i64 t))
                 obtain ⟨y0, y1, y2, y3⟩ := box4f ho7
                 have f0 := frozen_heap ho7 0
                 have f1 := frozen_heap ho7 1
                 have f2 := frozen_heap ho7 2
                 have f3 := frozen_heap ho7 3
                 have lo7 := heap_lt ho7
                 clear x0' x1' x2' x3' hcl o7 e7 b7 og7 hb7 o7' e7' hw6 hlE
                 unfold World.box4 at ho8 hp8 o8 e8 og8 hb8
                 go_wp2_with fail
                 go_roundw
                 case rel => exact ⟨E2, hid ⟨n2, cleanL L B1, G ++ [x.key], a7, c7, a8, c8, hR3.out, hn2.out, hf2'.out, ho8.out, hp8.out, o8.out, e8.out, og8.out, hb8.out⟩⟩
                 case measure => rw [evMea_eq ho8.out, hM.out]; simp [oneV]; omega)
            · have hR2 := hid (hP.symm.trans (evG_no hl hno))
              clear hno ha hP
              obtain ⟨x0, x1, x2, x3⟩ := box4f ho4.out
              obtain ⟨p0, p1, p2, p3⟩ := box4f hp4.out
              have g0 := frozen_heap hp4.out 0
              have g1 := frozen_heap hp4.out 1
              have g2 := frozen_heap hp4.out 2
              have g3 := frozen_heap hp4.out 3
              have hlp := heap_lt hp4.out
              go_wp2_with fail
              have hp9 := box4_same (u0 := .slice none 0 0) (u1 := .slice none 0 0) (u2 := .int .i64 0) (u3 := .int .i64 0) hp4.out
              have hb9 := bB_box4 hb4.out (q := w.heap.size + 1) (by omega) (.slice none 0 0) (.slice none 0 0) (.int .i64 0) (.int .i64 0)
              obtain ⟨m0, m1, m2, m3⟩ := box4f hp9
              unfold World.box4 at m0 m1 m2 m3 hb9
              (try simp only [Exit.inBlock, Exit.then])
              refine bodyPost_ret (by simp [results, Tryz.results21, go_sem, m0, m1, m2, m3]; try rfl) rfl ?_
              exact ev_no hR2.out (by decide) hb9
    · have hd := hid (km.out hrm)
      clear k0 kg
      obtain ⟨x0, x1, x2, x3⟩ := box4f hq2.out
      have hno := hid (fun w => ref_RoomLacks_no (.slice a bs.length c) r m w hrm)
      replace hrm := hid hrm
      go_wp2_with fail
      ((with_reducible refine (hno.out _).mono ?_); rintro e w3 ⟨rfl, rfl⟩)
      obtain ⟨p0, p1, p2, p3⟩ := box4f hp2.out
      have g0 := frozen_heap hp2.out 0
      have g1 := frozen_heap hp2.out 1
      have g2 := frozen_heap hp2.out 2
      have g3 := frozen_heap hp2.out 3
      have hlp := heap_lt hp2.out
      go_wp2_with fail
      have hp9 := box4_same (u0 := .slice none 0 0) (u1 := .slice none 0 0) (u2 := .int .i64 0) (u3 := .int .i64 0) hp2.out
      have hb9 := bB_box4 hb2.out (q := w.heap.size + 1) (by omega) (.slice none 0 0) (.slice none 0 0) (.int .i64 0) (.int .i64 0)
      obtain ⟨m0, m1, m2, m3⟩ := box4f hp9
      unfold World.box4 at m0 m1 m2 m3 hb9
      (try simp only [Exit.inBlock, Exit.then])
      refine bodyPost_ret (by simp [results, Tryz.results21, go_sem, m0, m1, m2, m3]; try rfl) rfl ?_
      exact ev_no hd.out (by decide) hb9
  · have ht : (z != 0) = true := by simp [hz]
    have hd := hid (kz.out hz)
    replace hz := hid hz
    clear km k0 kg hcp hre
    obtain ⟨p0, p1, p2, p3⟩ := box4f hp2.out
    have g0 := frozen_heap hp2.out 0
    have g1 := frozen_heap hp2.out 1
    have g2 := frozen_heap hp2.out 2
    have g3 := frozen_heap hp2.out 3
    have hlp := heap_lt hp2.out
    go_wp2_with fail
    have hp9 := box4_same (u0 := .slice none 0 0) (u1 := .slice none 0 0) (u2 := .int .i64 0) (u3 := .int .i64 0) hp2.out
    have hb9 := bB_box4 hb2.out (q := w.heap.size + 1) (by omega) (.slice none 0 0) (.slice none 0 0) (.int .i64 0) (.int .i64 0)
    obtain ⟨m0, m1, m2, m3⟩ := box4f hp9
    unfold World.box4 at m0 m1 m2 m3 hb9
    (try simp only [Exit.inBlock, Exit.then])
    refine bodyPost_ret (by simp [results, Tryz.results21, go_sem, m0, m1, m2, m3]; try rfl) rfl ?_
    exact ev_no hd.out hz.out hb9
end Go.Proofs.YtkbijjglodnfbaaGreat
