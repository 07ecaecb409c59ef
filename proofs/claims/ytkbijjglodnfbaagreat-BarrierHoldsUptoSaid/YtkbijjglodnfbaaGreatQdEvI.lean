/-
  evict.Run: what it answers. Printed by gen_evi.py.
-/
import Derived.Test.YtkbijjglodnfbaaGreatQdEvL
namespace Go.Proofs.YtkbijjglodnfbaaGreat
open Go.RowKit

def EvPost (O : EvO) (r t : Int) (w : World) (e : Ending) (w' : World) : Prop :=
  ∃ v gv, e = .returned (.tuple #[v, gv, .int .i64 O.err]) ∧ VS w' v (if O.err = 0 then ⟨O.bs, O.es, r, t⟩ else noStore) ∧ RT w' gv O.gone ∧ Below w.heap.size w w'
theorem ev_no {n r t : Int} {O : EvO} {w w' : World} (h : O = evNo n) (hn : n ≠ 0) (hb : Below w.heap.size w w') : EvPost O r t w (.returned (.tuple #[.agg #[.slice none 0 0, .slice none 0 0, .int .i64 0, .int .i64 0], .slice none 0 0, .int .i64 n])) w' := by
  subst h
  refine ⟨_, _, rfl, ?_, RS.nil, hb⟩
  show VS _ _ (if n = 0 then _ else noStore)
  rw [if_neg hn]
  exact ⟨_, _, rfl, RS.nil, RS.nil⟩
theorem ev_ok {r t : Int} {O : EvO} {bs : List Blob} {es : List Entry} {G : List ByteArray} {v1 v2 gv : Value} {w w' : World} (h : O = ⟨0, bs, es, G⟩) (h1 : RBl w' v1 bs) (h2 : RE w' v2 es) (h3 : RT w' gv G) (hb : Below w.heap.size w w') :
    EvPost O r t w (.returned (.tuple #[.agg #[v1, v2, .int .i64 r, .int .i64 t], gv, .int .i64 0])) w' := by
  subst h
  exact ⟨_, _, rfl, by rw [if_pos rfl]; exact ⟨_, _, rfl, h1, h2⟩, h3, hb⟩
section
variable {α : Type} {A : TypeId} {s : Nat} {cells : α → List Value} {W w' : World} {B : Nat} {v v' : Value} {rs : List α}
theorem OBlob.keep {l : List Blob} (hv : OS A s cells W B v rs) (hg : W.grownBy w' v.ownBlock) (h1 : A ≠ 80) (h2 : A ≠ 5) (h : OBlob W B v' l) : OBlob w' B v' l := by
  obtain ⟨rs', h3, h4, h5⟩ := h
  exact ⟨rs', h3, OS.apart hv h4 h1 hg, fun r hr => OS.apart hv (h5 r hr) h2 hg⟩
theorem OEntry.keep {l : List Entry} (hv : OS A s cells W B v rs) (hg : W.grownBy w' v.ownBlock) (h1 : A ≠ 91) (h2 : A ≠ 107) (h : OEntry W B v' l) : OEntry w' B v' l := by
  obtain ⟨rs', h3, h4, h5⟩ := h
  exact ⟨rs', h3, OS.apart hv h4 h1 hg, fun r hr => OS.apart hv (h5 r hr) h2 hg⟩
theorem box_keep {k : Nat} {cs : Array Value} {T : TypeId} {fr : Nat × Nat} (hv : OS A s cells W B v rs) (hg : W.grownBy w' v.ownBlock) (hp : W.heap[k]? = some (.cells cs T fr)) (hT : T ≠ A) : w'.heap[k]? = some (.cells cs T fr) :=
  (hg.block k (heap_lt hp) (fun e => OS.block_ne hv hp hT e.symm)).trans hp
end
/-- Ahead of the first round the store is not cleaned yet. -/
noncomputable def evP (r m : Int) (first : Bool) (n : Nat) (bs : List Blob) (es : List Entry) (g : List ByteArray) : EvO :=
  if first = true then (if lackV bs r m = 0 then ⟨0, bs, es, g⟩ else evG r m n (cleanL (allOf bs es) bs) es g) else evG r m n bs es g
theorem evP_start {bs : List Blob} {es : List Entry} {r m : Int} (h : inRoom r m) : evP r m true es.length bs es [] = evO 0 bs es r m := by
  unfold evP
  rw [if_pos rfl]
  by_cases hl : lackV bs r m = 0
  · rw [if_pos hl, evO_0 h hl]
  · rw [if_neg hl, evO_g h hl]
theorem evP_end {bs : List Blob} {es : List Entry} {g : List ByteArray} {r m : Int} {f : Bool} {n : Nat} (hl : lackV bs r m = 0) : evP r m f n bs es g = ⟨0, bs, es, g⟩ := by
  unfold evP
  cases f
  · rw [if_neg (by decide), evG_end hl]
  · rw [if_pos rfl, if_pos hl]
theorem evP_first {bs : List Blob} {es : List Entry} {g : List ByteArray} {r m : Int} {n : Nat} (hl : lackV bs r m ≠ 0) : evP r m true n bs es g = evP r m false n (cleanL (allOf bs es) bs) es g := by
  unfold evP
  rw [if_pos rfl, if_neg hl, if_neg (by decide)]
theorem evP_no {bs : List Blob} {es : List Entry} {g : List ByteArray} {r m : Int} {n : Nat} (hl : lackV bs r m ≠ 0) (ho : oldest es = none) : evP r m false n bs es g = evNo 10 := by
  unfold evP
  rw [if_neg (by decide), evG_no hl ho]
theorem evP_next {r m : Int} {n i : Nat} {bs : List Blob} {es : List Entry} {g : List ByteArray} {x : Entry} (h : lackV bs r m ≠ 0) (ho : oldest es = some i) (hx : es[i]? = some x) (hn : es.length ≤ n) :
    ∃ k, (es.take i ++ es.drop (i + 1)).length ≤ k ∧ evP r m false n bs es g = evP r m false k (cleanL (allOf bs (es.take i ++ es.drop (i + 1))) bs) (es.take i ++ es.drop (i + 1)) (g ++ [x.key]) := by
  obtain ⟨k, h1, -, h2⟩ := evG_next h ho hx hn (g := g)
  refine ⟨k, h1, ?_⟩
  unfold evP
  rw [if_neg (by decide), if_neg (by decide), h2]
/-- What holds of a store that is cleaned step by step. -/
structure EvFit (bs : List Blob) (es : List Entry) (G : List ByteArray) : Prop where
  b24 : bs.length ≤ 24
  e10 : es.length + G.length ≤ 10
  bulk : bulkN bs es ≤ 104
  fb : ∀ x ∈ bs, FitBlob x
  fe : ∀ x ∈ es, FitEntry x
  fg : ∀ x ∈ G, x.size ≤ 140737488351232
theorem EvFit.clean {bs : List Blob} {es : List Entry} {G : List ByteArray} (h : EvFit bs es G) (L : List ByteArray) : EvFit (cleanL L bs) es G :=
  ⟨Nat.le_trans (clean_len L bs) h.b24, h.e10, Nat.le_trans (Nat.add_le_add_right (clean_len L bs) _) h.bulk, clean_mem h.fb, h.fe, h.fg⟩
theorem sum_drop (es : List Entry) (i : Nat) : ((es.take i ++ es.drop (i + 1)).map (fun x => x.parts.length)).sum ≤ (es.map (fun x => x.parts.length)).sum := by
  have h1 : es = es.take i ++ es.drop i := (List.take_append_drop i es).symm
  have h2 : ((es.drop (i + 1)).map (fun x : Entry => x.parts.length)).sum ≤ ((es.drop i).map (fun x => x.parts.length)).sum := by
    rcases Nat.lt_or_ge i es.length with hi | hi
    · rw [List.drop_eq_getElem_cons hi, List.map_cons, List.sum_cons]; omega
    · rw [List.drop_eq_nil_of_le (by omega)]; simp
  conv => rhs; rw [h1]
  rw [List.map_append, List.map_append, List.sum_append, List.sum_append]
  omega
theorem EvFit.drop {bs : List Blob} {es : List Entry} {G : List ByteArray} (h : EvFit bs es G) {i : Nat} {x : Entry} (hx : es[i]? = some x) : EvFit bs (es.take i ++ es.drop (i + 1)) (G ++ [x.key]) := by
  have hi := (List.getElem?_eq_some_iff.1 hx).1
  refine ⟨h.b24, ?_, Nat.le_trans (Nat.add_le_add_left (sum_drop es i) _) h.bulk, h.fb, fun y hy => ?_, fun s hs => ?_⟩
  · have := h.e10
    simp only [List.length_append, List.length_take, List.length_drop, List.length_cons, List.length_nil]
    omega
  · rcases List.mem_append.1 hy with hy | hy
    · exact h.fe y (List.mem_of_mem_take hy)
    · exact h.fe y (List.mem_of_mem_drop hy)
  · rcases List.mem_append.1 hs with hs | hs
    · exact h.fg s hs
    · rw [List.mem_singleton] at hs
      subst hs
      exact (h.fe x (List.mem_of_getElem? hx)).1.1
def lenV : Value → Nat
  | .slice _ n _ => n
  | _ => 0
def oneV : Value → Nat
  | .bool true => 1
  | _ => 0
def evMea (w : World) (qo : Nat) (f : Value) : Nat := 2 * lenV ((w.cell? ⟨qo, 1, none⟩).getD (.int .i64 0)) + oneV f
theorem evMea_eq {w : World} {qo n c : Nat} {a : Option Addr} {v0 v2 v3 f : Value} {T : TypeId} (h : w.heap[qo]? = some (.cells #[v0, .slice a n c, v2, v3] T (0, 0))) : evMea w qo f = 2 * n + oneV f := by
  unfold evMea
  rw [(box4f h).2.1]
  rfl
/-- At the head of the loop. -/
def EvRel (w : World) (B qo : Nat) (R : EvO) (r t m : Int) (l8 g11 f12 : Value) (wr : World) (E1 : List Entry) (first : Bool) : Prop :=
  ∃ (n : Nat) (B1 : List Blob) (G : List ByteArray) (va : Option Addr) (vc : Nat) (ua : Option Addr) (uc : Nat),
    l8 = .int .i64 (lackV B1 r m) ∧ f12 = .bool first ∧ evP r m first n B1 E1 G = R ∧ E1.length ≤ n ∧ EvFit B1 E1 G ∧
    wr.heap[qo]? = some (.cells #[.slice va B1.length vc, .slice ua E1.length uc, .int .i64 r, .int .i64 t] 25 (0, 0)) ∧
    wr.heap[w.heap.size + 1]? = some (.cells #[.slice none 0 0, .slice none 0 0, .int .i64 0, .int .i64 0] 25 (0, 0)) ∧
    OBlob wr B (.slice va B1.length vc) B1 ∧ OEntry wr B (.slice ua E1.length uc) E1 ∧ OS 9 1 cStr wr B g11 G ∧ Below w.heap.size w wr

set_option maxRecDepth 100000 in
set_option maxHeartbeats 16000000 in
theorem evict_Run' (v u : Value) (bs : List Blob) (es : List Entry) (r t m : Int) (w : World) (h : RBl w v bs) (g : RE w u es) (z : Int) (hz3 : z = 0 → bs.length ≤ 24 ∧ es.length ≤ 10 ∧ bulkN bs es ≤ 104)
    (hch : ∀ w, RBl w v bs → RE w u es → Calls Tryz.prog 47 #[.agg #[v, u, .int .i64 r, .int .i64 t]] w fun e w' => e = .returned (.int .i64 z) ∧ Below w.heap.size w w') :
    Calls Tryz.prog 20 #[.agg #[v, u, .int .i64 r, .int .i64 t], .int .i64 m] w (EvPost (evO z bs es r m) r t w) := by
  obtain ⟨i0, ii0, iz0, iz1, iz2⟩ := info_parts info_str
  have hcp := hid (fun w h g => store_CopyO v u bs es r t w h g)
  unfold OwnedStore at hcp
  replace hch := hid hch
  have hR := hid h
  have hE := hid g
  have hf1 := hid (fit_B h)
  have hf2 := hid (fit_E g)
  have kz := hid (@evO_z z bs es r m)
  have km := hid (@evO_m bs es r m)
  have kP := hid (@evP_start bs es r m)
  have hR9 := hid (show evO z bs es r m = evO z bs es r m from rfl)
  obtain ⟨a, c, rfl, -⟩ := h
  obtain ⟨a2, c2, rfl, -⟩ := g
  obtain ⟨w1, hw1⟩ : ∃ w1 : World, w1 = (w.alloc (Obj.cells #[.slice a bs.length c, .slice a2 es.length c2, .int .i64 r, .int .i64 t] 25)).alloc (Obj.cells #[.slice none 0 0, .slice none 0 0, .int .i64 0, .int .i64 0] 25) := ⟨_, rfl⟩
  have hb1 := hid (show Below w.heap.size w w1 by rw [hw1]; exact b_alloc (b_alloc (Below.refl _ _) _) _)
  have hq1 := hid (show w1.heap[w.heap.size]? = some (.cells #[.slice a bs.length c, .slice a2 es.length c2, .int .i64 r, .int .i64 t] 25 (0, 0)) by
    rw [hw1]; exact hold (heap_alloc_new w _))
  have hp1 := hid (show w1.heap[w.heap.size + 1]? = some (.cells #[.slice none 0 0, .slice none 0 0, .int .i64 0, .int .i64 0] 25 (0, 0)) by
    rw [hw1]; exact heap_put _ _ _ (by simp))
  obtain ⟨x0, x1, x2, x3⟩ := box4f hq1.out
  go_enter Tryz.func20, Tryz.ntmps20
  go_wp2_with fail
  rw [← hw1]
  clear hw1
  ((with_reducible refine (hch.out _ (hR.out.mono EBlob.stable hb1.out) (hE.out.mono EEntry.stable hb1.out)).mono ?_); rintro e w2 ⟨rfl, b2⟩)
  have hq2 := hid (stays b2 hq1.out)
  have hp2 := hid (stays b2 hp1.out)
  have hb2 := hid (b_call hb1.out b2)
  clear b2 hq1 hp1 hb1 x0 x1 x2 x3 hch
  by_cases hz : z = 0
  · subst hz
    obtain ⟨h24, h10, hN⟩ := hz3 rfl
    have hft0 := hid (⟨h24, by simpa using h10, hN, hf1.out, hf2.out, fun x hx => (by cases hx)⟩ : EvFit bs es [])
    clear kz
    by_cases hrm : inRoom r m
    · replace kP := hid (kP.out hrm)
      generalize evO 0 bs es r m = R at *
      clear km hR9
      unfold inRoom at hrm
      obtain ⟨x0, x1, x2, x3⟩ := box4f hq2.out
      go_wp2_with fail
      ((with_reducible refine (room_Lacks (.slice a bs.length c) bs r m _ (hR.out.mono EBlob.stable hb2.out) hrm.1 hrm.2.1 hrm.2.2.1 hrm.2.2.2).mono ?_); rintro e w3 ⟨rfl, b3⟩)
      have hq3 := hid (stays b3 hq2.out)
      have hp3 := hid (stays b3 hp2.out)
      have hb3 := hid (b_call hb2.out b3)
      clear b3 x0 x1 x2 x3 hq2 hp2 hb2
      obtain ⟨x0, x1, x2, x3⟩ := box4f hq3.out
      go_wp2_with fail
      ((with_reducible refine (hcp.out _ (hR.out.mono EBlob.stable hb3.out) (hE.out.mono EEntry.stable hb3.out)).mono ?_); rintro e w4 ⟨v4, u4, rfl, o4, e4, b4⟩)
      obtain ⟨va, vc, rfl⟩ := OX.lenOf o4
      obtain ⟨ua, uc, rfl⟩ := OX.lenOf e4
      have hp4 := stays b4 hp3.out
      have hb4 := b_call hb3.out b4
      have hs3 := hb3.out.size
      have hl3 := heap_lt hp3.out
      have hs4 := b4.size
      clear b4 x0 x1 x2 x3 hq3 hp3 hcp
      obtain ⟨w5, hw5⟩ : ∃ w5 : World, w5 = w4.alloc (Obj.cells #[.slice va bs.length vc, .slice ua es.length uc, .int .i64 r, .int .i64 t] 25) := ⟨_, rfl⟩
      have ho5 := hid (show w5.heap[w4.heap.size]? = some (.cells #[.slice va bs.length vc, .slice ua es.length uc, .int .i64 r, .int .i64 t] 25 (0, 0)) by rw [hw5]; exact heap_alloc_new _ _)
      have hp5 := hid (show w5.heap[w.heap.size + 1]? = some (.cells #[.slice none 0 0, .slice none 0 0, .int .i64 0, .int .i64 0] 25 (0, 0)) by rw [hw5]; exact hold hp4)
      have hb5 := hid (show Below w.heap.size w w5 by rw [hw5]; exact b_alloc hb4 _)
      have o5 := hid (show OBlob w5 w3.heap.size (.slice va bs.length vc) bs by rw [hw5]; exact OBlob.alloc o4 _)
      have e5 := hid (show OEntry w5 w3.heap.size (.slice ua es.length uc) es by rw [hw5]; exact OEntry.alloc e4 _)
      clear o4 e4 hp4 hb4
      go_wp2_with fail
      rw [← hw5]
      clear hw5
      generalize w4.heap.size = qo at *
      have hBw := hb3.out.size
      generalize w3.heap.size = B at *
      have hrel0 := hid (⟨es.length, bs, [], va, vc, ua, uc, rfl, rfl, kP.out, Nat.le_refl _, hft0.out, ho5.out, hp5.out, o5.out, e5.out, OS.nil, hb5.out⟩ : EvRel w B qo R r t m (.int .i64 (lackV bs r m)) (.slice none 0 0) (.bool true) w5 es true)
      clear kP ho5 hp5 o5 e5 hb5 hft0 hb3 h24 h10 hN
      go_loopw [8, 11, 12, 13, 14] (fun l8 g11 f12 _ _ wr => ∃ (E1 : List Entry) (first : Bool), f12 = .bool first ∧ Hid (EvRel w B qo R r t m l8 g11 f12 wr E1 first)) (fun l8 g11 f12 _ _ wr => evMea wr qo f12)
      case atStart => exact ⟨es, true, rfl, hrel0⟩
      case round =>
        obtain ⟨E1, first, rfl, hrl⟩ := hrel
        obtain ⟨n, B1, G, va, vc, ua, uc, rfl, -, hP, hn, hft, ho, hp, oB, oE, oG, hb⟩ := hrl.out
        clear hrl hrel0
        have hM := hid (fun f => @evMea_eq wr qo _ _ _ _ _ _ f _ ho)
        have hlq := heap_lt ho
        replace hft := hid hft
        replace ho := hid ho
        replace hp := hid hp
        replace oB := hid oB
        replace oE := hid oE
        replace oG := hid oG
        replace hb := hid hb
        by_cases hl : lackV B1 r m = 0
        · have hR2 := hid (hP.symm.trans (evP_end hl))
          have d1 : decide (0 < lackV B1 r m) = false := by rw [hl]; rfl
          have rb := oB.out.toR (by have := hft.out.b24; omega) hft.out.fb
          have re := oE.out.toR (by have := hft.out.e10; omega) hft.out.fe
          have hcp2 := hid (store_CopyO _ _ B1 E1 r t wr rb re)
          unfold OwnedStore at hcp2
          obtain ⟨x0, x1, x2, x3⟩ := box4f ho.out
          clear rb re hP
          go_wp2_with fail
          ((with_reducible refine hcp2.out.mono ?_); rintro e w6 ⟨v6, u6, rfl, o6, e6, b6⟩)
          obtain ⟨a6, c6, rfl⟩ := OX.lenOf o6
          obtain ⟨a7, c7, rfl⟩ := OX.lenOf e6
          have rb6 := o6.toR (by have := hft.out.b24; omega) hft.out.fb
          have re6 := e6.toR (by have := hft.out.e10; omega) hft.out.fe
          have hp6 := stays b6 hp.out
          have og6 := OS.below oG.out b6
          have hb6 := b_call hb.out b6
          obtain ⟨p0, p1, p2, p3⟩ := box4f hp6
          have g0 := frozen_heap hp6 0
          have g1 := frozen_heap hp6 1
          have g2 := frozen_heap hp6 2
          have g3 := frozen_heap hp6 3
          have hlp := heap_lt hp6
          clear x0 x1 x2 x3 o6 e6 b6 hcp2
          go_wp2_with fail
          have hp9 := box4_same (u0 := .slice a6 B1.length c6) (u1 := .slice a7 E1.length c7) (u2 := .int .i64 r) (u3 := .int .i64 t) hp6
          have hb9 := bB_box4 hb6 (q := w.heap.size + 1) (by omega) (.slice a6 B1.length c6) (.slice a7 E1.length c7) (.int .i64 r) (.int .i64 t)
          have r9 := rs_w4 (a := a6) (n := B1.length) (c := c6) (a' := a7) (n' := E1.length) (c' := c7) (r := r) (t := t) EBlob.writes rb6 (SBox.of hp6)
          have e9 := rs_w4 (a := a6) (n := B1.length) (c := c6) (a' := a7) (n' := E1.length) (c' := c7) (r := r) (t := t) EEntry.writes re6 (SBox.of hp6)
          have t9 := reads_str (OS.boxS4 (u0 := .slice a6 B1.length c6) (u1 := .slice a7 E1.length c7) (u2 := .int .i64 r) (u3 := .int .i64 t) og6 hp6 (by decide)) (by have := hft.out.e10; omega) hft.out.fg
          obtain ⟨m0, m1, m2, m3⟩ := box4f hp9
          unfold World.box4 at m0 m1 m2 m3 hb9 t9
          (try simp only [Exit.inBlock, Exit.then])
          refine bodyPost_ret (by simp [results, Tryz.results20, go_sem, m0, m1, m2, m3]; try rfl) rfl ?_
          exact ev_ok hR2.out r9 e9 t9 hb9
        · have hpos : 0 < lackV B1 r m := by have := lackV_nonneg B1 r m; omega
          have d1 : decide (0 < lackV B1 r m) = true := decide_eq_true hpos
          cases first with
          | true =>
            have hR3 := hid ((evP_first hl).symm.trans hP)
            replace hn := hid hn
            replace hl := hid hl
            clear hP
            have hsB := hb.out.size
            have hcl := hid (evict_clean _ _ B1 E1 r t B wr oB.out oE.out (by omega) (by have := hft.out.b24; omega) (by have := hft.out.e10; omega) hft.out.fb hft.out.fe (by have := hft.out.bulk; omega))
            unfold CleanPost at hcl
            have hf2 := hid (hft.out.clean (allOf B1 E1))
            generalize hL : allOf B1 E1 = L at *
            replace hL := hid hL
            obtain ⟨x0, x1, x2, x3⟩ := box4f ho.out
            have lo := heap_lt ho.out
            go_wp2_with fail
            ((with_reducible refine hcl.out.mono ?_); rintro e w7 ⟨v7, u7, rfl, o7, e7, b7, k7⟩)
            have ho7 := k7 _ _ _ _ ho.out (by decide)
            have hp7 := k7 _ _ _ _ hp.out (by decide)
            have og7 := OS.kt oG.out k7 (by decide)
            have hb7 := hb.out.trans (b7.mono (by omega))
            obtain ⟨a7, c7, rfl⟩ := OX.lenOf o7
            obtain ⟨a8, c8, rfl⟩ := OX.lenOf e7
            have hqo7 : w.heap.size + 1 ≠ qo := by omega
            have rb7 := o7.toR (by have := hf2.out.b24; omega) hf2.out.fb
            have hlk := hid (fun W (h : RBl W (.slice a7 (cleanL L B1).length c7) (cleanL L B1)) => room_Lacks (.slice a7 (cleanL L B1).length c7) (cleanL L B1) r m W h hrm.1 hrm.2.1 hrm.2.2.1 hrm.2.2.2)
            have ho8 := box4_same (u0 := .slice a7 (cleanL L B1).length c7) (u1 := .slice a8 E1.length c8) (u2 := .int .i64 r) (u3 := .int .i64 t) ho7
            have hp8 := box4_other (q := qo) (u0 := .slice a7 (cleanL L B1).length c7) (u1 := .slice a8 E1.length c8) (u2 := .int .i64 r) (u3 := .int .i64 t) hp7 hqo7
            have o8 := o7.box4 ho7 (.slice a7 (cleanL L B1).length c7) (.slice a8 E1.length c8) (.int .i64 r) (.int .i64 t)
            have e8 := e7.box4 ho7 (.slice a7 (cleanL L B1).length c7) (.slice a8 E1.length c8) (.int .i64 r) (.int .i64 t)
            have og8 := OS.boxS4 (u0 := .slice a7 (cleanL L B1).length c7) (u1 := .slice a8 E1.length c8) (u2 := .int .i64 r) (u3 := .int .i64 t) og7 ho7 (by decide)
            have hb8 := bB_box4 hb7 (q := qo) (by omega) (.slice a7 (cleanL L B1).length c7) (.slice a8 E1.length c8) (.int .i64 r) (.int .i64 t)
            obtain ⟨y0, y1, y2, y3⟩ := box4f ho7
            have f0 := frozen_heap ho7 0
            have f1 := frozen_heap ho7 1
            have f2 := frozen_heap ho7 2
            have f3 := frozen_heap ho7 3
            have lo7 := heap_lt ho7
            obtain ⟨w8, hw8⟩ : ∃ w8 : World, w8 = World.box4 w7 qo (.slice a7 (cleanL L B1).length c7) (.slice a8 E1.length c8) (.int .i64 r) (.int .i64 t) := ⟨_, rfl⟩
            rw [← hw8] at ho8 hp8 o8 e8 og8 hb8
            obtain ⟨z0, z1, z2, z3⟩ := box4f ho8
            rw [hw8] at z0 z1 z2 z3
            unfold World.box4 at hw8 z0 z1 z2 z3
            have lo8 := heap_lt ho8
            have rb8 := hid (o8.toR (by have := hf2.out.b24; omega) hf2.out.fb)
            replace ho8 := hid ho8
            replace hp8 := hid hp8
            replace o8 := hid o8
            replace e8 := hid e8
            replace og8 := hid og8
            replace hb8 := hid hb8
            clear x0 x1 x2 x3 hcl o7 e7 b7 k7 og7 hb7 rb7
            go_wp2_with fail
            rw [← hw8]
            ((with_reducible refine (hlk.out _ rb8.out).mono ?_); rintro e w9 ⟨rfl, b9⟩)
            clear hw8 z0 z1 z2 z3 y0 y1 y2 y3 f0 f1 f2 f3 ho7 hp7 lo7
            have ho9 := hid (stays b9 ho8.out)
            have hp9 := hid (stays b9 hp8.out)
            have o9 := hid (OBlob.after o8.out b9)
            have e9 := hid (OEntry.after e8.out b9)
            have og9 := hid (OS.below og8.out b9)
            have hb9 := hid (b_call hb8.out b9)
            clear b9 hlk rb8
            go_wp2_with fail
            go_roundw
            case rel => exact ⟨E1, false, rfl, hid ⟨n, cleanL L B1, G, a7, c7, a8, c8, rfl, rfl, hR3.out, hn.out, hf2.out, ho9.out, hp9.out, o9.out, e9.out, og9.out, hb9.out⟩⟩
            case measure => rw [evMea_eq ho9.out, hM.out]; simp [oneV]
          | false =>
            have re := oE.out.toR (by have := hft.out.e10; omega) hft.out.fe
            have hol := hid (index_Oldest (.slice ua E1.length uc) E1 wr re)
            unfold OldPost at hol
            obtain ⟨x0, x1, x2, x3⟩ := box4f ho.out
            clear re
            go_wp2_with fail
            ((with_reducible refine hol.out.mono ?_); rintro e w4 ⟨i, ec, rfl, ha, b4⟩)
            have ho4 := hid (stays b4 ho.out)
            have hp4 := hid (stays b4 hp.out)
            have oB4 := hid (OBlob.after oB.out b4)
            have oE4 := hid (OEntry.after oE.out b4)
            have oG4 := hid (OS.below oG.out b4)
            have hb4 := hid (b_call hb.out b4)
            clear x0 x1 x2 x3 hol b4 ho hp oB oE oG hb
            rcases old_of ha with ⟨k, hok, hkl, rfl, rfl⟩ | ⟨hno, rfl⟩
            · have hx : E1[k]? = some E1[k] := List.getElem?_eq_getElem hkl
              generalize E1[k] = x at hx
              obtain ⟨n2, hn2, hnx⟩ := evP_next hl hok hx hn (g := G)
              have hR3 := hid (hnx.symm.trans hP)
              have hf0 := hft
              replace hft := hid (hf0.out.drop hx)
              have re4 := oE4.out.toR (by have := hf0.out.e10; omega) hf0.out.fe
              obtain ⟨bb, off, rfl, hbb, hee⟩ := rs_at re4 hx
              obtain ⟨dv, c0, -⟩ := hee
              obtain ⟨rsE, hrsE, hOE, -⟩ := id oE4.out
              rcases os_forms' hOE with ⟨h0, -⟩ | ⟨gE, kE, hvE, -⟩
              · cases h0
              · simp only [Value.slice.injEq, Option.some.injEq, Addr.mk.injEq, and_true] at hvE
                obtain ⟨⟨rfl, rfl⟩, -, rfl⟩ := hvE
                rw [Nat.zero_add] at c0
                have hk0 : (0 : Int) ≤ (k : Int) := by omega
                have hk1 : (k : Int) < (E1.length : Int) := by omega
                have hsz4 := hb4.out.size
                have hG10 := hf0.out.e10
                have hE24 : E1.length ≤ 10 := by omega
                obtain ⟨x0, x1, x2, x3⟩ := box4f ho4.out
                have lo4 := heap_lt ho4.out
                have hrow := row_one (s := 1) (bs := 16) (cells := cStr) w4 9 x.key #[.string x.key] w4.heap.size rfl rfl (by decide)
                have g1w : IntKind.i64.wrap ((k : Int) + 1) = (k : Int) + 1 := IntWalk.i64_in _ (by omega)
                clear ha hnx hok re4 hOE hrsE hP
                have hBs4 : B ≤ w4.heap.size := by have := (World.ownsRow.lt oE4.out.choose_spec.2.1 _ rfl); omega
                go_wp2_with (at_builtin; go_must (refine wpL_append flat_rstr rfl (.tmp 49) (.tmp 56) 26 rfl 9 i0 _ Tryz.underlying26 ii0 iz0 iz1 iz2 rfl B _ G rfl (OS.alloc oG4.out _) _ [x.key] rfl hrow ?c1 ?c2 ?c3 ?_))
                case c1 => simp only [List.length_cons, List.length_nil]; omega
                case c2 => simp only [List.length_cons, List.length_nil, maxLen]; omega
                case c3 => simp; omega
                intro v5 w5 oG5 hg5
                have ho5 := box_keep (OS.alloc oG4.out _) hg5 (hold ho4.out) (by decide)
                have hp5 := box_keep (OS.alloc oG4.out _) hg5 (hold hp4.out) (by decide)
                have oB5 := OBlob.keep (OS.alloc oG4.out _) hg5 (by decide) (by decide) (OBlob.alloc oB4.out _)
                have oE5 := OEntry.keep (OS.alloc oG4.out _) hg5 (by decide) (by decide) (OEntry.alloc oE4.out _)
                have hb5 := (b_alloc hb4.out _).grown hg5 (by simp; omega) (fun j hj => Nat.le_trans hBw (OS.block oG4.out j hj))
                have hB5 : B ≤ w5.heap.size := by have := hg5.size; simp at this; omega
                have hdl := hid (slices_Delete_EG E1 k B bb uc w5 oE5 hkl hB5 (by omega))
                unfold DeletedE at hdl
                obtain ⟨y0, y1, y2, y3⟩ := box4f ho5
                have lo5 := heap_lt ho5
                clear x0 x1 x2 x3 hg5 hrow c0 hbb ho4 hp4 oB4 oE4 oG4 hb4 lo4
                go_wp2_with fail
                ((with_reducible refine hdl.out.mono ?_); rintro e w6 ⟨⟨rfl, oE6, b6⟩, gr6⟩)
                obtain ⟨rs5, -, hOE, -⟩ := id oE5
                have ho6 := box_keep hOE gr6 ho5 (by decide)
                have hp6 := box_keep hOE gr6 hp5 (by decide)
                have oB6 := OBlob.keep hOE gr6 (by decide) (by decide) oB5
                have oG6 := OS.apart hOE oG5 (by decide) gr6
                have hb6 := hb5.trans (b6.mono (by omega))
                have hlE : (E1.take k ++ E1.drop (k + 1)).length = E1.length - 1 := by rw [List.length_append, List.length_take, List.length_drop]; omega
                have hpq : w.heap.size + 1 ≠ qo := by omega
                have ho6x' := box4_1 (u := .slice (some ⟨bb, 0, none⟩) (E1.length - 1) uc) ho6
                have hp6x := hid (box_other (q := qo) (o := 1) (u := .slice (some ⟨bb, 0, none⟩) (E1.length - 1) uc) hp6 hpq)
                have oB6x := hid (oB6.other (o := 1) (u := .slice (some ⟨bb, 0, none⟩) (E1.length - 1) uc) ho6 (by decide) (by decide))
                have oE6x' := oE6.other (o := 1) (u := .slice (some ⟨bb, 0, none⟩) (E1.length - 1) uc) ho6 (by decide) (by decide)
                have oG6x := hid (OS.other (o := 1) (u := .slice (some ⟨bb, 0, none⟩) (E1.length - 1) uc) oG6 ho6 (by decide))
                have hb6x := hid (hb6.setCell (p := ⟨qo, 1, none⟩) (show w.heap.size ≤ qo by omega) (.slice (some ⟨bb, 0, none⟩) (E1.length - 1) uc))
                obtain ⟨s0, s1, s2, s3⟩ := box4f ho6
                have fs1 := frozen_heap ho6 1
                have lo6 := heap_lt ho6
                obtain ⟨w6x, hw6⟩ : ∃ w6x : World, w6x = w6.setCell ⟨qo, 1, none⟩ (.slice (some ⟨bb, 0, none⟩) (E1.length - 1) uc) := ⟨_, rfl⟩
                rw [← hw6] at ho6x' hp6x oB6x oE6x' oG6x hb6x
                rw [← hlE] at ho6x' oE6x'
                have ho6x := hid ho6x'
                have oE6x := hid oE6x'
                have hBq : B ≤ w6x.heap.size := by rw [hw6]; have := gr6.size; simp; omega
                have hE2l : (E1.take k ++ E1.drop (k + 1)).length < E1.length := by omega
                clear y0 y1 y2 y3 hdl gr6 b6 hOE ho5 hp5 oB5 oE5 oG5 hb5 lo5 ho6 hp6 oB6 oE6 oG6 hb6 oE6x' hB5
                replace hn2 := hid hn2
                generalize hE2 : E1.take k ++ E1.drop (k + 1) = E2 at *
                replace hE2 := hid hE2
                clear hf0 hlE
                have hsB := hb6x.out.size
                have hcl := hid (evict_clean _ _ B1 E2 r t B w6x oB6x.out oE6x.out (by omega) (by have := hft.out.b24; omega) (by have := hft.out.e10; omega) hft.out.fb hft.out.fe (by have := hft.out.bulk; omega))
                unfold CleanPost at hcl
                have hf2 := hid (hft.out.clean (allOf B1 E2))
                generalize hL : allOf B1 E2 = L at *
                replace hL := hid hL
                obtain ⟨x0, x1, x2, x3⟩ := box4f ho6x.out
                have lo := heap_lt ho6x.out
                rw [hw6] at x0 x1 x2 x3
                go_wp2_with fail
                rw [← hw6]
                clear hw6 s0 s1 s2 s3 fs1 lo6
                ((with_reducible refine hcl.out.mono ?_); rintro e w7 ⟨v7, u7, rfl, o7, e7, b7, k7⟩)
                have ho7 := k7 _ _ _ _ ho6x.out (by decide)
                have hp7 := k7 _ _ _ _ hp6x.out (by decide)
                have og7 := OS.kt oG6x.out k7 (by decide)
                have hb7 := hb6x.out.trans (b7.mono (by omega))
                obtain ⟨a7, c7, rfl⟩ := OX.lenOf o7
                obtain ⟨a8, c8, rfl⟩ := OX.lenOf e7
                have hqo7 : w.heap.size + 1 ≠ qo := by omega
                have rb7 := o7.toR (by have := hf2.out.b24; omega) hf2.out.fb
                have hlk := hid (fun W (h : RBl W (.slice a7 (cleanL L B1).length c7) (cleanL L B1)) => room_Lacks (.slice a7 (cleanL L B1).length c7) (cleanL L B1) r m W h hrm.1 hrm.2.1 hrm.2.2.1 hrm.2.2.2)
                have ho8 := box4_same (u0 := .slice a7 (cleanL L B1).length c7) (u1 := .slice a8 E2.length c8) (u2 := .int .i64 r) (u3 := .int .i64 t) ho7
                have hp8 := box4_other (q := qo) (u0 := .slice a7 (cleanL L B1).length c7) (u1 := .slice a8 E2.length c8) (u2 := .int .i64 r) (u3 := .int .i64 t) hp7 hqo7
                have o8 := o7.box4 ho7 (.slice a7 (cleanL L B1).length c7) (.slice a8 E2.length c8) (.int .i64 r) (.int .i64 t)
                have e8 := e7.box4 ho7 (.slice a7 (cleanL L B1).length c7) (.slice a8 E2.length c8) (.int .i64 r) (.int .i64 t)
                have og8 := OS.boxS4 (u0 := .slice a7 (cleanL L B1).length c7) (u1 := .slice a8 E2.length c8) (u2 := .int .i64 r) (u3 := .int .i64 t) og7 ho7 (by decide)
                have hb8 := bB_box4 hb7 (q := qo) (by omega) (.slice a7 (cleanL L B1).length c7) (.slice a8 E2.length c8) (.int .i64 r) (.int .i64 t)
                obtain ⟨y0, y1, y2, y3⟩ := box4f ho7
                have f0 := frozen_heap ho7 0
                have f1 := frozen_heap ho7 1
                have f2 := frozen_heap ho7 2
                have f3 := frozen_heap ho7 3
                have lo7 := heap_lt ho7
                obtain ⟨w8, hw8⟩ : ∃ w8 : World, w8 = World.box4 w7 qo (.slice a7 (cleanL L B1).length c7) (.slice a8 E2.length c8) (.int .i64 r) (.int .i64 t) := ⟨_, rfl⟩
                rw [← hw8] at ho8 hp8 o8 e8 og8 hb8
                obtain ⟨z0, z1, z2, z3⟩ := box4f ho8
                rw [hw8] at z0 z1 z2 z3
                unfold World.box4 at hw8 z0 z1 z2 z3
                have lo8 := heap_lt ho8
                have rb8 := hid (o8.toR (by have := hf2.out.b24; omega) hf2.out.fb)
                replace ho8 := hid ho8
                replace hp8 := hid hp8
                replace o8 := hid o8
                replace e8 := hid e8
                replace og8 := hid og8
                replace hb8 := hid hb8
                clear x0 x1 x2 x3 hcl o7 e7 b7 k7 og7 hb7 rb7
                go_wp2_with fail
                rw [← hw8]
                ((with_reducible refine (hlk.out _ rb8.out).mono ?_); rintro e w9 ⟨rfl, b9⟩)
                clear hw8 z0 z1 z2 z3 y0 y1 y2 y3 f0 f1 f2 f3 ho7 hp7 lo7
                have ho9 := hid (stays b9 ho8.out)
                have hp9 := hid (stays b9 hp8.out)
                have o9 := hid (OBlob.after o8.out b9)
                have e9 := hid (OEntry.after e8.out b9)
                have og9 := hid (OS.below og8.out b9)
                have hb9 := hid (b_call hb8.out b9)
                clear b9 hlk rb8
                go_wp2_with fail
                go_roundw
                case rel => exact ⟨E2, false, rfl, hid ⟨n2, cleanL L B1, (G ++ [x.key]), a7, c7, a8, c8, rfl, rfl, hR3.out, hn2.out, hf2.out, ho9.out, hp9.out, o9.out, e9.out, og9.out, hb9.out⟩⟩
                case measure => rw [evMea_eq ho9.out, hM.out]; simp [oneV]; omega
            · have hR2 := hid (hP.symm.trans (evP_no hl hno))
              clear hno ha hP
              obtain ⟨x0, x1, x2, x3⟩ := box4f ho4.out
              obtain ⟨p0, p1, p2, p3⟩ := box4f hp4.out
              have g0 := frozen_heap hp4.out 0
              have g1 := frozen_heap hp4.out 1
              have g2 := frozen_heap hp4.out 2
              have g3 := frozen_heap hp4.out 3
              have hlp := heap_lt hp4.out
              go_wp2_with fail
              have hp9 := box4_same (u0 := .slice none 0 0) (u1 := .slice none 0 0) (u2 := .int .i64 0) (u3 := .int .i64 0) hp4.out
              have hb9 := bB_box4 hb4.out (q := w.heap.size + 1) (by omega) (.slice none 0 0) (.slice none 0 0) (.int .i64 0) (.int .i64 0)
              obtain ⟨m0, m1, m2, m3⟩ := box4f hp9
              unfold World.box4 at m0 m1 m2 m3 hb9
              (try simp only [Exit.inBlock, Exit.then])
              refine bodyPost_ret (by simp [results, Tryz.results20, go_sem, m0, m1, m2, m3]; try rfl) rfl ?_
              exact ev_no hR2.out (by decide) hb9
    · have hd := hid (km.out hrm)
      clear kP
      obtain ⟨x0, x1, x2, x3⟩ := box4f hq2.out
      have hno := hid (fun w => room_Lacks_no (.slice a bs.length c) r m w hrm)
      replace hrm := hid hrm
      go_wp2_with fail
      ((with_reducible refine (hno.out _).mono ?_); rintro e w3 ⟨rfl, rfl⟩)
      obtain ⟨p0, p1, p2, p3⟩ := box4f hp2.out
      have g0 := frozen_heap hp2.out 0
      have g1 := frozen_heap hp2.out 1
      have g2 := frozen_heap hp2.out 2
      have g3 := frozen_heap hp2.out 3
      have hlp := heap_lt hp2.out
      go_wp2_with fail
      have hp9 := box4_same (u0 := .slice none 0 0) (u1 := .slice none 0 0) (u2 := .int .i64 0) (u3 := .int .i64 0) hp2.out
      have hb9 := bB_box4 hb2.out (q := w.heap.size + 1) (by omega) (.slice none 0 0) (.slice none 0 0) (.int .i64 0) (.int .i64 0)
      obtain ⟨m0, m1, m2, m3⟩ := box4f hp9
      unfold World.box4 at m0 m1 m2 m3 hb9
      (try simp only [Exit.inBlock, Exit.then])
      refine bodyPost_ret (by simp [results, Tryz.results20, go_sem, m0, m1, m2, m3]; try rfl) rfl ?_
      exact ev_no hd.out (by decide) hb9
  · have ht : (z != 0) = true := by simp [hz]
    have hd := hid (kz.out hz)
    replace hz := hid hz
    clear km kP hcp
    obtain ⟨p0, p1, p2, p3⟩ := box4f hp2.out
    have g0 := frozen_heap hp2.out 0
    have g1 := frozen_heap hp2.out 1
    have g2 := frozen_heap hp2.out 2
    have g3 := frozen_heap hp2.out 3
    have hlp := heap_lt hp2.out
    go_wp2_with fail
    have hp9 := box4_same (u0 := .slice none 0 0) (u1 := .slice none 0 0) (u2 := .int .i64 0) (u3 := .int .i64 0) hp2.out
    have hb9 := bB_box4 hb2.out (q := w.heap.size + 1) (by omega) (.slice none 0 0) (.slice none 0 0) (.int .i64 0) (.int .i64 0)
    obtain ⟨m0, m1, m2, m3⟩ := box4f hp9
    unfold World.box4 at m0 m1 m2 m3 hb9
    (try simp only [Exit.inBlock, Exit.then])
    refine bodyPost_ret (by simp [results, Tryz.results20, go_sem, m0, m1, m2, m3]; try rfl) rfl ?_
    exact ev_no hd.out hz.out hb9
end Go.Proofs.YtkbijjglodnfbaaGreat
